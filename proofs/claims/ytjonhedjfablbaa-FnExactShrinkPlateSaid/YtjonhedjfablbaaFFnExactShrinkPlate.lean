/- What the functions that laws.FnExactShrinkPlate reaches compute, and that the law is true: over numbers alone. -/
import Derived.Test.YtjonhedjfablbaaPFnExactShrinkPlatex
import Derived.Test.YtjonhedjfablbaaPic2
import Derived.Laws.Strings
namespace Go.Proofs.Ytjonhedjfablbaa.PFnExactShrinkPlate
open Go.RowKit Go.Proofs.YtjonhedjfablbaaW.PrintWords Go.Proofs.YtjonhedjfablbaaW.PrintLast Go.Proofs.YtjonhedjfablbaaW.PrintMore
set_option linter.unusedVariables false
set_option linter.unusedSimpArgs false
set_option linter.unusedSimpArgs false
open Pic
theorem w64 {x : Int} (h1 : -9223372036854775808 ≤ x) (h2 : x ≤ 9223372036854775807) : wrap64 x = x := by unfold wrap64; omega
theorem rd_at (l : List Int) (i : Int) : rd l i = at_ l i := rfl
theorem tmod_pos {n x : Int} (h : 0 ≤ x) : Int.tmod x n = x % n := Int.tmod_eq_emod_of_nonneg h
theorem tdiv_pos {n x : Int} (h : 0 ≤ x) : Int.tdiv x n = x / n := Int.tdiv_eq_ediv_of_nonneg h
theorem dec_ff {p : Prop} [Decidable p] (h : ¬ p) : some false = some (decide p) := by rw [decide_eq_false h]
theorem dec_dd {p q : Prop} [Decidable p] [Decidable q] (h : p ↔ q) : some (decide p) = some (decide q) := by rw [decide_eq_decide.mpr h]
theorem mn_eq (a b : Int) : mn a b = if b < a then b else a := rfl
theorem up_wide {W H : Int} {l : List Int} (h : Up W H l 1) : Up W H l 255 := ⟨h.1, h.2.1, fun v hv => ⟨(h.2.2 v hv).1, by have := (h.2.2 v hv).2; omega⟩⟩
theorem mk_neg (n : Nat) : ¬ ((1 : Int) + n < 0) := by omega
theorem eqs_l (d : Nat) : ∀ (k : Nat) (l : List Int) (i : Int), 0 ≤ i → l.length ≤ 1048576 → l.length - i.toNat ≤ d → d < k → laws_eqIntS.l0 k l l i = some true := by
  induction d with
  | zero =>
    intro k l i h0 hl hd hk
    obtain ⟨k, rfl⟩ : ∃ m, k = m + 1 := ⟨k - 1, by omega⟩
    rw [laws_eqIntS.l0, if_neg (by omega)]
  | succ d ih =>
    intro k l i h0 hl hd hk
    obtain ⟨k, rfl⟩ : ∃ m, k = m + 1 := ⟨k - 1, by omega⟩
    rw [laws_eqIntS.l0]
    by_cases h : i < (l.length : Int)
    · rw [if_pos h, if_pos h0, if_pos h, if_pos rfl, w64 (by omega) (by omega)]; exact ih k l (i + 1) (by omega) hl (by omega) (by omega)
    · rw [if_neg h]
theorem eqs {l : List Int} (hl : l.length ≤ 1048576) {k : Nat} (hk : 1100000 ≤ k) : laws_eqIntS.f k l l = some true := by
  unfold laws_eqIntS.f; rw [if_pos rfl, eqs_l l.length k l 0 (by omega) hl (by omega) (by omega)]
theorem eqp (a b : Int) {l : List Int} (hl : l.length ≤ 1048576) {k : Nat} (hk : 1100000 ≤ k) : laws_eqPicture.f k a b l a b l = some true := by
  unfold laws_eqPicture.f; rw [if_pos rfl, if_pos rfl, eqs hl hk]; rfl
theorem marks_l (d : Nat) : ∀ (k : Nat) (l : List Int) (m i : Int), 0 ≤ i → i ≤ l.length → 0 ≤ m → m + d ≤ 1000000000 → l.length ≤ 1048576 → (l.length : Int) - i = d → d < k →
    laws_markIntS.l0 k l m i = some (m + d, l.take i.toNat ++ marks m d) := by
  induction d with
  | zero =>
    intro k l m i h0 h1 m0 m1 hl hd hk
    obtain ⟨k, rfl⟩ : ∃ m, k = m + 1 := ⟨k - 1, by omega⟩
    rw [laws_markIntS.l0, if_neg (by omega)]
    simp only [marks, List.append_nil, List.take_of_length_le (show l.length ≤ i.toNat by omega)]
    rw [show m + ((0 : Nat) : Int) = m by omega]
  | succ d ih =>
    intro k l m i h0 h1 m0 m1 hl hd hk
    obtain ⟨k, rfl⟩ : ∃ m, k = m + 1 := ⟨k - 1, by omega⟩
    rw [laws_markIntS.l0, if_pos (by omega), if_pos h0, w64 (by omega) (by omega), w64 (by omega) (by omega), ih k _ (m + 1) (i + 1) (by omega) (by rw [List.length_set]; omega) (by omega) (by omega) (by rw [List.length_set]; omega) (by rw [List.length_set]; omega) (by omega)]
    have e : (l.set i.toNat m).take (i + 1).toNat = l.take i.toNat ++ [m] := by
      rw [show (i + 1).toNat = i.toNat + 1 by omega, List.take_succ_eq_append_getElem (by rw [List.length_set]; omega), List.getElem_set]
      rw [if_pos rfl, List.take_set_of_le (Nat.le_refl _)]
    rw [e]
    simp only [marks, List.append_assoc, List.cons_append, List.nil_append]
    rw [show m + 1 + (d : Int) = m + ((d + 1 : Nat) : Int) by omega]
theorem mark_s {l : List Int} {m : Int} (m0 : 0 ≤ m) (m1 : m ≤ 100000000) (hl : l.length ≤ 1048576) {k : Nat} (hk : 1100000 ≤ k) : laws_markIntS.f k l m = some (m + l.length, marks m l.length) := by
  unfold laws_markIntS.f; rw [marks_l l.length k l m 0 (by omega) (by omega) m0 (by omega) hl (by omega) (by omega)]; rfl
theorem mark_p (a b : Int) {l : List Int} {m : Int} (m0 : 0 ≤ m) (m1 : m ≤ 100000000) (hl : l.length ≤ 1048576) {k : Nat} (hk : 1100000 ≤ k) : laws_markPicture.f k a b l m = some (m + l.length, marks m l.length) := by
  unfold laws_markPicture.f; rw [mark_s m0 m1 hl hk]; rfl
theorem held_l (n : Nat) (m : Int) (m0 : 0 ≤ m) (m1 : m ≤ 100000000) (hn : n ≤ 1048576) (d : Nat) : ∀ (k : Nat) (i : Int), 0 ≤ i → i ≤ n → (n : Int) - i = d → d < k → laws_heldIntS.l0 k (marks m n) (m + i) i = some (m + n) := by
  induction d with
  | zero =>
    intro k i h0 h1 hd hk
    obtain ⟨k, rfl⟩ : ∃ m, k = m + 1 := ⟨k - 1, by omega⟩
    rw [laws_heldIntS.l0, if_neg (by rw [marks_length]; omega), show m + i = m + (n : Int) by omega]
  | succ d ih =>
    intro k i h0 h1 hd hk
    obtain ⟨k, rfl⟩ : ∃ m, k = m + 1 := ⟨k - 1, by omega⟩
    have e : rd (marks m n) i = m + i := by
      rw [rd_at]; unfold at_; rw [List.getD_eq_getElem?_getD, marks_at n m i.toNat (by omega), Option.getD_some]; omega
    rw [laws_heldIntS.l0, if_pos (by rw [marks_length]; omega), if_pos h0, if_pos e, w64 (by omega) (by omega), w64 (by omega) (by omega), show m + i + 1 = m + (i + 1) by omega]
    exact ih k (i + 1) (by omega) (by omega) (by omega) (by omega)
theorem held_s {n : Nat} {m : Int} (m0 : 0 ≤ m) (m1 : m ≤ 100000000) (hn : n ≤ 1048576) {k : Nat} (hk : 1100000 ≤ k) : laws_heldIntS.f k (marks m n) m = some (m + n) := by
  have := held_l n m m0 m1 hn n k 0 (by omega) (by omega) (by omega) (by omega)
  rw [Int.add_zero] at this
  unfold laws_heldIntS.f; exact this
theorem held_p (a b : Int) {n : Nat} {m : Int} (m0 : 0 ≤ m) (m1 : m ≤ 100000000) (hn : n ≤ 1048576) {k : Nat} (hk : 1100000 ≤ k) : laws_heldPicture.f k a b (marks m n) m = some (m + n) := by
  unfold laws_heldPicture.f; rw [held_s m0 m1 hn hk, Option.bind_some, if_neg (by omega)]
theorem sz_s (l : List Int) (m : Int) (hm : 0 ≤ m) (hm2 : m ≤ 1048576) (hl : l.length ≤ 140737488351232) : laws_szIntS.f l m = some (if (l.length : Int) ≤ m then m - l.length else -1) := by
  unfold laws_szIntS.f
  rw [w64 (by omega) (by omega)]
  by_cases h : (l.length : Int) ≤ m
  · rw [if_neg (by omega), if_pos h]
  · rw [if_pos (by omega), if_neg h]
theorem sz_p (a b : Int) (l : List Int) (m : Int) (hm : 0 ≤ m) (hm2 : m ≤ 1048576) (hl : l.length ≤ 140737488351232) : laws_szPicture.f a b l m = some (if (l.length : Int) ≤ m then m - l.length else -1) := by
  unfold laws_szPicture.f
  rw [sz_s l m hm hm2 hl, Option.bind_some]
  by_cases h : (l.length : Int) ≤ m
  · rw [if_pos h, if_neg (by omega)]
  · rw [if_neg h, if_pos (by omega)]
theorem tos_l (d : Nat) : ∀ (k : Nat) (l o : List Int) (i : Int), 0 ≤ i → i ≤ l.length → o.length = l.length → l.length ≤ 1048576 → (l.length : Int) - i = d → d < k → laws_toIntS.l0 k l o i = some (o.take i.toNat ++ l.drop i.toNat) := by
  induction d with
  | zero =>
    intro k l o i h0 h1 ho hl hd hk
    obtain ⟨k, rfl⟩ : ∃ m, k = m + 1 := ⟨k - 1, by omega⟩
    rw [laws_toIntS.l0, if_neg (by omega), List.drop_eq_nil_of_le (by omega), List.append_nil, List.take_of_length_le (by omega)]
  | succ d ih =>
    intro k l o i h0 h1 ho hl hd hk
    obtain ⟨k, rfl⟩ : ∃ m, k = m + 1 := ⟨k - 1, by omega⟩
    rw [laws_toIntS.l0, if_pos (by omega), if_pos h0, if_pos (by omega), w64 (by omega) (by omega), rd_at, ih k l _ (i + 1) (by omega) (by omega) (by rw [List.length_set]; exact ho) hl (by omega) (by omega), drop_at l h0 (by omega)]
    rw [show (i + 1).toNat = i.toNat + 1 by omega, List.take_succ_eq_append_getElem (by rw [List.length_set]; omega), List.getElem_set, if_pos rfl, List.take_set_of_le (Nat.le_refl _)]
    simp only [List.append_assoc, List.cons_append, List.nil_append]
theorem tos {l : List Int} (hl : l.length ≤ 1048576) {k : Nat} (hk : 1100000 ≤ k) : laws_toIntS.f k l = some l := by
  unfold laws_toIntS.f
  rw [if_pos (by omega), if_pos (by omega), tos_l l.length k l _ 0 (by omega) (by omega) (by simp) hl (by omega) (by omega)]; rfl
theorem top (a b : Int) {l : List Int} (hl : l.length ≤ 1048576) {k : Nat} (hk : 1100000 ≤ k) : laws_toPicture.f k a b l = some (a, b, l) := by
  unfold laws_toPicture.f; rw [tos hl hk]; rfl
theorem l1In (x a b : Int) : spec_l1In.f x a b = some (decide (a ≤ x ∧ x ≤ b)) := by
  unfold spec_l1In.f
  split
  all_goals first | exact dec_dd (by omega) | exact dec_ff (by omega)
theorem size_s (W H : Int) : spec_l1Size.f W H = some (decide (Sz W H)) := by
  unfold spec_l1Size.f
  simp only [l1In, Option.bind_some]
  by_cases hW : 1 ≤ W ∧ W ≤ 64
  · by_cases hH : 1 ≤ H ∧ H ≤ 64
    · have := mul_bd (c := 64) (d := 64) (show 0 ≤ W by omega) hW.2 (show 0 ≤ H by omega) hH.2
      rw [if_pos (decide_eq_true hW), if_pos (decide_eq_true hH), w64 (by omega) (by omega)]
      exact dec_dd (by unfold Sz; omega)
    · rw [if_pos (decide_eq_true hW), if_neg (by rw [decide_eq_true_iff]; exact hH)]; exact dec_ff (fun h => hH ⟨h.2.2.1, h.2.2.2.1⟩)
  · rw [if_neg (by rw [decide_eq_true_iff]; exact hW)]; exact dec_ff (fun h => hW ⟨h.1, h.2.1⟩)
theorem up_l (m : Int) (d : Nat) : ∀ (k : Nat) (l : List Int) (i : Int), 0 ≤ i → l.length ≤ 1048576 → i ≤ l.length → (l.length : Int) - i = d → d < k → spec_l1Up.l0 k m l l.length i = some (decide (All m (l.drop i.toNat))) := by
  induction d with
  | zero =>
    intro k l i h0 hl h1 hd hk
    obtain ⟨k, rfl⟩ : ∃ m, k = m + 1 := ⟨k - 1, by omega⟩
    rw [spec_l1Up.l0, if_neg (by omega), List.drop_eq_nil_of_le (by omega)]
    rw [decide_eq_true (show All m [] from fun v h => by simp at h)]
  | succ d ih =>
    intro k l i h0 hl h1 hd hk
    obtain ⟨k, rfl⟩ : ∃ m, k = m + 1 := ⟨k - 1, by omega⟩
    rw [spec_l1Up.l0, if_pos (by omega), if_pos h0, if_pos (by omega), l1In, rd_at, Option.bind_some, drop_at l h0 (by omega), w64 (by omega) (by omega)]
    by_cases h : 0 ≤ at_ l i ∧ at_ l i ≤ m
    · rw [if_pos (decide_eq_true h), ih k l (i + 1) (by omega) hl (by omega) (by omega) (by omega)]
      exact dec_dd (by rw [All.cons]; exact ⟨fun x => ⟨h, x⟩, fun x => x.2⟩)
    · rw [if_neg (by rw [decide_eq_true_iff]; exact h)]; exact dec_ff (fun x => h (All.cons.mp x).1)
theorem up_s {W H : Int} {l : List Int} (hl : l.length ≤ 1048576) (m : Int) {k : Nat} (hk : 1100000 ≤ k) : spec_l1Up.f k W H l m = some (decide (Up W H l m)) := by
  obtain ⟨k, rfl⟩ : ∃ m, k = m + 1 := ⟨k - 1, by omega⟩
  unfold spec_l1Up.f
  rw [size_s, Option.bind_some]
  by_cases h : Sz W H
  · have := h.area
    rw [if_pos (decide_eq_true h), w64 (by omega) (by omega), spec_l1Up.j0]
    by_cases e : (l.length : Int) = W * H
    · rw [if_neg (by rw [bne_iff_ne]; exact fun x => x e), up_l m l.length k l 0 (by omega) hl (by omega) (by omega) (by omega)]
      exact dec_dd ⟨fun x => ⟨h, e, x⟩, fun x => x.2.2⟩
    · rw [if_pos (by rw [bne_iff_ne]; exact e)]; exact dec_ff (fun x => e x.2.1)
  · rw [if_neg (by rw [decide_eq_true_iff]; exact h), spec_l1Up.j0, if_pos rfl]; exact dec_ff (fun x => h x.1)
theorem plate_s {W H : Int} {l : List Int} (hl : l.length ≤ 1048576) {k : Nat} (hk : 1100000 ≤ k) : spec_IsPlate.f k W H l = some (decide (Up W H l 1)) := by
  unfold spec_IsPlate.f; rw [up_s hl 1 hk]; rfl
theorem empty_s {W H : Int} (h : Sz W H) : spec_l1Empty.f W H = some (W, H, List.replicate (W * H).toNat 0) := by
  have := h.area
  unfold spec_l1Empty.f
  rw [w64 (by omega) (by omega), if_pos (by omega), if_pos (by omega)]
theorem mod_s {x n : Int} (h0 : 0 < n) (h1 : n ≤ 9223372036854775807) : spec_l2Mod.f x n = some (x % n) := by
  unfold spec_l2Mod.f
  rw [if_neg (by omega)]
  have h2 := Int.emod_nonneg x (show n ≠ 0 by omega)
  have h3 := Int.emod_lt_of_pos x h0
  have e := Int.tmod_eq_emod (a := x) (b := n)
  by_cases hc : 0 ≤ x ∨ n ∣ x
  · rw [if_pos hc] at e
    rw [e, if_neg (by omega)]; simp
  · rw [if_neg hc] at e
    rw [e, if_pos (by omega), w64 (by omega) (by omega)]; simp only [Option.some.injEq]; omega
theorem near_s {W H : Int} {l : List Int} (h : Up W H l 1) {i : Int} (i0 : 0 ≤ i) (i1 : i < W * H) : spec_l7Near.f W H l i = some (near W H l i) := by
  have hs := h.1; have hW := h.1.1; have hW2 := h.1.2.1; have hH := h.1.2.2.1; have hH2 := h.1.2.2.2.1; have hl := h.2.1; have ha := hs.area
  have hr := hs.row i0 i1
  have q := mul_bd (c := 64) (d := 64) hr.2.2.1 (by omega) (show 0 ≤ W by omega) hW2
  have e0 : (i / W) % H = i / W := Int.emod_eq_of_lt hr.2.2.1 hr.2.2.2
  have e1 : (i % W) % W = i % W := Int.emod_eq_of_lt hr.1 hr.2.1
  have p1 := pt_idx hW hH (i % W + 1) (i / W); have p2 := pt_idx hW hH (i % W - 1) (i / W); have p3 := pt_idx hW hH (i % W) (i / W + 1); have p4 := pt_idx hW hH (i % W) (i / W - 1)
  rw [e0] at p1 p2; rw [e1] at p3 p4
  have b1 := Int.emod_nonneg (i / W + 1) (show H ≠ 0 by omega); have b2 := Int.emod_lt_of_pos (i / W + 1) (show 0 < H by omega)
  have c1 := Int.emod_nonneg (i / W - 1) (show H ≠ 0 by omega); have c2 := Int.emod_lt_of_pos (i / W - 1) (show 0 < H by omega)
  have q3 := mul_bd (c := 64) (d := 64) b1 (by omega) (show 0 ≤ W by omega) hW2
  have q4 := mul_bd (c := 64) (d := 64) c1 (by omega) (show 0 ≤ W by omega) hW2
  have v0 : 0 ≤ at_ l i ∧ at_ l i ≤ 1 := h.2.2 _ (at_mem i0 (by omega))
  have v1 : 0 ≤ pt W H l (i % W + 1) (i / W) ∧ pt W H l (i % W + 1) (i / W) ≤ 1 := pt_in h _ _
  have v2 : 0 ≤ pt W H l (i % W - 1) (i / W) ∧ pt W H l (i % W - 1) (i / W) ≤ 1 := pt_in h _ _
  have v3 : 0 ≤ pt W H l (i % W) (i / W + 1) ∧ pt W H l (i % W) (i / W + 1) ≤ 1 := pt_in h _ _
  have v4 : 0 ≤ pt W H l (i % W) (i / W - 1) ∧ pt W H l (i % W) (i / W - 1) ≤ 1 := pt_in h _ _
  have d1 : pt W H l (i % W + 1) (i / W) = at_ l (i / W * W + (i % W + 1) % W) := by unfold pt; rw [e0]
  have d2 : pt W H l (i % W - 1) (i / W) = at_ l (i / W * W + (i % W - 1) % W) := by unfold pt; rw [e0]
  have d3 : pt W H l (i % W) (i / W + 1) = at_ l ((i / W + 1) % H * W + i % W) := by unfold pt; rw [e1]
  have d4 : pt W H l (i % W) (i / W - 1) = at_ l ((i / W - 1) % H * W + i % W) := by unfold pt; rw [e1]
  unfold spec_l7Near.f
  simp only [rd_at]
  rw [tdiv_pos i0, tmod_pos i0, w64 (x := i / W) (by omega) (by omega), w64 (x := i % W + 1) (by omega) (by omega), w64 (x := i % W - 1) (by omega) (by omega), w64 (x := i / W + 1) (by omega) (by omega), w64 (x := i / W - 1) (by omega) (by omega), tmod_pos (x := i % W + 1) (by omega), tmod_pos (x := i / W + 1) (by omega),
    mod_s (x := i % W - 1) (by omega) (by omega), mod_s (x := i / W - 1) (by omega) (by omega)]
  simp only [Option.bind_some]
  rw [w64 (x := i / W * W) (by omega) (by omega), w64 (x := (i / W + 1) % H * W) (by omega) (by omega), w64 (x := (i / W - 1) % H * W) (by omega) (by omega), w64 (x := i / W * W + (i % W + 1) % W) (by omega) (by omega), w64 (x := i / W * W + (i % W - 1) % W) (by omega) (by omega), w64 (x := (i / W + 1) % H * W + i % W) (by omega) (by omega), w64 (x := (i / W - 1) % H * W + i % W) (by omega) (by omega),
    if_neg (by omega), if_pos i0, if_pos (by omega), if_pos (by omega), if_pos (by omega), if_pos (by omega), if_pos (by omega), if_neg (by omega), if_pos (by omega), if_pos (by omega), if_pos (by omega), if_pos (by omega), ← d1, ← d2, ← d3, ← d4]
  rw [w64 (x := at_ l i + pt W H l (i % W + 1) (i / W)) (by omega) (by omega), w64 (x := at_ l i + pt W H l (i % W + 1) (i / W) + pt W H l (i % W - 1) (i / W)) (by omega) (by omega), w64 (x := at_ l i + pt W H l (i % W + 1) (i / W) + pt W H l (i % W - 1) (i / W) + pt W H l (i % W) (i / W + 1)) (by omega) (by omega), w64 (by omega) (by omega)]
  unfold near around
  simp only [Option.some.injEq]; omega
theorem leastl_s {W H n : Int} {l : List Int} (h : Up W H l 1) (d : Nat) : ∀ (k : Nat) (j : Int) (M : List Int), 0 ≤ j → (M.length : Int) = W * H → j ≤ M.length → (M.length : Int) - j = d → M.drop j.toNat = List.replicate d 0 → d < k →
    spec_l7Least.l0 k n l.length j W H l W H M = some (W, H, M.take j.toNat ++ tab (leastF W H l n) d j) := by
  have ha := h.1.area; have hl := h.2.1
  induction d with
  | zero =>
    intro k j M j0 hM j1 hd hz hk
    obtain ⟨k, rfl⟩ : ∃ m, k = m + 1 := ⟨k - 1, by omega⟩
    rw [spec_l7Least.l0, if_neg (by omega), tab, List.append_nil, List.take_of_length_le (by omega)]
  | succ d ih =>
    intro k j M j0 hM j1 hd hz hk
    obtain ⟨k, rfl⟩ : ∃ m, k = m + 1 := ⟨k - 1, by omega⟩
    rw [spec_l7Least.l0, if_pos (by omega), near_s h j0 (by omega), Option.bind_some, w64 (x := j + 1) (by omega) (by omega), tab]
    have hj : j.toNat < M.length := by omega
    rw [drop_at M j0 (by omega), List.replicate_succ] at hz
    injection hz with hz0 hz1
    have e1 : (j + 1).toNat = j.toNat + 1 := by omega
    have hM0 : M[j.toNat] = 0 := by rw [← at_nat M j.toNat hj, show ((j.toNat : Nat) : Int) = j by omega]; exact hz0
    unfold leastF
    by_cases e : n ≤ near W H l j
    · rw [if_pos e, if_pos e, if_pos j0, if_pos (by omega)]
      rw [ih k (j + 1) (M.set j.toNat 1) (by omega) (by rw [List.length_set]; exact hM) (by rw [List.length_set]; omega) (by rw [List.length_set]; omega) (by rw [e1, List.drop_set_of_lt (by omega), ← e1]; exact hz1) (by omega)]
      rw [e1, List.take_succ_eq_append_getElem (by rw [List.length_set]; omega), List.getElem_set, if_pos rfl, List.take_set_of_le (Nat.le_refl _)]
      simp only [List.append_assoc, List.cons_append, List.nil_append]; rfl
    · rw [if_neg (by omega), if_neg e, ih k (j + 1) M (by omega) hM (by omega) (by omega) hz1 (by omega), e1, List.take_succ_eq_append_getElem hj, hM0]
      simp only [List.append_assoc, List.cons_append, List.nil_append]; rfl
theorem least_s {W H : Int} {l : List Int} (hl : l.length ≤ 1048576) (n : Int) {k : Nat} (hk : 1100000 ≤ k) : spec_l7Least.f k W H l n = some (least W H l n) := by
  unfold spec_l7Least.f least
  rw [plate_s hl hk, Option.bind_some]
  by_cases h : Up W H l 1
  · have ha := h.1.area
    rw [if_pos (decide_eq_true h), if_pos h, empty_s h.1, Option.bind_some]
    show spec_l7Least.l0 k n l.length 0 W H l W H (List.replicate (W * H).toNat 0) = _
    rw [leastl_s h (W * H).toNat k 0 _ (by omega) (by rw [List.length_replicate]; omega) (by rw [List.length_replicate]; omega) (by rw [List.length_replicate]; omega) (by simp) (by omega)]
    simp
  · rw [if_neg (by rw [decide_eq_true_iff]; exact h), if_neg h]
theorem shrink_s {W H : Int} {l : List Int} (hl : l.length ≤ 1048576) {k : Nat} (hk : 1100000 ≤ k) : spec_ShrinkPlate.f k W H l = some (least W H l 5) := by
  unfold spec_ShrinkPlate.f; rw [least_s hl 5 hk]; rfl
theorem within_i {l : List Int} (hl : l.length ≤ 1048576) (m : Int) : impl_within.f l m = some (decide (All m l)) := by
  unfold impl_within.f
  rw [if_pos (by omega)]; simp only [Option.some.injEq]
  rw [Bool.eq_iff_iff, List.all_eq_true, decide_eq_true_iff]
  exact ⟨fun h v hv => of_decide_eq_true (h v hv), fun h v hv => decide_eq_true (h v hv)⟩
theorem size_i (W H : Int) : impl_sized.f W H = some (decide (Sz W H)) := by
  unfold impl_sized.f
  by_cases h : 1 ≤ W ∧ W ≤ 64 ∧ 1 ≤ H ∧ H ≤ 64
  · have := mul_bd (c := 64) (d := 64) (show 0 ≤ W by omega) h.2.1 (show 0 ≤ H by omega) h.2.2.2
    rw [if_pos (by omega), if_pos (by omega), if_pos (by omega), if_pos (by omega), w64 (by omega) (by omega)]
    exact dec_dd (by unfold Sz; omega)
  · repeat' split
    all_goals first | exact dec_ff (by unfold Sz; omega) | (exfalso; omega)
theorem pict_i {W H : Int} {l : List Int} (hl : l.length ≤ 1048576) : impl_IsPicture.f W H l = some (decide (Up W H l 255)) := by
  unfold impl_IsPicture.f
  rw [size_i, Option.bind_some]
  by_cases h : Sz W H
  · have := h.area
    rw [if_pos (decide_eq_true h), w64 (by omega) (by omega), within_i hl]
    by_cases e : (l.length : Int) = W * H
    · rw [if_pos e]; exact dec_dd ⟨fun x => ⟨h, e, x⟩, fun x => x.2.2⟩
    · rw [if_neg e]; exact dec_ff (fun x => e x.2.1)
  · rw [if_neg (by rw [decide_eq_true_iff]; exact h)]; exact dec_ff (fun x => h x.1)
theorem plate_i {W H : Int} {l : List Int} (hl : l.length ≤ 1048576) : impl_IsPlate.f W H l = some (decide (Up W H l 1)) := by
  unfold impl_IsPlate.f
  rw [pict_i hl, Option.bind_some, within_i hl]
  by_cases h : Up W H l 255
  · rw [if_pos (decide_eq_true h)]; exact dec_dd ⟨fun x => ⟨h.1, h.2.1, x⟩, fun x => x.2.2⟩
  · rw [if_neg (by rw [decide_eq_true_iff]; exact h)]; exact dec_ff (fun x => h ⟨x.1, x.2.1, fun v hv => ⟨(x.2.2 v hv).1, by have := (x.2.2 v hv).2; omega⟩⟩)
theorem gridO_tab {W H : Int} {AT : Int → Int → Option Int} {F : Int → Int} (hW : 1 ≤ W) (hH : 0 ≤ H) (h : ∀ x y, 0 ≤ x → x < W → 0 ≤ y → y < H → AT x y = some (F (y * W + x))) : Ext.gridO W H AT = some (tab F (W * H).toNat 0) := by
  rw [Ext.gridO_of (g := fun x y => F (y * W + x)) hW hH h]
  simp only [Option.some.injEq]
  unfold Ext.grid Ext.pref
  rw [← tab_range]
  apply List.map_congr_left
  intro i _
  show F ((i : Int) / W * W + (i : Int) % W) = _
  rw [xy_of]
theorem drawn_some {W H : Int} (hs : Sz W H) {AT : Int → Int → Option Int} {F : Int → Int} (h : ∀ x y, 0 ≤ x → x < W → 0 ≤ y → y < H → AT x y = some (F (y * W + x))) :
    (if 1 ≤ W ∧ W ≤ 1024 ∧ 0 ≤ H ∧ H ≤ 1024 ∧ W * H ≤ 1024 then (Ext.gridO W H AT).map fun l => (W, H, l) else none) = some (W, H, tab F (W * H).toNat 0) := by
  have hW := hs.1; have hW2 := hs.2.1; have hH := hs.2.2.1; have hH2 := hs.2.2.2.1; have ha := hs.area
  rw [if_pos (by omega), gridO_tab hW (by omega) h]; rfl
theorem idx_w {W H x y : Int} (hs : Sz W H) (x0 : 0 ≤ x) (x1 : x < W) (y0 : 0 ≤ y) (y1 : y < H) : wrap64 (wrap64 (y * W) + x) = y * W + x ∧ 0 ≤ y * W + x ∧ y * W + x < W * H ∧ (y * W + x) % W = x ∧ (y * W + x) / W = y := by
  have hi := xy_idx x0 x1 y0 y1
  have hW := hs.1; have hW2 := hs.2.1; have hH2 := hs.2.2.2.1; have ha := hs.area
  have q := mul_bd (c := 64) (d := 64) y0 (by omega) (show 0 ≤ W by omega) hW2
  refine ⟨by rw [w64 (x := y * W) (by omega) (by omega), w64 (by omega) (by omega)], hi.1, hi.2, ?_, ?_⟩
  · rw [Int.add_comm, Int.add_mul_emod_self_right, Int.emod_eq_of_lt x0 x1]
  · rw [Int.add_comm, Int.add_mul_ediv_right _ _ (by omega), Int.ediv_eq_zero_of_lt x0 x1, Int.zero_add]
theorem one_i (b : Bool) : impl_one.f b = some (if b = true then 1 else 0) := by unfold impl_one.f; split <;> rfl
theorem mod_i {x n : Int} (h0 : 0 < n) (h1 : n ≤ 9223372036854775807) : impl_mod.f x n = some (x % n) := by
  unfold impl_mod.f
  rw [if_neg (by omega)]
  have h2 := Int.emod_nonneg x (show n ≠ 0 by omega)
  have h3 := Int.emod_lt_of_pos x h0
  have e := Int.tmod_eq_emod (a := x) (b := n)
  by_cases hc : 0 ≤ x ∨ n ∣ x
  · rw [if_pos hc] at e
    rw [e, if_neg (by omega)]; simp
  · rw [if_neg hc] at e
    rw [e, if_pos (by omega), w64 (by omega) (by omega)]; simp only [Option.some.injEq]; omega
theorem around1_i {W H : Int} {l : List Int} (h : Up W H l 1) (x y : Int) : impl_around_1.f x y W H l = some (pt W H l x y) := by
  have hs := h.1; have hW := h.1.1; have hW2 := h.1.2.1; have hH := h.1.2.2.1; have hH2 := h.1.2.2.2.1; have hl := h.2.1; have ha := hs.area
  have p := pt_idx hW hH x y
  have b1 := Int.emod_nonneg y (show H ≠ 0 by omega); have b2 := Int.emod_lt_of_pos y (show 0 < H by omega)
  have q := mul_bd (c := 64) (d := 64) b1 (by omega) (show 0 ≤ W by omega) hW2
  unfold impl_around_1.f
  rw [mod_i (by omega) (by omega), Option.bind_some, mod_i (by omega) (by omega), Option.bind_some, w64 (x := y % H * W) (by omega) (by omega), w64 (by omega) (by omega), if_pos p.1, if_pos (by omega), rd_at]; rfl
-- nothing on impl_around_1.drawn
theorem around_i {W H : Int} {l : List Int} (h : Up W H l 1) {x y : Int} (x0 : 0 ≤ x) (x1 : x < W) (y0 : 0 ≤ y) (y1 : y < H) : impl_around.f W H l x y = some (around W H l x y) := by
  have hW2 := h.1.2.1; have hH2 := h.1.2.2.2.1
  have v1 : 0 ≤ pt W H l (x - 1) y ∧ pt W H l (x - 1) y ≤ 1 := pt_in h _ _
  have v2 : 0 ≤ pt W H l (x + 1) y ∧ pt W H l (x + 1) y ≤ 1 := pt_in h _ _
  have v3 : 0 ≤ pt W H l x (y - 1) ∧ pt W H l x (y - 1) ≤ 1 := pt_in h _ _
  have v4 : 0 ≤ pt W H l x (y + 1) ∧ pt W H l x (y + 1) ≤ 1 := pt_in h _ _
  unfold impl_around.f impl_around_1.V.f
  rw [w64 (x := x - 1) (by omega) (by omega), w64 (x := x + 1) (by omega) (by omega), w64 (x := y - 1) (by omega) (by omega), w64 (x := y + 1) (by omega) (by omega), around1_i h, Option.bind_some, around1_i h, Option.bind_some, around1_i h, Option.bind_some, around1_i h, Option.bind_some]
  rw [w64 (x := pt W H l (x - 1) y + pt W H l (x + 1) y) (by omega) (by omega), w64 (x := pt W H l (x - 1) y + pt W H l (x + 1) y + pt W H l x (y - 1)) (by omega) (by omega), w64 (by omega) (by omega)]; rfl
theorem near_bd {W H : Int} {l : List Int} (h : Up W H l 1) (x y : Int) : 0 ≤ around W H l x y ∧ around W H l x y ≤ 4 := by
  have v1 : 0 ≤ pt W H l (x - 1) y ∧ pt W H l (x - 1) y ≤ 1 := pt_in h _ _
  have v2 : 0 ≤ pt W H l (x + 1) y ∧ pt W H l (x + 1) y ≤ 1 := pt_in h _ _
  have v3 : 0 ≤ pt W H l x (y - 1) ∧ pt W H l x (y - 1) ≤ 1 := pt_in h _ _
  have v4 : 0 ≤ pt W H l x (y + 1) ∧ pt W H l x (y + 1) ≤ 1 := pt_in h _ _
  unfold around; omega
-- nothing on impl_ShrinkPlate_1
-- nothing on impl_ShrinkPlate_1.drawn
theorem shrink_i {W H : Int} {l : List Int} (hl : l.length ≤ 1048576) : impl_ShrinkPlate.f W H l = some (least W H l 5) := by
  unfold impl_ShrinkPlate.f least
  rw [plate_i hl, Option.bind_some]
  by_cases h : Up W H l 1
  · have hs := h.1; have hW := h.1.1; have hW2 := h.1.2.1; have hH := h.1.2.2.1; have hH2 := h.1.2.2.2.1; have hln := h.2.1; have ha := hs.area
    rw [if_pos (decide_eq_true h), if_pos h]
    unfold impl_ShrinkPlate_1.drawn.f
    rw [if_pos (by omega), Ext.gridO_of (g := fun x y => leastF W H l 5 (y * W + x)) hW (by omega) (fun x y x0 x1 y0 y1 => ?_)]
    · simp only [Option.map_some, Option.bind_some]
      have e : Ext.grid W H (fun x y => leastF W H l 5 (y * W + x)) = tab (leastF W H l 5) (W * H).toNat 0 := by
        unfold Ext.grid Ext.pref
        rw [← tab_range]
        apply List.map_congr_left
        intro i _
        show leastF W H l 5 ((i : Int) / W * W + (i : Int) % W) = _
        rw [xy_of]
      rw [e]
    · have hi := xy_idx x0 x1 y0 y1
      have q := mul_bd (c := 64) (d := 64) y0 (by omega) (show 0 ≤ W by omega) hW2
      have hb := near_bd h x y
      have v0 : 0 ≤ at_ l (y * W + x) ∧ at_ l (y * W + x) ≤ 1 := h.2.2 _ (at_mem hi.1 (by omega))
      have e1 : (y * W + x) % W = x := by rw [Int.add_comm, Int.add_mul_emod_self_right, Int.emod_eq_of_lt x0 x1]
      have e2 : (y * W + x) / W = y := by rw [Int.add_comm, Int.add_mul_ediv_right _ _ (by omega), Int.ediv_eq_zero_of_lt x0 x1, Int.zero_add]
      unfold impl_ShrinkPlate_1.f leastF near
      rw [e1, e2, w64 (x := y * W) (by omega) (by omega), w64 (by omega) (by omega), if_pos hi.1, if_pos (by omega), rd_at, around_i h x0 x1 y0 y1]
      simp only [one_i, Option.bind_some]
      by_cases e : at_ l (y * W + x) = 1
      · rw [if_pos e]
        by_cases e3 : around W H l x y = 4
        · rw [if_pos (beq_iff_eq.mpr e3), if_pos (by omega)]
        · rw [if_neg (by rw [beq_iff_eq]; exact e3), if_neg (by omega)]
      · rw [if_neg e, if_neg (by decide), if_neg (by omega)]
  · rw [if_neg (by rw [decide_eq_true_iff]; exact h), if_neg h]
theorem pure_FnExactShrinkPlate (W H : Int) (l : List Int) (hl : l.length ≤ 140737488351232) : ∃ k, laws_FnExactShrinkPlate.f k W H l = some true := by
  obtain ⟨m, hm⟩ : ∃ m : Nat, 2000000 ≤ m := ⟨2000000, Nat.le_refl _⟩
  refine ⟨m + 8, ?_⟩
  unfold laws_FnExactShrinkPlate.f
  rw [sz_p W H l 1048576 (by omega) (by omega) hl, Option.bind_some]
  by_cases h : (l.length : Int) ≤ 1048576
  · rw [if_pos h, if_neg (by omega)]
    have hl' : l.length ≤ 1048576 := by omega
    have hs := least_len W H l 5
    simp (disch := first | assumption | omega) only [top, Option.bind_some, shrink_s, shrink_i, eqp, if_true, Bool.not_true, Bool.false_eq_true, if_false, mark_p, held_p, mk_neg]
    rw [laws_FnExactShrinkPlate.j0]
    simp (disch := first | assumption | omega) only [top, Option.bind_some, shrink_s, shrink_i, eqp, if_true, Bool.not_true, Bool.false_eq_true, if_false, mark_p, held_p, mk_neg]
  · rw [if_neg h]; rfl
end Go.Proofs.Ytjonhedjfablbaa.PFnExactShrinkPlate
