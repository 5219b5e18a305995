/- What the functions that laws.FnExactSeedField reaches compute, and that the law is true: over numbers alone. -/
import Derived.Test.YtdbbgmnjbkmjmaaPFnExactSeedFieldx
import Derived.Test.YtdbbgmnjbkmjmaaPic
namespace Go.Proofs.Ytdbbgmnjbkmjmaa.PFnExactSeedField
open Go.RowKit Go.Proofs.YtdbbgmnjbkmjmaaW.PrintWords Go.Proofs.YtdbbgmnjbkmjmaaW.PrintMore
set_option linter.unusedVariables false
set_option linter.unusedSimpArgs false
set_option linter.unusedSimpArgs false
open Pic
theorem w64 {x : Int} (h1 : -9223372036854775808 ≤ x) (h2 : x ≤ 9223372036854775807) : wrap64 x = x := by unfold wrap64; omega
theorem rd_at (l : List Int) (i : Int) : rd l i = at_ l i := rfl
theorem tmod_pos {n x : Int} (h : 0 ≤ x) : Int.tmod x n = x % n := Int.tmod_eq_emod_of_nonneg h
theorem tdiv_pos {n x : Int} (h : 0 ≤ x) : Int.tdiv x n = x / n := Int.tdiv_eq_ediv_of_nonneg h
theorem dec_ff {p : Prop} [Decidable p] (h : ¬ p) : some false = some (decide p) := by rw [decide_eq_false h]
theorem dec_dd {p q : Prop} [Decidable p] [Decidable q] (h : p ↔ q) : some (decide p) = some (decide q) := by rw [decide_eq_decide.mpr h]
theorem mn_eq (a b : Int) : mn a b = if b < a then b else a := rfl
theorem mk_neg (n : Nat) : ¬ ((1 : Int) + n < 0) := by omega
theorem l1In (x a b : Int) : spec_l1In.f x a b = some (decide (a ≤ x ∧ x ≤ b)) := by
  unfold spec_l1In.f
  split
  all_goals first | exact dec_dd (by omega) | exact dec_ff (by omega)
theorem size_s (W H : Int) : spec_l1Size.f W H = some (decide (Sz W H)) := by
  unfold spec_l1Size.f
  simp only [l1In, Option.bind_some]
  by_cases hW : 1 ≤ W ∧ W ≤ 64
  · by_cases hH : 1 ≤ H ∧ H ≤ 64
    · have := mul_bd (c := 64) (d := 64) (show 0 ≤ W by omega) hW.2 (show 0 ≤ H by omega) hH.2
      rw [if_pos (decide_eq_true hW), if_pos (decide_eq_true hH), w64 (by omega) (by omega)]
      exact dec_dd (by unfold Sz; omega)
    · rw [if_pos (decide_eq_true hW), if_neg (by rw [decide_eq_true_iff]; exact hH)]; exact dec_ff (fun h => hH ⟨h.2.2.1, h.2.2.2.1⟩)
  · rw [if_neg (by rw [decide_eq_true_iff]; exact hW)]; exact dec_ff (fun h => hW ⟨h.1, h.2.1⟩)
theorem empty_s {W H : Int} (h : Sz W H) : spec_l1Empty.f W H = some (W, H, List.replicate (W * H).toNat 0) := by
  have := h.area
  unfold spec_l1Empty.f
  rw [w64 (by omega) (by omega), if_pos (by omega), if_pos (by omega)]
theorem seedl_s {W H c : Int} (hc : 1 ≤ c) (d : Nat) : ∀ (k : Nat) (j : Int) (M : List Int), 0 ≤ j → M.length ≤ 1024 → j ≤ M.length → (M.length : Int) - j = d → M.drop j.toNat = List.replicate d 0 → d < k →
    spec_SeedField.l0 k c M.length j W H M = some (W, H, M.take j.toNat ++ seedL c d j, true) := by
  induction d with
  | zero =>
    intro k j M j0 hM j1 hd hz hk
    obtain ⟨k, rfl⟩ : ∃ m, k = m + 1 := ⟨k - 1, by omega⟩
    rw [spec_SeedField.l0, if_neg (by omega), seedL, List.append_nil, List.take_of_length_le (by omega)]
  | succ d ih =>
    intro k j M j0 hM j1 hd hz hk
    obtain ⟨k, rfl⟩ : ∃ m, k = m + 1 := ⟨k - 1, by omega⟩
    rw [spec_SeedField.l0, if_pos (by omega), if_neg (by omega), w64 (x := j * 7) (by omega) (by omega), w64 (x := j + 1) (by omega) (by omega), tmod_pos (by omega), seedL]
    have hj : j.toNat < M.length := by omega
    rw [drop_at M j0 (by omega), List.replicate_succ] at hz
    injection hz with hz0 hz1
    have e1 : (j + 1).toNat = j.toNat + 1 := by omega
    have hM0 : M[j.toNat] = 0 := by rw [← at_nat M j.toNat hj, show ((j.toNat : Nat) : Int) = j by omega]; exact hz0
    unfold sd
    by_cases e : j * 7 % c = 0
    · rw [if_pos e, if_pos e, if_pos j0, if_pos (by omega)]
      have := ih k (j + 1) (M.set j.toNat 1) (by omega) (by rw [List.length_set]; exact hM) (by rw [List.length_set]; omega) (by rw [List.length_set]; omega) (by rw [e1, List.drop_set_of_lt (by omega), ← e1]; exact hz1) (by omega)
      rw [List.length_set] at this
      rw [this, e1, List.take_succ_eq_append_getElem (by rw [List.length_set]; omega), List.getElem_set, if_pos rfl, List.take_set_of_le (Nat.le_refl _)]
      simp only [List.append_assoc, List.cons_append, List.nil_append]
    · rw [if_neg e, if_neg e, ih k (j + 1) M (by omega) hM (by omega) (by omega) hz1 (by omega), e1, List.take_succ_eq_append_getElem hj, hM0]
      simp only [List.append_assoc, List.cons_append, List.nil_append]
theorem seed_s (W H c : Int) {k : Nat} (hk : 1100000 < k) : spec_SeedField.f k W H c = some (seed W H c) := by
  obtain ⟨k, rfl⟩ : ∃ m, k = m + 1 := ⟨k - 1, by omega⟩
  unfold spec_SeedField.f seed
  rw [size_s, Option.bind_some]
  simp only [l1In, Option.bind_some]
  by_cases h : Sz W H
  · have ha := h.area
    rw [if_pos (decide_eq_true h), w64 (by omega) (by omega)]
    by_cases h2 : W * H ≤ 256
    · rw [if_neg (by omega), spec_SeedField.j0]
      by_cases h3 : 1 ≤ c ∧ c ≤ 100
      · rw [if_neg (by rw [decide_eq_true h3]; decide), empty_s h, Option.bind_some, if_pos (c := seedOk W H c) ⟨h, h2, h3⟩]
        rw [seedl_s h3.1 (W * H).toNat k 0 _ (by omega) (by rw [List.length_replicate]; omega) (by rw [List.length_replicate]; omega) (by rw [List.length_replicate]; omega) (by simp) (by omega)]
        simp
      · rw [if_pos (by rw [decide_eq_false h3]; rfl), if_neg (c := seedOk W H c) (fun x => h3 x.2.2)]
    · rw [if_pos (by omega), spec_SeedField.j0, if_pos rfl, if_neg (c := seedOk W H c) (fun x => h2 x.2.1)]
  · rw [if_neg (by rw [decide_eq_true_iff]; exact h), spec_SeedField.j0, if_pos rfl, if_neg (c := seedOk W H c) (fun x => h x.1)]
theorem size_i (W H : Int) : impl_sized.f W H = some (decide (Sz W H)) := by
  unfold impl_sized.f
  by_cases h : 1 ≤ W ∧ W ≤ 64 ∧ 1 ≤ H ∧ H ≤ 64
  · have := mul_bd (c := 64) (d := 64) (show 0 ≤ W by omega) h.2.1 (show 0 ≤ H by omega) h.2.2.2
    rw [if_pos (by omega), if_pos (by omega), if_pos (by omega), if_pos (by omega), w64 (by omega) (by omega)]
    exact dec_dd (by unfold Sz; omega)
  · repeat' split
    all_goals first | exact dec_ff (by unfold Sz; omega) | (exfalso; omega)
-- nothing on impl_drawn
-- nothing on impl_one
-- nothing on impl_SeedField_1
-- nothing on impl_SeedField_1.drawn
-- nothing on impl_SeedField_1.V
theorem seed_i (W H c : Int) : impl_SeedField.f W H c = some (seed W H c) := by
  unfold impl_SeedField.f seed
  rw [size_i, Option.bind_some]
  by_cases h : Sz W H
  · have ha := h.area
    rw [if_pos (decide_eq_true h), w64 (by omega) (by omega)]
    by_cases h2 : W * H ≤ 256
    · rw [if_neg (by omega)]
      by_cases h3 : 1 ≤ c ∧ c ≤ 100
      · rw [if_neg (by omega), if_neg (by omega), if_pos (c := seedOk W H c) ⟨h, h2, h3⟩]
        unfold impl_SeedField_1.drawn.f
        have hW := h.1; have hW2 := h.2.1; have hH := h.2.2.1; have hH2 := h.2.2.2.1
        rw [if_pos (by omega), Ext.gridO_of (g := fun x y => sd c (y * W + x)) hW (by omega) (fun x y x0 x1 y0 y1 => ?_)]
        · simp only [Option.map_some, Option.bind_some]
          have e : Ext.grid W H (fun x y => sd c (y * W + x)) = seedL c (W * H).toNat 0 := by
            unfold Ext.grid Ext.pref
            rw [← seedL_range]
            apply List.map_congr_left
            intro i _
            show sd c ((i : Int) / W * W + (i : Int) % W) = _
            rw [Int.mul_comm, Int.mul_ediv_add_emod]
          rw [e]
        · have hm := mul_bd (c := 64) (d := 64) y0 (by omega) (show 0 ≤ W by omega) hW2
          unfold impl_SeedField_1.f impl_one.f
          rw [if_neg (by omega), w64 (x := y * W) (by omega) (by omega), w64 (x := y * W + x) (by omega) (by omega), w64 (by omega) (by omega), tmod_pos (by omega)]
          unfold sd
          by_cases e : (y * W + x) * 7 % c = 0
          · rw [if_pos e, if_pos (by rw [e]; rfl)]; rfl
          · rw [if_neg e, if_neg (by rw [beq_iff_eq]; exact e)]; rfl
      · rw [if_neg (c := seedOk W H c) (fun x => h3 x.2.2)]
        split; rfl
        rw [if_pos (by omega)]
    · rw [if_pos (by omega), if_neg (c := seedOk W H c) (fun x => h2 x.2.1)]
  · rw [if_neg (by rw [decide_eq_true_iff]; exact h), if_neg (c := seedOk W H c) (fun x => h x.1)]
theorem eqs_l (d : Nat) : ∀ (k : Nat) (l : List Int) (i : Int), 0 ≤ i → l.length ≤ 1048576 → l.length - i.toNat ≤ d → d < k → laws_eqIntS.l0 k l l i = some true := by
  induction d with
  | zero =>
    intro k l i h0 hl hd hk
    obtain ⟨k, rfl⟩ : ∃ m, k = m + 1 := ⟨k - 1, by omega⟩
    rw [laws_eqIntS.l0, if_neg (by omega)]
  | succ d ih =>
    intro k l i h0 hl hd hk
    obtain ⟨k, rfl⟩ : ∃ m, k = m + 1 := ⟨k - 1, by omega⟩
    rw [laws_eqIntS.l0]
    by_cases h : i < (l.length : Int)
    · rw [if_pos h, if_pos h0, if_pos h, if_pos rfl, w64 (by omega) (by omega)]; exact ih k l (i + 1) (by omega) hl (by omega) (by omega)
    · rw [if_neg h]
theorem eqs {l : List Int} (hl : l.length ≤ 1048576) {k : Nat} (hk : 1100000 ≤ k) : laws_eqIntS.f k l l = some true := by
  unfold laws_eqIntS.f; rw [if_pos rfl, eqs_l l.length k l 0 (by omega) hl (by omega) (by omega)]
theorem eqp (a b : Int) {l : List Int} (hl : l.length ≤ 1048576) {k : Nat} (hk : 1100000 ≤ k) : laws_eqPicture.f k a b l a b l = some true := by
  unfold laws_eqPicture.f; rw [if_pos rfl, if_pos rfl, eqs hl hk]; rfl
theorem marks_l (d : Nat) : ∀ (k : Nat) (l : List Int) (m i : Int), 0 ≤ i → i ≤ l.length → 0 ≤ m → m + d ≤ 1000000000 → l.length ≤ 1048576 → (l.length : Int) - i = d → d < k →
    laws_markIntS.l0 k l m i = some (m + d, l.take i.toNat ++ marks m d) := by
  induction d with
  | zero =>
    intro k l m i h0 h1 m0 m1 hl hd hk
    obtain ⟨k, rfl⟩ : ∃ m, k = m + 1 := ⟨k - 1, by omega⟩
    rw [laws_markIntS.l0, if_neg (by omega)]
    simp only [marks, List.append_nil, List.take_of_length_le (show l.length ≤ i.toNat by omega)]
    rw [show m + ((0 : Nat) : Int) = m by omega]
  | succ d ih =>
    intro k l m i h0 h1 m0 m1 hl hd hk
    obtain ⟨k, rfl⟩ : ∃ m, k = m + 1 := ⟨k - 1, by omega⟩
    rw [laws_markIntS.l0, if_pos (by omega), if_pos h0, w64 (by omega) (by omega), w64 (by omega) (by omega), ih k _ (m + 1) (i + 1) (by omega) (by rw [List.length_set]; omega) (by omega) (by omega) (by rw [List.length_set]; omega) (by rw [List.length_set]; omega) (by omega)]
    have e : (l.set i.toNat m).take (i + 1).toNat = l.take i.toNat ++ [m] := by
      rw [show (i + 1).toNat = i.toNat + 1 by omega, List.take_succ_eq_append_getElem (by rw [List.length_set]; omega), List.getElem_set]
      rw [if_pos rfl, List.take_set_of_le (Nat.le_refl _)]
    rw [e]
    simp only [marks, List.append_assoc, List.cons_append, List.nil_append]
    rw [show m + 1 + (d : Int) = m + ((d + 1 : Nat) : Int) by omega]
theorem mark_s {l : List Int} {m : Int} (m0 : 0 ≤ m) (m1 : m ≤ 100000000) (hl : l.length ≤ 1048576) {k : Nat} (hk : 1100000 ≤ k) : laws_markIntS.f k l m = some (m + l.length, marks m l.length) := by
  unfold laws_markIntS.f; rw [marks_l l.length k l m 0 (by omega) (by omega) m0 (by omega) hl (by omega) (by omega)]; rfl
theorem mark_p (a b : Int) {l : List Int} {m : Int} (m0 : 0 ≤ m) (m1 : m ≤ 100000000) (hl : l.length ≤ 1048576) {k : Nat} (hk : 1100000 ≤ k) : laws_markPicture.f k a b l m = some (m + l.length, marks m l.length) := by
  unfold laws_markPicture.f; rw [mark_s m0 m1 hl hk]; rfl
theorem held_l (n : Nat) (m : Int) (m0 : 0 ≤ m) (m1 : m ≤ 100000000) (hn : n ≤ 1048576) (d : Nat) : ∀ (k : Nat) (i : Int), 0 ≤ i → i ≤ n → (n : Int) - i = d → d < k → laws_heldIntS.l0 k (marks m n) (m + i) i = some (m + n) := by
  induction d with
  | zero =>
    intro k i h0 h1 hd hk
    obtain ⟨k, rfl⟩ : ∃ m, k = m + 1 := ⟨k - 1, by omega⟩
    rw [laws_heldIntS.l0, if_neg (by rw [marks_length]; omega), show m + i = m + (n : Int) by omega]
  | succ d ih =>
    intro k i h0 h1 hd hk
    obtain ⟨k, rfl⟩ : ∃ m, k = m + 1 := ⟨k - 1, by omega⟩
    have e : rd (marks m n) i = m + i := by
      rw [rd_at]; unfold at_; rw [List.getD_eq_getElem?_getD, marks_at n m i.toNat (by omega), Option.getD_some]; omega
    rw [laws_heldIntS.l0, if_pos (by rw [marks_length]; omega), if_pos h0, if_pos e, w64 (by omega) (by omega), w64 (by omega) (by omega), show m + i + 1 = m + (i + 1) by omega]
    exact ih k (i + 1) (by omega) (by omega) (by omega) (by omega)
theorem held_s {n : Nat} {m : Int} (m0 : 0 ≤ m) (m1 : m ≤ 100000000) (hn : n ≤ 1048576) {k : Nat} (hk : 1100000 ≤ k) : laws_heldIntS.f k (marks m n) m = some (m + n) := by
  have := held_l n m m0 m1 hn n k 0 (by omega) (by omega) (by omega) (by omega)
  rw [Int.add_zero] at this
  unfold laws_heldIntS.f; exact this
theorem held_p (a b : Int) {n : Nat} {m : Int} (m0 : 0 ≤ m) (m1 : m ≤ 100000000) (hn : n ≤ 1048576) {k : Nat} (hk : 1100000 ≤ k) : laws_heldPicture.f k a b (marks m n) m = some (m + n) := by
  unfold laws_heldPicture.f; rw [held_s m0 m1 hn hk, Option.bind_some, if_neg (by omega)]
theorem pure_FnExactSeedField (W H c : Int) : ∃ k, laws_FnExactSeedField.f k W H c = some true := by
  obtain ⟨m, hm⟩ : ∃ m : Nat, 2000000 ≤ m := ⟨2000000, Nat.le_refl _⟩
  refine ⟨m + 8, ?_⟩
  have hs := seed_len W H c
  unfold laws_FnExactSeedField.f
  simp (disch := first | assumption | omega) only [Option.bind_some, seed_s, seed_i, eqp, if_true, bne_self_eq_false, Bool.false_eq_true, if_false, mark_p, held_p, mk_neg]
  rw [laws_FnExactSeedField.j0]
  simp (disch := first | assumption | omega) only [Option.bind_some, seed_s, seed_i, eqp, if_true, bne_self_eq_false, Bool.false_eq_true, if_false, mark_p, held_p, mk_neg]
  rw [laws_FnExactSeedField.j1]
  simp (disch := first | assumption | omega) only [Option.bind_some, seed_s, seed_i, eqp, if_true, bne_self_eq_false, Bool.false_eq_true, if_false, mark_p, held_p, mk_neg]

end Go.Proofs.Ytdbbgmnjbkmjmaa.PFnExactSeedField
