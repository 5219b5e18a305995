/- What the functions that laws.FnExactRankField reaches compute, and that the law is true: over numbers alone. -/
import Derived.Test.YtdbbgmnjbkmjmaaPFnExactRankFieldx
import Derived.Test.YtdbbgmnjbkmjmaaPic
namespace Go.Proofs.Ytdbbgmnjbkmjmaa.PFnExactRankField
open Go.RowKit Go.Proofs.YtdbbgmnjbkmjmaaW.PrintWords Go.Proofs.YtdbbgmnjbkmjmaaW.PrintMore
set_option linter.unusedVariables false
set_option linter.unusedSimpArgs false
set_option linter.unusedSimpArgs false
open Pic
theorem w64 {x : Int} (h1 : -9223372036854775808 ≤ x) (h2 : x ≤ 9223372036854775807) : wrap64 x = x := by unfold wrap64; omega
theorem rd_at (l : List Int) (i : Int) : rd l i = at_ l i := rfl
theorem tmod_pos {n x : Int} (h : 0 ≤ x) : Int.tmod x n = x % n := Int.tmod_eq_emod_of_nonneg h
theorem tdiv_pos {n x : Int} (h : 0 ≤ x) : Int.tdiv x n = x / n := Int.tdiv_eq_ediv_of_nonneg h
theorem dec_ff {p : Prop} [Decidable p] (h : ¬ p) : some false = some (decide p) := by rw [decide_eq_false h]
theorem dec_dd {p q : Prop} [Decidable p] [Decidable q] (h : p ↔ q) : some (decide p) = some (decide q) := by rw [decide_eq_decide.mpr h]
theorem mn_eq (a b : Int) : mn a b = if b < a then b else a := rfl
theorem mk_neg (n : Nat) : ¬ ((1 : Int) + n < 0) := by omega
theorem eqs_l (d : Nat) : ∀ (k : Nat) (l : List Int) (i : Int), 0 ≤ i → l.length ≤ 1048576 → l.length - i.toNat ≤ d → d < k → laws_eqIntS.l0 k l l i = some true := by
  induction d with
  | zero =>
    intro k l i h0 hl hd hk
    obtain ⟨k, rfl⟩ : ∃ m, k = m + 1 := ⟨k - 1, by omega⟩
    rw [laws_eqIntS.l0, if_neg (by omega)]
  | succ d ih =>
    intro k l i h0 hl hd hk
    obtain ⟨k, rfl⟩ : ∃ m, k = m + 1 := ⟨k - 1, by omega⟩
    rw [laws_eqIntS.l0]
    by_cases h : i < (l.length : Int)
    · rw [if_pos h, if_pos h0, if_pos h, if_pos rfl, w64 (by omega) (by omega)]; exact ih k l (i + 1) (by omega) hl (by omega) (by omega)
    · rw [if_neg h]
theorem eqs {l : List Int} (hl : l.length ≤ 1048576) {k : Nat} (hk : 1100000 ≤ k) : laws_eqIntS.f k l l = some true := by
  unfold laws_eqIntS.f; rw [if_pos rfl, eqs_l l.length k l 0 (by omega) hl (by omega) (by omega)]
theorem eqp (a b : Int) {l : List Int} (hl : l.length ≤ 1048576) {k : Nat} (hk : 1100000 ≤ k) : laws_eqPicture.f k a b l a b l = some true := by
  unfold laws_eqPicture.f; rw [if_pos rfl, if_pos rfl, eqs hl hk]; rfl
theorem marks_l (d : Nat) : ∀ (k : Nat) (l : List Int) (m i : Int), 0 ≤ i → i ≤ l.length → 0 ≤ m → m + d ≤ 1000000000 → l.length ≤ 1048576 → (l.length : Int) - i = d → d < k →
    laws_markIntS.l0 k l m i = some (m + d, l.take i.toNat ++ marks m d) := by
  induction d with
  | zero =>
    intro k l m i h0 h1 m0 m1 hl hd hk
    obtain ⟨k, rfl⟩ : ∃ m, k = m + 1 := ⟨k - 1, by omega⟩
    rw [laws_markIntS.l0, if_neg (by omega)]
    simp only [marks, List.append_nil, List.take_of_length_le (show l.length ≤ i.toNat by omega)]
    rw [show m + ((0 : Nat) : Int) = m by omega]
  | succ d ih =>
    intro k l m i h0 h1 m0 m1 hl hd hk
    obtain ⟨k, rfl⟩ : ∃ m, k = m + 1 := ⟨k - 1, by omega⟩
    rw [laws_markIntS.l0, if_pos (by omega), if_pos h0, w64 (by omega) (by omega), w64 (by omega) (by omega), ih k _ (m + 1) (i + 1) (by omega) (by rw [List.length_set]; omega) (by omega) (by omega) (by rw [List.length_set]; omega) (by rw [List.length_set]; omega) (by omega)]
    have e : (l.set i.toNat m).take (i + 1).toNat = l.take i.toNat ++ [m] := by
      rw [show (i + 1).toNat = i.toNat + 1 by omega, List.take_succ_eq_append_getElem (by rw [List.length_set]; omega), List.getElem_set]
      rw [if_pos rfl, List.take_set_of_le (Nat.le_refl _)]
    rw [e]
    simp only [marks, List.append_assoc, List.cons_append, List.nil_append]
    rw [show m + 1 + (d : Int) = m + ((d + 1 : Nat) : Int) by omega]
theorem mark_s {l : List Int} {m : Int} (m0 : 0 ≤ m) (m1 : m ≤ 100000000) (hl : l.length ≤ 1048576) {k : Nat} (hk : 1100000 ≤ k) : laws_markIntS.f k l m = some (m + l.length, marks m l.length) := by
  unfold laws_markIntS.f; rw [marks_l l.length k l m 0 (by omega) (by omega) m0 (by omega) hl (by omega) (by omega)]; rfl
theorem mark_p (a b : Int) {l : List Int} {m : Int} (m0 : 0 ≤ m) (m1 : m ≤ 100000000) (hl : l.length ≤ 1048576) {k : Nat} (hk : 1100000 ≤ k) : laws_markPicture.f k a b l m = some (m + l.length, marks m l.length) := by
  unfold laws_markPicture.f; rw [mark_s m0 m1 hl hk]; rfl
theorem sz_s (l : List Int) (m : Int) (hm : 0 ≤ m) (hm2 : m ≤ 1048576) (hl : l.length ≤ 140737488351232) : laws_szIntS.f l m = some (if (l.length : Int) ≤ m then m - l.length else -1) := by
  unfold laws_szIntS.f
  rw [w64 (by omega) (by omega)]
  by_cases h : (l.length : Int) ≤ m
  · rw [if_neg (by omega), if_pos h]
  · rw [if_pos (by omega), if_neg h]
theorem sz_p (a b : Int) (l : List Int) (m : Int) (hm : 0 ≤ m) (hm2 : m ≤ 1048576) (hl : l.length ≤ 140737488351232) : laws_szPicture.f a b l m = some (if (l.length : Int) ≤ m then m - l.length else -1) := by
  unfold laws_szPicture.f
  rw [sz_s l m hm hm2 hl, Option.bind_some]
  by_cases h : (l.length : Int) ≤ m
  · rw [if_pos h, if_neg (by omega)]
  · rw [if_neg h, if_pos (by omega)]
theorem tos_l (d : Nat) : ∀ (k : Nat) (l o : List Int) (i : Int), 0 ≤ i → i ≤ l.length → o.length = l.length → l.length ≤ 1048576 → (l.length : Int) - i = d → d < k → laws_toIntS.l0 k l o i = some (o.take i.toNat ++ l.drop i.toNat) := by
  induction d with
  | zero =>
    intro k l o i h0 h1 ho hl hd hk
    obtain ⟨k, rfl⟩ : ∃ m, k = m + 1 := ⟨k - 1, by omega⟩
    rw [laws_toIntS.l0, if_neg (by omega), List.drop_eq_nil_of_le (by omega), List.append_nil, List.take_of_length_le (by omega)]
  | succ d ih =>
    intro k l o i h0 h1 ho hl hd hk
    obtain ⟨k, rfl⟩ : ∃ m, k = m + 1 := ⟨k - 1, by omega⟩
    rw [laws_toIntS.l0, if_pos (by omega), if_pos h0, if_pos (by omega), w64 (by omega) (by omega), rd_at, ih k l _ (i + 1) (by omega) (by omega) (by rw [List.length_set]; exact ho) hl (by omega) (by omega), drop_at l h0 (by omega)]
    rw [show (i + 1).toNat = i.toNat + 1 by omega, List.take_succ_eq_append_getElem (by rw [List.length_set]; omega), List.getElem_set, if_pos rfl, List.take_set_of_le (Nat.le_refl _)]
    simp only [List.append_assoc, List.cons_append, List.nil_append]
theorem tos {l : List Int} (hl : l.length ≤ 1048576) {k : Nat} (hk : 1100000 ≤ k) : laws_toIntS.f k l = some l := by
  unfold laws_toIntS.f
  rw [if_pos (by omega), if_pos (by omega), tos_l l.length k l _ 0 (by omega) (by omega) (by simp) hl (by omega) (by omega)]; rfl
theorem top (a b : Int) {l : List Int} (hl : l.length ≤ 1048576) {k : Nat} (hk : 1100000 ≤ k) : laws_toPicture.f k a b l = some (a, b, l) := by
  unfold laws_toPicture.f; rw [tos hl hk]; rfl
theorem l1In (x a b : Int) : spec_l1In.f x a b = some (decide (a ≤ x ∧ x ≤ b)) := by
  unfold spec_l1In.f
  split
  all_goals first | exact dec_dd (by omega) | exact dec_ff (by omega)
theorem size_s (W H : Int) : spec_l1Size.f W H = some (decide (Sz W H)) := by
  unfold spec_l1Size.f
  simp only [l1In, Option.bind_some]
  by_cases hW : 1 ≤ W ∧ W ≤ 64
  · by_cases hH : 1 ≤ H ∧ H ≤ 64
    · have := mul_bd (c := 64) (d := 64) (show 0 ≤ W by omega) hW.2 (show 0 ≤ H by omega) hH.2
      rw [if_pos (decide_eq_true hW), if_pos (decide_eq_true hH), w64 (by omega) (by omega)]
      exact dec_dd (by unfold Sz; omega)
    · rw [if_pos (decide_eq_true hW), if_neg (by rw [decide_eq_true_iff]; exact hH)]; exact dec_ff (fun h => hH ⟨h.2.2.1, h.2.2.2.1⟩)
  · rw [if_neg (by rw [decide_eq_true_iff]; exact hW)]; exact dec_ff (fun h => hW ⟨h.1, h.2.1⟩)
theorem up_l (m : Int) (d : Nat) : ∀ (k : Nat) (l : List Int) (i : Int), 0 ≤ i → l.length ≤ 1048576 → i ≤ l.length → (l.length : Int) - i = d → d < k → spec_l1Up.l0 k m l l.length i = some (decide (All m (l.drop i.toNat))) := by
  induction d with
  | zero =>
    intro k l i h0 hl h1 hd hk
    obtain ⟨k, rfl⟩ : ∃ m, k = m + 1 := ⟨k - 1, by omega⟩
    rw [spec_l1Up.l0, if_neg (by omega), List.drop_eq_nil_of_le (by omega)]
    rw [decide_eq_true (show All m [] from fun v h => by simp at h)]
  | succ d ih =>
    intro k l i h0 hl h1 hd hk
    obtain ⟨k, rfl⟩ : ∃ m, k = m + 1 := ⟨k - 1, by omega⟩
    rw [spec_l1Up.l0, if_pos (by omega), if_pos h0, if_pos (by omega), l1In, rd_at, Option.bind_some, drop_at l h0 (by omega), w64 (by omega) (by omega)]
    by_cases h : 0 ≤ at_ l i ∧ at_ l i ≤ m
    · rw [if_pos (decide_eq_true h), ih k l (i + 1) (by omega) hl (by omega) (by omega) (by omega)]
      exact dec_dd (by rw [All.cons]; exact ⟨fun x => ⟨h, x⟩, fun x => x.2⟩)
    · rw [if_neg (by rw [decide_eq_true_iff]; exact h)]; exact dec_ff (fun x => h (All.cons.mp x).1)
theorem up_s {W H : Int} {l : List Int} (hl : l.length ≤ 1048576) (m : Int) {k : Nat} (hk : 1100000 ≤ k) : spec_l1Up.f k W H l m = some (decide (Up W H l m)) := by
  obtain ⟨k, rfl⟩ : ∃ m, k = m + 1 := ⟨k - 1, by omega⟩
  unfold spec_l1Up.f
  rw [size_s, Option.bind_some]
  by_cases h : Sz W H
  · have := h.area
    rw [if_pos (decide_eq_true h), w64 (by omega) (by omega), spec_l1Up.j0]
    by_cases e : (l.length : Int) = W * H
    · rw [if_neg (by rw [bne_iff_ne]; exact fun x => x e), up_l m l.length k l 0 (by omega) hl (by omega) (by omega) (by omega)]
      exact dec_dd ⟨fun x => ⟨h, e, x⟩, fun x => x.2.2⟩
    · rw [if_pos (by rw [bne_iff_ne]; exact e)]; exact dec_ff (fun x => e x.2.1)
  · rw [if_neg (by rw [decide_eq_true_iff]; exact h), spec_l1Up.j0, if_pos rfl]; exact dec_ff (fun x => h x.1)
theorem plate_s {W H : Int} {l : List Int} (hl : l.length ≤ 1048576) {k : Nat} (hk : 1100000 ≤ k) : spec_IsPlate.f k W H l = some (decide (Up W H l 1)) := by
  unfold spec_IsPlate.f; rw [up_s hl 1 hk]; rfl
theorem field_s {W H : Int} {l : List Int} (hl : l.length ≤ 1048576) {k : Nat} (hk : 1100000 ≤ k) : spec_IsField.f k W H l = some (decide (Fld W H l)) := by
  unfold spec_IsField.f; rw [plate_s hl hk, Option.bind_some]
  by_cases h : Up W H l 1
  · rw [if_pos (decide_eq_true h)]; exact dec_dd ⟨fun x => ⟨h, x⟩, fun x => x.2⟩
  · rw [if_neg (by rw [decide_eq_true_iff]; exact h)]; exact dec_ff (fun x => h x.1)
theorem mod_s {x n : Int} (h0 : 0 < n) (h1 : n ≤ 9223372036854775807) : spec_l2Mod.f x n = some (x % n) := by
  unfold spec_l2Mod.f
  rw [if_neg (by omega)]
  have h2 := Int.emod_nonneg x (show n ≠ 0 by omega)
  have h3 := Int.emod_lt_of_pos x h0
  have e := Int.tmod_eq_emod (a := x) (b := n)
  by_cases hc : 0 ≤ x ∨ n ∣ x
  · rw [if_pos hc] at e
    rw [e, if_neg (by omega)]; simp
  · rw [if_neg hc] at e
    rw [e, if_pos (by omega), w64 (by omega) (by omega)]; simp only [Option.some.injEq]; omega
theorem round_s {d n : Int} (h0 : 0 < n) (h1 : n ≤ 1000) : spec_l2Round.f d n = some (rnd d n) := by
  unfold spec_l2Round.f
  have h2 := Int.emod_nonneg d (show n ≠ 0 by omega)
  have h3 := Int.emod_lt_of_pos d h0
  rw [mod_s h0 (by omega)]; simp only [Option.bind_some]
  rw [w64 (by omega) (by omega), mn_eq]; rfl
theorem far_s {W H i k : Int} (h : Sz W H) (l : List Int) (i0 : 0 ≤ i) (i1 : i ≤ 100000) (k0 : 0 ≤ k) (k1 : k ≤ 100000) : spec_l2Far.f W H l i k = some (far W H i k) := by
  unfold spec_l2Far.f
  have hW := h.1; have hW2 := h.2.1; have hH := h.2.2.1; have hH2 := h.2.2.2.1
  have a1 := Int.emod_nonneg i (show W ≠ 0 by omega); have a2 := Int.emod_lt_of_pos i (show 0 < W by omega)
  have b1 := Int.emod_nonneg k (show W ≠ 0 by omega); have b2 := Int.emod_lt_of_pos k (show 0 < W by omega)
  have c1 := Int.ediv_nonneg i0 (show 0 ≤ W by omega); have c2 := Int.ediv_le_self W i0
  have d1 := Int.ediv_nonneg k0 (show 0 ≤ W by omega); have d2 := Int.ediv_le_self W k0
  have p := rnd_bd (d := i % W - k % W) hW; have q := rnd_bd (d := i / W - k / W) hH
  have hp := mul_bd (c := 64) (d := 64) p.1 (by omega) p.1 (by omega)
  have hq := mul_bd (c := 64) (d := 64) q.1 (by omega) q.1 (by omega)
  rw [if_neg (by omega), tmod_pos i0, tmod_pos k0, tdiv_pos i0, tdiv_pos k0, w64 (x := i / W) (by omega) (by omega), w64 (x := k / W) (by omega) (by omega), w64 (x := i % W - k % W) (by omega) (by omega), w64 (x := i / W - k / W) (by omega) (by omega), round_s (by omega) (by omega), Option.bind_some, round_s (by omega) (by omega), Option.bind_some]
  rw [w64 (x := rnd (i % W - k % W) W * _) (by omega) (by omega), w64 (x := rnd (i / W - k / W) H * _) (by omega) (by omega), w64 (by omega) (by omega)]; rfl
theorem weight_s {W H i k : Int} (h : Sz W H) (l : List Int) (i0 : 0 ≤ i) (i1 : i ≤ 100000) (k0 : 0 ≤ k) (k1 : k ≤ 100000) : spec_l6Weight.f W H l i k = some (weight W H i k) := by
  unfold spec_l6Weight.f
  have hb := far_bd h i k; have hw := weight_bd h i k
  rw [far_s h l i0 i1 k0 k1, Option.bind_some, w64 (by omega) (by omega), if_neg (by omega), tdiv_pos (by omega)]
  have e : 4096 / (1 + far W H i k) = weight W H i k := rfl
  rw [e, w64 (by omega) (by omega)]
theorem crowdl_s {W H : Int} {l : List Int} (h : Fld W H l) {i : Int} (i0 : 0 ≤ i) (i1 : i ≤ 100000) (d : Nat) : ∀ (k : Nat) (s j : Int), 0 ≤ j → j ≤ l.length → 0 ≤ s → s ≤ 4096 * j → (l.length : Int) - j = d → d < k →
    spec_l6Crowd.l0 k i s l l.length j W H l = some (s + crowdL W H i (l.drop j.toNat) j) := by
  have hl := h.len
  induction d with
  | zero =>
    intro k s j j0 j1 s0 s1 hd hk
    obtain ⟨k, rfl⟩ : ∃ m, k = m + 1 := ⟨k - 1, by omega⟩
    rw [spec_l6Crowd.l0, if_neg (by omega), drop_end l (by omega)]; simp [crowdL]
  | succ d ih =>
    intro k s j j0 j1 s0 s1 hd hk
    obtain ⟨k, rfl⟩ : ∃ m, k = m + 1 := ⟨k - 1, by omega⟩
    have hw := weight_bd h.1.1 i j
    rw [spec_l6Crowd.l0, if_pos (by omega), if_pos j0, if_pos (by omega), drop_at l j0 (by omega), weight_s h.1.1 l i0 i1 j0 (by omega), Option.bind_some, w64 (x := s + _) (by omega) (by omega), w64 (x := j + 1) (by omega) (by omega), ih k _ (j + 1) (by omega) (by omega) (by omega) (by omega) (by omega) (by omega), ih k _ (j + 1) (by omega) (by omega) (by omega) (by omega) (by omega) (by omega), rd_at, crowdL]
    split <;> (simp only [Option.some.injEq]; omega)
theorem crowd_s {W H : Int} {l : List Int} (h : Fld W H l) {i : Int} (i0 : 0 ≤ i) (i1 : i ≤ 100000) {k : Nat} (hk : 300 ≤ k) : spec_l6Crowd.f k W H l i = some (crowd W H l i) := by
  have hl := h.len
  unfold spec_l6Crowd.f
  rw [crowdl_s h i0 i1 l.length k 0 0 (by omega) (by omega) (by omega) (by omega) (by omega) (by omega), Int.zero_add]; rfl
theorem best_l {W H : Int} {l : List Int} (h : Fld W H l) (ink sg : Int) (hs : sg = 1 ∨ sg = -1) (d : Nat) : ∀ (k : Nat) (best most j : Int), 0 ≤ j → j ≤ l.length → (l.length : Int) - j = d → d + 300 < k →
    spec_l6Best.l0 k ink sg best most l l.length j W H l = some (bestL (fun j => sg * crowd W H l j) ink (l.drop j.toNat) j best most) := by
  have hl := h.len
  induction d with
  | zero =>
    intro k best most j j0 j1 hd hk
    obtain ⟨k, rfl⟩ : ∃ m, k = m + 1 := ⟨k - 1, by omega⟩
    rw [spec_l6Best.l0, if_neg (by omega), drop_end l (by omega)]; rfl
  | succ d ih =>
    intro k best most j j0 j1 hd hk
    obtain ⟨k, rfl⟩ : ∃ m, k = m + 1 := ⟨k - 1, by omega⟩
    have hc : 0 ≤ crowd W H l j ∧ crowd W H l j ≤ 4096 * l.length := crowdL_bd h.1.1 j l 0
    have hw : wrap64 (sg * crowd W H l j) = sg * crowd W H l j := by rcases hs with rfl | rfl <;> exact w64 (by omega) (by omega)
    rw [spec_l6Best.l0, if_pos (by omega), if_pos j0, if_pos (by omega), drop_at l j0 (by omega), crowd_s h j0 (by omega) (by omega), Option.bind_some, hw, w64 (x := j + 1) (by omega) (by omega), ih k _ _ (j + 1) (by omega) (by omega) (by omega) (by omega), ih k _ _ (j + 1) (by omega) (by omega) (by omega) (by omega), rd_at, bestL]
    by_cases e : at_ l j = ink
    · rw [if_pos e, if_pos e]
      by_cases e2 : best < 0
      · rw [if_pos e2, if_pos (.inl e2)]
      · rw [if_neg e2]
        by_cases e3 : sg * crowd W H l j > most
        · rw [if_pos e3, if_pos (.inr e3)]
        · rw [if_neg e3, if_neg (by omega)]
    · rw [if_neg e, if_neg e]
theorem best_t {W H : Int} {l : List Int} (h : Fld W H l) {k : Nat} (hk : 1000 ≤ k) : spec_l6Best.f k W H l 1 1 = some (ptight W H l) := by
  have hl := h.len
  unfold spec_l6Best.f
  rw [best_l h 1 1 (.inl rfl) l.length k (-1) 0 0 (by omega) (by omega) (by omega) (by omega)]; rfl
theorem best_v {W H : Int} {l : List Int} (h : Fld W H l) {k : Nat} (hk : 1000 ≤ k) : spec_l6Best.f k W H l 0 (-1) = some (pvoid W H l) := by
  have hl := h.len
  unfold spec_l6Best.f
  rw [best_l h 0 (-1) (.inr rfl) l.length k (-1) 0 0 (by omega) (by omega) (by omega) (by omega)]; rfl
theorem copy_s (W H : Int) {l : List Int} (hl : l.length ≤ 1048576) : spec_l6Copy.f W H l = some (W, H, l) := by
  unfold spec_l6Copy.f; rw [Option.bind_some, if_pos (by rw [List.length_nil]; omega)]; rfl
theorem pict_s {W H : Int} {l : List Int} (hl : l.length ≤ 1048576) {k : Nat} (hk : 1100000 ≤ k) : spec_IsPicture.f k W H l = some (decide (Up W H l 255)) := by
  unfold spec_IsPicture.f; rw [up_s hl 255 hk]; rfl
theorem countl_s {l : List Int} (hl : l.length ≤ 1048576) (d : Nat) : ∀ (k : Nat) (s j : Int), 0 ≤ j → j ≤ l.length → 0 ≤ s → s ≤ j → (l.length : Int) - j = d → d < k → spec_CountInk.l0 k 1 s l l.length j = some (s + cnt 1 (l.drop j.toNat)) := by
  induction d with
  | zero =>
    intro k s j j0 j1 s0 s1 hd hk
    obtain ⟨k, rfl⟩ : ∃ m, k = m + 1 := ⟨k - 1, by omega⟩
    rw [spec_CountInk.l0, if_neg (by omega), drop_end l (by omega)]; simp [cnt]
  | succ d ih =>
    intro k s j j0 j1 s0 s1 hd hk
    obtain ⟨k, rfl⟩ : ∃ m, k = m + 1 := ⟨k - 1, by omega⟩
    rw [spec_CountInk.l0, if_pos (by omega), if_pos j0, if_pos (by omega), drop_at l j0 (by omega), w64 (x := s + 1) (by omega) (by omega), w64 (x := j + 1) (by omega) (by omega), ih k _ (j + 1) (by omega) (by omega) (by omega) (by omega) (by omega) (by omega), ih k _ (j + 1) (by omega) (by omega) (by omega) (by omega) (by omega) (by omega), rd_at, cnt]
    split <;> (simp only [Option.some.injEq]; omega)
theorem count_s {W H : Int} {l : List Int} (h : Fld W H l) {k : Nat} (hk : 1100000 ≤ k) : spec_CountInk.f k W H l 1 = some ((cnt 1 l : Nat) : Int) := by
  have := h.len
  unfold spec_CountInk.f
  rw [pict_s (by omega) hk, Option.bind_some, if_pos (decide_eq_true ⟨h.1.1, h.1.2.1, fun v hv => ⟨(h.1.2.2 v hv).1, by have := (h.1.2.2 v hv).2; omega⟩⟩), countl_s (by omega) l.length k 0 0 (by omega) (by omega) (by omega) (by omega) (by omega) (by omega), Int.zero_add]; rfl
theorem rankb_s {W H : Int} {l : List Int} (hl : Fld W H l) (d : Nat) : ∀ (k : Nat) (n : Int) (F M : List Int), Fld W H F → 0 ≤ n → cnt 0 F = d → (l.length : Int) - n = d → M.length = l.length → d + 1100000 < k →
    spec_RankField.l1 k n W H l W H M W H F = some (W, H, rankB W H d n F M, true) := by
  have hll := hl.len
  induction d with
  | zero =>
    intro k n F M h n0 hc hd hM hk
    obtain ⟨k, rfl⟩ : ∃ m, k = m + 1 := ⟨k - 1, by omega⟩
    rw [spec_RankField.l1, if_neg (by omega)]; rfl
  | succ d ih =>
    intro k n F M h n0 hc hd hM hk
    obtain ⟨k, rfl⟩ : ∃ m, k = m + 1 := ⟨k - 1, by omega⟩
    have hF := h.len
    have h0 := void_has (W := W) (H := H) (cnt_pos (v := 0) (l := F) (by omega))
    have h1 := (void_in W H F).resolve_left (by omega)
    have h2 := cnt_at (u := 1) h1.1 h1.2.1 h1.2.2 (by omega)
    rw [spec_RankField.l1, if_pos (by omega), best_v h (by omega), Option.bind_some, if_pos h1.1, if_pos h1.2.1, if_pos (by omega), w64 (by omega) (by omega)]
    exact ih k (n + 1) _ _ (h.set ⟨by omega, by omega⟩) (by omega) (by omega) (by omega) (by rw [List.length_set]; exact hM) (by omega)
theorem ranka_s {W H : Int} {l : List Int} (hl : Fld W H l) (d : Nat) : ∀ (k : Nat) (x : Int) (F M : List Int), Fld W H F → x + 1 = d → cnt 1 F = d → M.length = l.length → d + 1200000 < k →
    spec_RankField.l0 k x W H l W H M W H F = some (W, H, rankB W H (cnt 0 l) (cnt 1 l) l (rankA W H d F M), true) := by
  have hll := hl.len
  have hcn := cnt_two hl.1.2.2
  induction d with
  | zero =>
    intro k x F M h hx hc hM hk
    obtain ⟨k, rfl⟩ : ∃ m, k = m + 1 := ⟨k - 1, by omega⟩
    rw [spec_RankField.l0, if_neg (by omega), copy_s W H (by omega), Option.bind_some, count_s hl (by omega), Option.bind_some]
    exact rankb_s hl (cnt 0 l) k (cnt 1 l) l M hl (by omega) rfl (by omega) hM (by omega)
  | succ d ih =>
    intro k x F M h hx hc hM hk
    obtain ⟨k, rfl⟩ : ∃ m, k = m + 1 := ⟨k - 1, by omega⟩
    have hF := h.len
    have hcf := cnt_le 1 F
    have h0 := tight_has (W := W) (H := H) (cnt_pos (v := 1) (l := F) (by omega))
    have h1 := (tight_in W H F).resolve_left (by omega)
    have h2 := cnt_at (u := 0) h1.1 h1.2.1 h1.2.2 (by omega)
    rw [spec_RankField.l0, if_pos (by omega), best_t h (by omega), Option.bind_some, if_pos h1.1, if_pos h1.2.1, if_pos (by omega), w64 (by omega) (by omega), ih k (x - 1) _ _ (h.set ⟨by omega, by omega⟩) (by omega) (by omega) (by rw [List.length_set]; exact hM) (by omega)]
    rw [rankA, show x = (d : Int) by omega]
theorem rank_s {W H : Int} {l : List Int} (hl : l.length ≤ 1048576) {k : Nat} (hk : 1300000 < k) : spec_RankField.f k W H l = some (prank W H l) := by
  unfold spec_RankField.f prank
  rw [field_s hl (by omega), Option.bind_some]
  by_cases h : Fld W H l
  · have := h.len
    have hc := cnt_le 1 l
    rw [if_pos (decide_eq_true h), if_pos (by omega), if_pos (by omega), copy_s W H hl, Option.bind_some, count_s h (by omega), Option.bind_some, w64 (by omega) (by omega), if_pos h]
    exact ranka_s h (cnt 1 l) k _ l _ h (by omega) rfl (by simp) (by omega)
  · rw [if_neg (by rw [decide_eq_true_iff]; exact h), if_neg h]
theorem size_i (W H : Int) : impl_sized.f W H = some (decide (Sz W H)) := by
  unfold impl_sized.f
  by_cases h : 1 ≤ W ∧ W ≤ 64 ∧ 1 ≤ H ∧ H ≤ 64
  · have := mul_bd (c := 64) (d := 64) (show 0 ≤ W by omega) h.2.1 (show 0 ≤ H by omega) h.2.2.2
    rw [if_pos (by omega), if_pos (by omega), if_pos (by omega), if_pos (by omega), w64 (by omega) (by omega)]
    exact dec_dd (by unfold Sz; omega)
  · repeat' split
    all_goals first | exact dec_ff (by unfold Sz; omega) | (exfalso; omega)
theorem within_i {l : List Int} (hl : l.length ≤ 1048576) (m : Int) : impl_within.f l m = some (decide (All m l)) := by
  unfold impl_within.f
  rw [if_pos (by omega)]; simp only [Option.some.injEq]
  rw [Bool.eq_iff_iff, List.all_eq_true, decide_eq_true_iff]
  exact ⟨fun h v hv => of_decide_eq_true (h v hv), fun h v hv => decide_eq_true (h v hv)⟩
theorem pict_i {W H : Int} {l : List Int} (hl : l.length ≤ 1048576) : impl_IsPicture.f W H l = some (decide (Up W H l 255)) := by
  unfold impl_IsPicture.f
  rw [size_i, Option.bind_some]
  by_cases h : Sz W H
  · have := h.area
    rw [if_pos (decide_eq_true h), w64 (by omega) (by omega), within_i hl]
    by_cases e : (l.length : Int) = W * H
    · rw [if_pos e]; exact dec_dd ⟨fun x => ⟨h, e, x⟩, fun x => x.2.2⟩
    · rw [if_neg e]; exact dec_ff (fun x => e x.2.1)
  · rw [if_neg (by rw [decide_eq_true_iff]; exact h)]; exact dec_ff (fun x => h x.1)
theorem plate_i {W H : Int} {l : List Int} (hl : l.length ≤ 1048576) : impl_IsPlate.f W H l = some (decide (Up W H l 1)) := by
  unfold impl_IsPlate.f
  rw [pict_i hl, Option.bind_some, within_i hl]
  by_cases h : Up W H l 255
  · rw [if_pos (decide_eq_true h)]; exact dec_dd ⟨fun x => ⟨h.1, h.2.1, x⟩, fun x => x.2.2⟩
  · rw [if_neg (by rw [decide_eq_true_iff]; exact h)]; exact dec_ff (fun x => h ⟨x.1, x.2.1, fun v hv => ⟨(x.2.2 v hv).1, by have := (x.2.2 v hv).2; omega⟩⟩)
theorem field_i {W H : Int} {l : List Int} (hl : l.length ≤ 1048576) : impl_IsField.f W H l = some (decide (Fld W H l)) := by
  unfold impl_IsField.f; rw [plate_i hl, Option.bind_some]
  by_cases h : Up W H l 1
  · rw [if_pos (decide_eq_true h)]; exact dec_dd ⟨fun x => ⟨h, x⟩, fun x => x.2⟩
  · rw [if_neg (by rw [decide_eq_true_iff]; exact h)]; exact dec_ff (fun x => h x.1)
theorem mod_i {x n : Int} (h0 : 0 < n) (h1 : n ≤ 9223372036854775807) : impl_mod.f x n = some (x % n) := by
  unfold impl_mod.f
  rw [if_neg (by omega)]
  have h2 := Int.emod_nonneg x (show n ≠ 0 by omega)
  have h3 := Int.emod_lt_of_pos x h0
  have e := Int.tmod_eq_emod (a := x) (b := n)
  by_cases hc : 0 ≤ x ∨ n ∣ x
  · rw [if_pos hc] at e
    rw [e, if_neg (by omega)]; simp
  · rw [if_neg hc] at e
    rw [e, if_pos (by omega), w64 (by omega) (by omega)]; simp only [Option.some.injEq]; omega
theorem far_i {W H i k : Int} (h : Sz W H) (l : List Int) (i0 : 0 ≤ i) (i1 : i ≤ 100000) (k0 : 0 ≤ k) (k1 : k ≤ 100000) : impl_farness.f W H l i k = some (far W H i k) := by
  unfold impl_farness.f
  have hW := h.1; have hW2 := h.2.1; have hH := h.2.2.1; have hH2 := h.2.2.2.1
  have a1 := Int.emod_nonneg i (show W ≠ 0 by omega); have a2 := Int.emod_lt_of_pos i (show 0 < W by omega)
  have b1 := Int.emod_nonneg k (show W ≠ 0 by omega); have b2 := Int.emod_lt_of_pos k (show 0 < W by omega)
  have c1 := Int.ediv_nonneg i0 (show 0 ≤ W by omega); have c2 := Int.ediv_le_self W i0
  have d1 := Int.ediv_nonneg k0 (show 0 ≤ W by omega); have d2 := Int.ediv_le_self W k0
  have p := rnd_bd (d := i % W - k % W) hW; have q := rnd_bd (d := i / W - k / W) hH
  have hp := mul_bd (c := 64) (d := 64) p.1 (by omega) p.1 (by omega)
  have hq := mul_bd (c := 64) (d := 64) q.1 (by omega) q.1 (by omega)
  have e1 := Int.emod_nonneg (i % W - k % W) (show W ≠ 0 by omega); have e2 := Int.emod_lt_of_pos (i % W - k % W) (show 0 < W by omega)
  have f1 := Int.emod_nonneg (i / W - k / W) (show H ≠ 0 by omega); have f2 := Int.emod_lt_of_pos (i / W - k / W) (show 0 < H by omega)
  rw [if_neg (by omega), tmod_pos i0, tmod_pos k0, tdiv_pos i0, tdiv_pos k0, w64 (x := i / W) (by omega) (by omega), w64 (x := k / W) (by omega) (by omega), w64 (x := i % W - k % W) (by omega) (by omega), w64 (x := i / W - k / W) (by omega) (by omega), mod_i (by omega) (by omega), Option.bind_some, mod_i (by omega) (by omega), Option.bind_some]
  rw [w64 (x := W - _) (by omega) (by omega), w64 (x := H - _) (by omega) (by omega), mn_eq, mn_eq]
  change some (wrap64 (wrap64 (rnd (i % W - k % W) W * rnd (i % W - k % W) W) + wrap64 (rnd (i / W - k / W) H * rnd (i / W - k / W) H))) = _
  rw [w64 (x := rnd (i % W - k % W) W * _) (by omega) (by omega), w64 (x := rnd (i / W - k / W) H * _) (by omega) (by omega), w64 (by omega) (by omega)]; rfl
theorem weight_i {W H i k : Int} (h : Sz W H) (l : List Int) (i0 : 0 ≤ i) (i1 : i ≤ 100000) (k0 : 0 ≤ k) (k1 : k ≤ 100000) : impl_pair.f W H l i k = some (weight W H i k) := by
  unfold impl_pair.f
  have hb := far_bd h i k; have hw := weight_bd h i k
  rw [far_i h l i0 i1 k0 k1, Option.bind_some, w64 (by omega) (by omega), if_neg (by omega), tdiv_pos (by omega)]
  have e : 4096 / (1 + far W H i k) = weight W H i k := rfl
  rw [e, w64 (by omega) (by omega)]
theorem crowdl_i {W H : Int} {l : List Int} (h : Fld W H l) {i : Int} (i0 : 0 ≤ i) (i1 : i ≤ 100000) (d : Nat) : ∀ (k : Nat) (s j : Int), 0 ≤ j → j ≤ l.length → 0 ≤ s → s ≤ 4096 * j → (l.length : Int) - j = d → d < k →
    impl_crowd.l0 k i s l l.length j W H l = some (s + crowdL W H i (l.drop j.toNat) j) := by
  have hl := h.len
  induction d with
  | zero =>
    intro k s j j0 j1 s0 s1 hd hk
    obtain ⟨k, rfl⟩ : ∃ m, k = m + 1 := ⟨k - 1, by omega⟩
    rw [impl_crowd.l0, if_neg (by omega), drop_end l (by omega)]; simp [crowdL]
  | succ d ih =>
    intro k s j j0 j1 s0 s1 hd hk
    obtain ⟨k, rfl⟩ : ∃ m, k = m + 1 := ⟨k - 1, by omega⟩
    have hw := weight_bd h.1.1 i j
    rw [impl_crowd.l0, if_pos (by omega), if_pos j0, if_pos (by omega), drop_at l j0 (by omega), weight_i h.1.1 l i0 i1 j0 (by omega), Option.bind_some, w64 (x := s + _) (by omega) (by omega), w64 (x := j + 1) (by omega) (by omega), ih k _ (j + 1) (by omega) (by omega) (by omega) (by omega) (by omega) (by omega), ih k _ (j + 1) (by omega) (by omega) (by omega) (by omega) (by omega) (by omega), rd_at, crowdL]
    split <;> (simp only [Option.some.injEq]; omega)
theorem crowd_i {W H : Int} {l : List Int} (h : Fld W H l) {i : Int} (i0 : 0 ≤ i) (i1 : i ≤ 100000) {k : Nat} (hk : 300 ≤ k) : impl_crowd.f k W H l i = some (crowd W H l i) := by
  have hl := h.len
  unfold impl_crowd.f
  rw [crowdl_i h i0 i1 l.length k 0 0 (by omega) (by omega) (by omega) (by omega) (by omega) (by omega), Int.zero_add]; rfl
theorem tight_l {W H : Int} {l : List Int} (h : Fld W H l) (d : Nat) : ∀ (k : Nat) (best most j : Int), 0 ≤ j → j ≤ l.length → (l.length : Int) - j = d → d + 300 < k →
    impl_TightestDot.l0 k best most l l.length j W H l = some (bestL (fun j => 1 * crowd W H l j) 1 (l.drop j.toNat) j best most) := by
  have hl := h.len
  induction d with
  | zero =>
    intro k best most j j0 j1 hd hk
    obtain ⟨k, rfl⟩ : ∃ m, k = m + 1 := ⟨k - 1, by omega⟩
    rw [impl_TightestDot.l0, if_neg (by omega), drop_end l (by omega)]; rfl
  | succ d ih =>
    intro k best most j j0 j1 hd hk
    obtain ⟨k, rfl⟩ : ∃ m, k = m + 1 := ⟨k - 1, by omega⟩
    rw [impl_TightestDot.l0, if_pos (by omega), if_pos j0, if_pos (by omega), drop_at l j0 (by omega), crowd_i h j0 (by omega) (by omega), Option.bind_some, w64 (x := j + 1) (by omega) (by omega), ih k _ _ (j + 1) (by omega) (by omega) (by omega) (by omega), ih k _ _ (j + 1) (by omega) (by omega) (by omega) (by omega), rd_at, bestL]
    simp only [Int.one_mul]
    by_cases e : at_ l j = 1
    · rw [if_pos e, if_pos e]
      by_cases e2 : best < 0
      · rw [if_pos e2, if_pos (.inl e2)]
      · rw [if_neg e2]
        by_cases e3 : crowd W H l j > most
        · rw [if_pos e3, if_pos (.inr e3)]
        · rw [if_neg e3, if_neg (by omega)]
    · rw [if_neg e, if_neg e]
theorem tight_i {W H : Int} {l : List Int} (hl : l.length ≤ 1048576) {k : Nat} (hk : 1100000 ≤ k) : impl_TightestDot.f k W H l = some (if Fld W H l then ptight W H l else -1) := by
  unfold impl_TightestDot.f
  rw [field_i hl]; simp only [Option.bind_some]
  by_cases h : Fld W H l
  · have := h.len
    rw [if_pos (decide_eq_true h), if_pos h, tight_l h l.length k (-1) 0 0 (by omega) (by omega) (by omega) (by omega)]; rfl
  · rw [if_neg (by rw [decide_eq_true_iff]; exact h), if_neg h]
theorem void_l {W H : Int} {l : List Int} (h : Fld W H l) (d : Nat) : ∀ (k : Nat) (best most j : Int), 0 ≤ j → j ≤ l.length → (l.length : Int) - j = d → d + 300 < k →
    impl_WidestVoid.l0 k best most l l.length j W H l = some (bestL (fun j => -1 * crowd W H l j) 0 (l.drop j.toNat) j best (-1 * most)) := by
  have hl := h.len
  induction d with
  | zero =>
    intro k best most j j0 j1 hd hk
    obtain ⟨k, rfl⟩ : ∃ m, k = m + 1 := ⟨k - 1, by omega⟩
    rw [impl_WidestVoid.l0, if_neg (by omega), drop_end l (by omega)]; rfl
  | succ d ih =>
    intro k best most j j0 j1 hd hk
    obtain ⟨k, rfl⟩ : ∃ m, k = m + 1 := ⟨k - 1, by omega⟩
    rw [impl_WidestVoid.l0, if_pos (by omega), if_pos j0, if_pos (by omega), drop_at l j0 (by omega), crowd_i h j0 (by omega) (by omega), Option.bind_some, w64 (x := j + 1) (by omega) (by omega), ih k _ _ (j + 1) (by omega) (by omega) (by omega) (by omega), ih k _ _ (j + 1) (by omega) (by omega) (by omega) (by omega), rd_at, bestL]
    by_cases e : at_ l j = 0
    · rw [if_pos e, if_pos e]
      by_cases e2 : best < 0
      · rw [if_pos e2, if_pos (.inl e2)]
      · rw [if_neg e2]
        by_cases e3 : crowd W H l j < most
        · rw [if_pos e3, if_pos (.inr (by omega))]
        · rw [if_neg e3, if_neg (by omega)]
    · rw [if_neg e, if_neg e]
theorem void_i {W H : Int} {l : List Int} (hl : l.length ≤ 1048576) {k : Nat} (hk : 1100000 ≤ k) : impl_WidestVoid.f k W H l = some (if Fld W H l then pvoid W H l else -1) := by
  unfold impl_WidestVoid.f
  rw [field_i hl]; simp only [Option.bind_some]
  by_cases h : Fld W H l
  · have := h.len
    rw [if_pos (decide_eq_true h), if_pos h, void_l h l.length k (-1) 0 0 (by omega) (by omega) (by omega) (by omega)]; rfl
  · rw [if_neg (by rw [decide_eq_true_iff]; exact h), if_neg h]
theorem suml_i {l : List Int} (hl : l.length ≤ 1048576) (hA : All 1 l) (d : Nat) : ∀ (k : Nat) (s j : Int), 0 ≤ j → j ≤ l.length → 0 ≤ s → s ≤ j → (l.length : Int) - j = d → d < k → impl_SumInk.l0 k s l l.length j = some (s + cnt 1 (l.drop j.toNat)) := by
  induction d with
  | zero =>
    intro k s j j0 j1 s0 s1 hd hk
    obtain ⟨k, rfl⟩ : ∃ m, k = m + 1 := ⟨k - 1, by omega⟩
    rw [impl_SumInk.l0, if_neg (by omega), drop_end l (by omega)]; simp [cnt]
  | succ d ih =>
    intro k s j j0 j1 s0 s1 hd hk
    obtain ⟨k, rfl⟩ : ∃ m, k = m + 1 := ⟨k - 1, by omega⟩
    have ha : 0 ≤ at_ l j ∧ at_ l j ≤ 1 := hA _ (at_mem j0 (by omega))
    rw [impl_SumInk.l0, if_pos (by omega), if_pos j0, if_pos (by omega), drop_at l j0 (by omega), rd_at, w64 (x := s + _) (by omega) (by omega), w64 (x := j + 1) (by omega) (by omega), ih k _ (j + 1) (by omega) (by omega) (by omega) (by omega) (by omega) (by omega), cnt]
    split <;> (simp only [Option.some.injEq]; omega)
theorem sum_i {W H : Int} {l : List Int} (h : Fld W H l) {k : Nat} (hk : 1100000 ≤ k) : impl_SumInk.f k W H l = some ((cnt 1 l : Nat) : Int) := by
  have := h.len
  unfold impl_SumInk.f
  rw [pict_i (by omega), Option.bind_some, if_pos (decide_eq_true ⟨h.1.1, h.1.2.1, fun v hv => ⟨(h.1.2.2 v hv).1, by have := (h.1.2.2 v hv).2; omega⟩⟩), suml_i (by omega) h.1.2.2 l.length k 0 0 (by omega) (by omega) (by omega) (by omega) (by omega) (by omega), Int.zero_add]; rfl
-- nothing on slices_Clone_int_int
theorem copied_i (W H : Int) {l : List Int} (hl : l.length ≤ 1048576) : impl_copied.f W H l = some (W, H, l) := by
  unfold impl_copied.f slices_Clone_int_int.f; rw [if_pos (by omega), Option.bind_some]
theorem rankb_i {W H : Int} {l : List Int} (hl : Fld W H l) (d : Nat) : ∀ (k : Nat) (n : Int) (F M : List Int), Fld W H F → 0 ≤ n → cnt 0 F = d → (l.length : Int) - n = d → M.length = l.length → d + 1100000 < k →
    impl_RankField.l1 k n W H l W H M W H F = some (W, H, rankB W H d n F M, true) := by
  have hll := hl.len
  induction d with
  | zero =>
    intro k n F M h n0 hc hd hM hk
    obtain ⟨k, rfl⟩ : ∃ m, k = m + 1 := ⟨k - 1, by omega⟩
    rw [impl_RankField.l1, if_neg (by omega)]; rfl
  | succ d ih =>
    intro k n F M h n0 hc hd hM hk
    obtain ⟨k, rfl⟩ : ∃ m, k = m + 1 := ⟨k - 1, by omega⟩
    have hF := h.len
    have h0 := void_has (W := W) (H := H) (cnt_pos (v := 0) (l := F) (by omega))
    have h1 := (void_in W H F).resolve_left (by omega)
    have h2 := cnt_at (u := 1) h1.1 h1.2.1 h1.2.2 (by omega)
    rw [impl_RankField.l1, if_pos (by omega), void_i (by omega) (by omega), Option.bind_some, if_pos h, if_pos h1.1, if_pos h1.2.1, if_pos (by omega), w64 (by omega) (by omega)]
    exact ih k (n + 1) _ _ (h.set ⟨by omega, by omega⟩) (by omega) (by omega) (by omega) (by rw [List.length_set]; exact hM) (by omega)
theorem ranka_i {W H : Int} {l : List Int} (hl : Fld W H l) (c : Int) (hcc : c = cnt 1 l) (d : Nat) : ∀ (k : Nat) (x : Int) (F M : List Int), Fld W H F → x + 1 = d → cnt 1 F = d → M.length = l.length → d + 1200000 < k →
    impl_RankField.l0 k c x W H l W H M W H F = some (W, H, rankB W H (cnt 0 l) (cnt 1 l) l (rankA W H d F M), true) := by
  have hll := hl.len
  have hcn := cnt_two hl.1.2.2
  induction d with
  | zero =>
    intro k x F M h hx hc hM hk
    obtain ⟨k, rfl⟩ : ∃ m, k = m + 1 := ⟨k - 1, by omega⟩
    rw [impl_RankField.l0, if_neg (by omega), copied_i W H (by omega), Option.bind_some]
    subst hcc
    exact rankb_i hl (cnt 0 l) k (cnt 1 l) l M hl (by omega) rfl (by omega) hM (by omega)
  | succ d ih =>
    intro k x F M h hx hc hM hk
    obtain ⟨k, rfl⟩ : ∃ m, k = m + 1 := ⟨k - 1, by omega⟩
    have hF := h.len
    have hcf := cnt_le 1 F
    have h0 := tight_has (W := W) (H := H) (cnt_pos (v := 1) (l := F) (by omega))
    have h1 := (tight_in W H F).resolve_left (by omega)
    have h2 := cnt_at (u := 0) h1.1 h1.2.1 h1.2.2 (by omega)
    rw [impl_RankField.l0, if_pos (by omega), tight_i (by omega) (by omega), Option.bind_some, if_pos h, if_pos h1.1, if_pos h1.2.1, if_pos (by omega), w64 (by omega) (by omega), ih k (x - 1) _ _ (h.set ⟨by omega, by omega⟩) (by omega) (by omega) (by rw [List.length_set]; exact hM) (by omega)]
    rw [rankA, show x = (d : Int) by omega]
theorem rank_i {W H : Int} {l : List Int} (hl : l.length ≤ 1048576) {k : Nat} (hk : 1300000 < k) : impl_RankField.f k W H l = some (prank W H l) := by
  unfold impl_RankField.f prank
  rw [field_i hl, Option.bind_some]
  by_cases h : Fld W H l
  · have := h.len
    have hc := cnt_le 1 l
    rw [if_pos (decide_eq_true h), if_pos (by omega), if_pos (by omega), sum_i h (by omega), Option.bind_some, copied_i W H hl, Option.bind_some, w64 (by omega) (by omega), if_pos h]
    exact ranka_i h _ rfl (cnt 1 l) k _ l _ h (by omega) rfl (by simp) (by omega)
  · rw [if_neg (by rw [decide_eq_true_iff]; exact h), if_neg h]
theorem eqm (a b : Int) {l : List Int} (hl : l.length ≤ 1048576) {k : Nat} (hk : 1100000 ≤ k) : laws_eqMatrix.f k a b l a b l = some true := by
  unfold laws_eqMatrix.f; rw [if_pos rfl, if_pos rfl, eqs hl hk]; rfl
theorem mark_m (a b : Int) {l : List Int} {m : Int} (m0 : 0 ≤ m) (m1 : m ≤ 100000000) (hl : l.length ≤ 1048576) {k : Nat} (hk : 1100000 ≤ k) : laws_markMatrix.f k a b l m = some (m + l.length, marks m l.length) := by
  unfold laws_markMatrix.f; rw [mark_s m0 m1 hl hk]; rfl
theorem held_l (n : Nat) (m : Int) (m0 : 0 ≤ m) (m1 : m ≤ 100000000) (hn : n ≤ 1048576) (d : Nat) : ∀ (k : Nat) (i : Int), 0 ≤ i → i ≤ n → (n : Int) - i = d → d < k → laws_heldIntS.l0 k (marks m n) (m + i) i = some (m + n) := by
  induction d with
  | zero =>
    intro k i h0 h1 hd hk
    obtain ⟨k, rfl⟩ : ∃ m, k = m + 1 := ⟨k - 1, by omega⟩
    rw [laws_heldIntS.l0, if_neg (by rw [marks_length]; omega), show m + i = m + (n : Int) by omega]
  | succ d ih =>
    intro k i h0 h1 hd hk
    obtain ⟨k, rfl⟩ : ∃ m, k = m + 1 := ⟨k - 1, by omega⟩
    have e : rd (marks m n) i = m + i := by
      rw [rd_at]; unfold at_; rw [List.getD_eq_getElem?_getD, marks_at n m i.toNat (by omega), Option.getD_some]; omega
    rw [laws_heldIntS.l0, if_pos (by rw [marks_length]; omega), if_pos h0, if_pos e, w64 (by omega) (by omega), w64 (by omega) (by omega), show m + i + 1 = m + (i + 1) by omega]
    exact ih k (i + 1) (by omega) (by omega) (by omega) (by omega)
theorem held_s {n : Nat} {m : Int} (m0 : 0 ≤ m) (m1 : m ≤ 100000000) (hn : n ≤ 1048576) {k : Nat} (hk : 1100000 ≤ k) : laws_heldIntS.f k (marks m n) m = some (m + n) := by
  have := held_l n m m0 m1 hn n k 0 (by omega) (by omega) (by omega) (by omega)
  rw [Int.add_zero] at this
  unfold laws_heldIntS.f; exact this
theorem held_m (a b : Int) {n : Nat} {m : Int} (m0 : 0 ≤ m) (m1 : m ≤ 100000000) (hn : n ≤ 1048576) {k : Nat} (hk : 1100000 ≤ k) : laws_heldMatrix.f k a b (marks m n) m = some (m + n) := by
  unfold laws_heldMatrix.f; rw [held_s m0 m1 hn hk, Option.bind_some, if_neg (by omega)]
theorem pure_FnExactRankField (W H : Int) (l : List Int) (hl : l.length ≤ 140737488351232) : ∃ k, laws_FnExactRankField.f k W H l = some true := by
  obtain ⟨m, hm⟩ : ∃ m : Nat, 2000000 ≤ m := ⟨2000000, Nat.le_refl _⟩
  refine ⟨m + 8, ?_⟩
  unfold laws_FnExactRankField.f
  rw [sz_p W H l 1048576 (by omega) (by omega) hl, Option.bind_some]
  by_cases h : (l.length : Int) ≤ 1048576
  · rw [if_pos h, if_neg (by omega)]
    have hl' : l.length ≤ 1048576 := by omega
    have hs : (prank W H l).2.2.1.length ≤ 1048576 := Nat.le_trans (prank_len W H l) hl'
    simp (disch := first | assumption | omega) only [top, Option.bind_some, rank_s, rank_i, eqp, eqm, if_true, bne_self_eq_false, Bool.false_eq_true, if_false, mark_p, mark_m, held_m, mk_neg]
    rw [laws_FnExactRankField.j0]
    simp (disch := first | assumption | omega) only [top, Option.bind_some, rank_s, rank_i, eqp, eqm, if_true, bne_self_eq_false, Bool.false_eq_true, if_false, mark_p, mark_m, held_m, mk_neg]
    rw [laws_FnExactRankField.j1]
    simp (disch := first | assumption | omega) only [top, Option.bind_some, rank_s, rank_i, eqp, eqm, if_true, bne_self_eq_false, Bool.false_eq_true, if_false, mark_p, mark_m, held_m, mk_neg]
    rw [laws_FnExactRankField.j2]
    simp (disch := first | assumption | omega) only [top, Option.bind_some, rank_s, rank_i, eqp, eqm, if_true, bne_self_eq_false, Bool.false_eq_true, if_false, mark_p, mark_m, held_m, mk_neg]
  · rw [if_neg h]; rfl
end Go.Proofs.Ytdbbgmnjbkmjmaa.PFnExactRankField
