/- What the functions that laws.FnExactDotText reaches compute, and that the law is true: over numbers alone. -/
import Derived.Test.YtjonhedjfablbaaPFnExactDotTextx
import Derived.Test.YtjonhedjfablbaaPic
namespace Go.Proofs.Ytjonhedjfablbaa.PFnExactDotText
open Go.RowKit Go.Proofs.YtjonhedjfablbaaW.PrintWords Go.Proofs.YtjonhedjfablbaaW.PrintMore
set_option linter.unusedVariables false
set_option linter.unusedSimpArgs false
set_option linter.unusedSimpArgs false
open Pic
theorem w64 {x : Int} (h1 : -9223372036854775808 ≤ x) (h2 : x ≤ 9223372036854775807) : wrap64 x = x := by unfold wrap64; omega
theorem rd_at (l : List Int) (i : Int) : rd l i = at_ l i := rfl
theorem tmod_pos {n x : Int} (h : 0 ≤ x) : Int.tmod x n = x % n := Int.tmod_eq_emod_of_nonneg h
theorem tdiv_pos {n x : Int} (h : 0 ≤ x) : Int.tdiv x n = x / n := Int.tdiv_eq_ediv_of_nonneg h
theorem dec_ff {p : Prop} [Decidable p] (h : ¬ p) : some false = some (decide p) := by rw [decide_eq_false h]
theorem dec_dd {p q : Prop} [Decidable p] [Decidable q] (h : p ↔ q) : some (decide p) = some (decide q) := by rw [decide_eq_decide.mpr h]
theorem mn_eq (a b : Int) : mn a b = if b < a then b else a := rfl
theorem mk_neg (n : Nat) : ¬ ((1 : Int) + n < 0) := by omega
theorem eqs_l (d : Nat) : ∀ (k : Nat) (l : List Int) (i : Int), 0 ≤ i → l.length ≤ 1048576 → l.length - i.toNat ≤ d → d < k → laws_eqIntS.l0 k l l i = some true := by
  induction d with
  | zero =>
    intro k l i h0 hl hd hk
    obtain ⟨k, rfl⟩ : ∃ m, k = m + 1 := ⟨k - 1, by omega⟩
    rw [laws_eqIntS.l0, if_neg (by omega)]
  | succ d ih =>
    intro k l i h0 hl hd hk
    obtain ⟨k, rfl⟩ : ∃ m, k = m + 1 := ⟨k - 1, by omega⟩
    rw [laws_eqIntS.l0]
    by_cases h : i < (l.length : Int)
    · rw [if_pos h, if_pos h0, if_pos h, if_pos rfl, w64 (by omega) (by omega)]; exact ih k l (i + 1) (by omega) hl (by omega) (by omega)
    · rw [if_neg h]
theorem eqs {l : List Int} (hl : l.length ≤ 1048576) {k : Nat} (hk : 1100000 ≤ k) : laws_eqIntS.f k l l = some true := by
  unfold laws_eqIntS.f; rw [if_pos rfl, eqs_l l.length k l 0 (by omega) hl (by omega) (by omega)]
theorem eqp (a b : Int) {l : List Int} (hl : l.length ≤ 1048576) {k : Nat} (hk : 1100000 ≤ k) : laws_eqPicture.f k a b l a b l = some true := by
  unfold laws_eqPicture.f; rw [if_pos rfl, if_pos rfl, eqs hl hk]; rfl
theorem sz_s (l : List Int) (m : Int) (hm : 0 ≤ m) (hm2 : m ≤ 1048576) (hl : l.length ≤ 140737488351232) : laws_szIntS.f l m = some (if (l.length : Int) ≤ m then m - l.length else -1) := by
  unfold laws_szIntS.f
  rw [w64 (by omega) (by omega)]
  by_cases h : (l.length : Int) ≤ m
  · rw [if_neg (by omega), if_pos h]
  · rw [if_pos (by omega), if_neg h]
theorem sz_p (a b : Int) (l : List Int) (m : Int) (hm : 0 ≤ m) (hm2 : m ≤ 1048576) (hl : l.length ≤ 140737488351232) : laws_szPicture.f a b l m = some (if (l.length : Int) ≤ m then m - l.length else -1) := by
  unfold laws_szPicture.f
  rw [sz_s l m hm hm2 hl, Option.bind_some]
  by_cases h : (l.length : Int) ≤ m
  · rw [if_pos h, if_neg (by omega)]
  · rw [if_neg h, if_pos (by omega)]
theorem l1In (x a b : Int) : spec_l1In.f x a b = some (decide (a ≤ x ∧ x ≤ b)) := by
  unfold spec_l1In.f
  split
  all_goals first | exact dec_dd (by omega) | exact dec_ff (by omega)
theorem size_s (W H : Int) : spec_l1Size.f W H = some (decide (Sz W H)) := by
  unfold spec_l1Size.f
  simp only [l1In, Option.bind_some]
  by_cases hW : 1 ≤ W ∧ W ≤ 64
  · by_cases hH : 1 ≤ H ∧ H ≤ 64
    · have := mul_bd (c := 64) (d := 64) (show 0 ≤ W by omega) hW.2 (show 0 ≤ H by omega) hH.2
      rw [if_pos (decide_eq_true hW), if_pos (decide_eq_true hH), w64 (by omega) (by omega)]
      exact dec_dd (by unfold Sz; omega)
    · rw [if_pos (decide_eq_true hW), if_neg (by rw [decide_eq_true_iff]; exact hH)]; exact dec_ff (fun h => hH ⟨h.2.2.1, h.2.2.2.1⟩)
  · rw [if_neg (by rw [decide_eq_true_iff]; exact hW)]; exact dec_ff (fun h => hW ⟨h.1, h.2.1⟩)
theorem up_l (m : Int) (d : Nat) : ∀ (k : Nat) (l : List Int) (i : Int), 0 ≤ i → l.length ≤ 1048576 → i ≤ l.length → (l.length : Int) - i = d → d < k → spec_l1Up.l0 k m l l.length i = some (decide (All m (l.drop i.toNat))) := by
  induction d with
  | zero =>
    intro k l i h0 hl h1 hd hk
    obtain ⟨k, rfl⟩ : ∃ m, k = m + 1 := ⟨k - 1, by omega⟩
    rw [spec_l1Up.l0, if_neg (by omega), List.drop_eq_nil_of_le (by omega)]
    rw [decide_eq_true (show All m [] from fun v h => by simp at h)]
  | succ d ih =>
    intro k l i h0 hl h1 hd hk
    obtain ⟨k, rfl⟩ : ∃ m, k = m + 1 := ⟨k - 1, by omega⟩
    rw [spec_l1Up.l0, if_pos (by omega), if_pos h0, if_pos (by omega), l1In, rd_at, Option.bind_some, drop_at l h0 (by omega), w64 (by omega) (by omega)]
    by_cases h : 0 ≤ at_ l i ∧ at_ l i ≤ m
    · rw [if_pos (decide_eq_true h), ih k l (i + 1) (by omega) hl (by omega) (by omega) (by omega)]
      exact dec_dd (by rw [All.cons]; exact ⟨fun x => ⟨h, x⟩, fun x => x.2⟩)
    · rw [if_neg (by rw [decide_eq_true_iff]; exact h)]; exact dec_ff (fun x => h (All.cons.mp x).1)
theorem up_s {W H : Int} {l : List Int} (hl : l.length ≤ 1048576) (m : Int) {k : Nat} (hk : 1100000 ≤ k) : spec_l1Up.f k W H l m = some (decide (Up W H l m)) := by
  obtain ⟨k, rfl⟩ : ∃ m, k = m + 1 := ⟨k - 1, by omega⟩
  unfold spec_l1Up.f
  rw [size_s, Option.bind_some]
  by_cases h : Sz W H
  · have := h.area
    rw [if_pos (decide_eq_true h), w64 (by omega) (by omega), spec_l1Up.j0]
    by_cases e : (l.length : Int) = W * H
    · rw [if_neg (by rw [bne_iff_ne]; exact fun x => x e), up_l m l.length k l 0 (by omega) hl (by omega) (by omega) (by omega)]
      exact dec_dd ⟨fun x => ⟨h, e, x⟩, fun x => x.2.2⟩
    · rw [if_pos (by rw [bne_iff_ne]; exact e)]; exact dec_ff (fun x => e x.2.1)
  · rw [if_neg (by rw [decide_eq_true_iff]; exact h), spec_l1Up.j0, if_pos rfl]; exact dec_ff (fun x => h x.1)
theorem plate_s {W H : Int} {l : List Int} (hl : l.length ≤ 1048576) {k : Nat} (hk : 1100000 ≤ k) : spec_IsPlate.f k W H l = some (decide (Up W H l 1)) := by
  unfold spec_IsPlate.f; rw [up_s hl 1 hk]; rfl
theorem sapp (a : List Int) (c : Int) (b : UInt8) (h : UInt8.ofNat c.toNat = b) : strOfNums a ++ (⟨#[b]⟩ : ByteArray) = strOfNums (a ++ [c]) := by
  apply ByteArray.ext
  subst h
  rw [ByteArray.data_append]; simp [strOfNums]
def dotL (W : Int) : List Int → Int → List Int
  | [], _ => []
  | v :: r, j => (if v = 1 then 35 else 46) :: (if j % W = W - 1 then 10 :: dotL W r (j + 1) else dotL W r (j + 1))
def dotT (W H : Int) (l : List Int) : ByteArray := if Up W H l 1 then strOfNums (dotL W l 0) else ⟨#[]⟩
theorem dotl_s {W H : Int} {L : List Int} (hL : L.length ≤ 1048576) (hW : 1 ≤ W) (hW2 : W ≤ 64) (d : Nat) : ∀ (k : Nat) (a : List Int) (j : Int), 0 ≤ j → j ≤ L.length → (L.length : Int) - j = d → a.length ≤ 2 * j → d < k →
    spec_DotText.l0 k (strOfNums a) L L.length j W H L = some (strOfNums (a ++ dotL W (L.drop j.toNat) j)) := by
  induction d with
  | zero =>
    intro k a j j0 j1 hd ha hk
    obtain ⟨k, rfl⟩ : ∃ m, k = m + 1 := ⟨k - 1, by omega⟩
    rw [spec_DotText.l0, if_neg (by omega), drop_end L (by omega), dotL, List.append_nil]
  | succ d ih =>
    intro k a j j0 j1 hd ha hk
    obtain ⟨k, rfl⟩ : ∃ m, k = m + 1 := ⟨k - 1, by omega⟩
    have s1 : ∀ c : Int, (strOfNums (a ++ [c])).size + 1 ≤ 9223372036854775807 := fun c => by rw [strOfNums_size]; simp; omega
    have z : ∀ c : Int, ((a ++ [c]).length : Int) ≤ 2 * (j + 1) := fun c => by simp; omega
    have z2 : ∀ c e : Int, (((a ++ [c]) ++ [e]).length : Int) ≤ 2 * (j + 1) := fun c e => by simp; omega
    have s0 : (strOfNums a).size + 1 ≤ 9223372036854775807 := by rw [strOfNums_size]; omega
    rw [spec_DotText.l0, if_pos (by omega), if_pos j0, if_pos (by omega), drop_at L j0 (by omega), w64 (x := j + 1) (by omega) (by omega), w64 (x := W - 1) (by omega) (by omega), rd_at, tmod_pos j0, dotL, sapp a 35 35 rfl, sapp a 46 46 rfl, sapp _ 10 10 rfl, sapp _ 10 10 rfl]
    by_cases e : at_ L j = 1
    · rw [if_pos e, if_pos e, if_pos s0, if_neg (by omega), if_pos (s1 35), ih k _ (j + 1) (by omega) (by omega) (by omega) (z2 35 10) (by omega), ih k _ (j + 1) (by omega) (by omega) (by omega) (z 35) (by omega)]
      split <;> simp
    · rw [if_neg e, if_neg e, if_pos s0, if_neg (by omega), if_pos (s1 46), ih k _ (j + 1) (by omega) (by omega) (by omega) (z2 46 10) (by omega), ih k _ (j + 1) (by omega) (by omega) (by omega) (z 46) (by omega)]
      split <;> simp
theorem dots_s {W H : Int} {l : List Int} (hl : l.length ≤ 1048576) {k : Nat} (hk : 1100000 ≤ k) : spec_DotText.f k W H l = some (dotT W H l) := by
  unfold spec_DotText.f dotT
  rw [plate_s hl hk, Option.bind_some]
  by_cases h : Up W H l 1
  · rw [if_pos (decide_eq_true h), if_pos h]
    exact dotl_s hl h.1.1 h.1.2.1 l.length k [] 0 (by omega) (by omega) (by omega) (by simp) (by omega)
  · rw [if_neg (by rw [decide_eq_true_iff]; exact h), if_neg h]
theorem tos_l (d : Nat) : ∀ (k : Nat) (l o : List Int) (i : Int), 0 ≤ i → i ≤ l.length → o.length = l.length → l.length ≤ 1048576 → (l.length : Int) - i = d → d < k → laws_toIntS.l0 k l o i = some (o.take i.toNat ++ l.drop i.toNat) := by
  induction d with
  | zero =>
    intro k l o i h0 h1 ho hl hd hk
    obtain ⟨k, rfl⟩ : ∃ m, k = m + 1 := ⟨k - 1, by omega⟩
    rw [laws_toIntS.l0, if_neg (by omega), List.drop_eq_nil_of_le (by omega), List.append_nil, List.take_of_length_le (by omega)]
  | succ d ih =>
    intro k l o i h0 h1 ho hl hd hk
    obtain ⟨k, rfl⟩ : ∃ m, k = m + 1 := ⟨k - 1, by omega⟩
    rw [laws_toIntS.l0, if_pos (by omega), if_pos h0, if_pos (by omega), w64 (by omega) (by omega), rd_at, ih k l _ (i + 1) (by omega) (by omega) (by rw [List.length_set]; exact ho) hl (by omega) (by omega), drop_at l h0 (by omega)]
    rw [show (i + 1).toNat = i.toNat + 1 by omega, List.take_succ_eq_append_getElem (by rw [List.length_set]; omega), List.getElem_set, if_pos rfl, List.take_set_of_le (Nat.le_refl _)]
    simp only [List.append_assoc, List.cons_append, List.nil_append]
theorem tos {l : List Int} (hl : l.length ≤ 1048576) {k : Nat} (hk : 1100000 ≤ k) : laws_toIntS.f k l = some l := by
  unfold laws_toIntS.f
  rw [if_pos (by omega), if_pos (by omega), tos_l l.length k l _ 0 (by omega) (by omega) (by simp) hl (by omega) (by omega)]; rfl
theorem top (a b : Int) {l : List Int} (hl : l.length ≤ 1048576) {k : Nat} (hk : 1100000 ≤ k) : laws_toPicture.f k a b l = some (a, b, l) := by
  unfold laws_toPicture.f; rw [tos hl hk]; rfl
theorem within_i {l : List Int} (hl : l.length ≤ 1048576) (m : Int) : impl_within.f l m = some (decide (All m l)) := by
  unfold impl_within.f
  rw [if_pos (by omega)]; simp only [Option.some.injEq]
  rw [Bool.eq_iff_iff, List.all_eq_true, decide_eq_true_iff]
  exact ⟨fun h v hv => of_decide_eq_true (h v hv), fun h v hv => decide_eq_true (h v hv)⟩
theorem size_i (W H : Int) : impl_sized.f W H = some (decide (Sz W H)) := by
  unfold impl_sized.f
  by_cases h : 1 ≤ W ∧ W ≤ 64 ∧ 1 ≤ H ∧ H ≤ 64
  · have := mul_bd (c := 64) (d := 64) (show 0 ≤ W by omega) h.2.1 (show 0 ≤ H by omega) h.2.2.2
    rw [if_pos (by omega), if_pos (by omega), if_pos (by omega), if_pos (by omega), w64 (by omega) (by omega)]
    exact dec_dd (by unfold Sz; omega)
  · repeat' split
    all_goals first | exact dec_ff (by unfold Sz; omega) | (exfalso; omega)
theorem pict_i {W H : Int} {l : List Int} (hl : l.length ≤ 1048576) : impl_IsPicture.f W H l = some (decide (Up W H l 255)) := by
  unfold impl_IsPicture.f
  rw [size_i, Option.bind_some]
  by_cases h : Sz W H
  · have := h.area
    rw [if_pos (decide_eq_true h), w64 (by omega) (by omega), within_i hl]
    by_cases e : (l.length : Int) = W * H
    · rw [if_pos e]; exact dec_dd ⟨fun x => ⟨h, e, x⟩, fun x => x.2.2⟩
    · rw [if_neg e]; exact dec_ff (fun x => e x.2.1)
  · rw [if_neg (by rw [decide_eq_true_iff]; exact h)]; exact dec_ff (fun x => h x.1)
theorem plate_i {W H : Int} {l : List Int} (hl : l.length ≤ 1048576) : impl_IsPlate.f W H l = some (decide (Up W H l 1)) := by
  unfold impl_IsPlate.f
  rw [pict_i hl, Option.bind_some, within_i hl]
  by_cases h : Up W H l 255
  · rw [if_pos (decide_eq_true h)]; exact dec_dd ⟨fun x => ⟨h.1, h.2.1, x⟩, fun x => x.2.2⟩
  · rw [if_neg (by rw [decide_eq_true_iff]; exact h)]; exact dec_ff (fun x => h ⟨x.1, x.2.1, fun v hv => ⟨(x.2.2 v hv).1, by have := (x.2.2 v hv).2; omega⟩⟩)
theorem dot_b {v : Int} (h : In 1 v) : bt (⟨#[46, 35]⟩ : ByteArray) v = if v = 1 then 35 else 46 := by
  unfold In at h
  by_cases e : v = 1
  · subst e; rfl
  · have : v = 0 := by omega
    subst this; rfl
theorem dotl_i {W H : Int} {L : List Int} (hL : L.length ≤ 1048576) (hA : All 1 L) (hW : 1 ≤ W) (hW2 : W ≤ 64) (d : Nat) : ∀ (k : Nat) (a : List Int) (j : Int), 0 ≤ j → j ≤ L.length → (L.length : Int) - j = d → a.length ≤ 2 * j → d < k →
    impl_DotText.l0 k a L L.length j W H L = some (strOfNums (a ++ dotL W (L.drop j.toNat) j)) := by
  induction d with
  | zero =>
    intro k a j j0 j1 hd ha hk
    obtain ⟨k, rfl⟩ : ∃ m, k = m + 1 := ⟨k - 1, by omega⟩
    rw [impl_DotText.l0, if_neg (by omega), drop_end L (by omega), dotL, List.append_nil]
  | succ d ih =>
    intro k a j j0 j1 hd ha hk
    obtain ⟨k, rfl⟩ : ∃ m, k = m + 1 := ⟨k - 1, by omega⟩
    have hm : 0 ≤ at_ L j ∧ at_ L j ≤ 1 := hA _ (at_mem j0 (by omega))
    have z : ∀ c : Int, ((a ++ [c]).length : Int) ≤ 2 * (j + 1) := fun c => by simp; omega
    have z2 : ∀ c e : Int, (((a ++ [c]) ++ [e]).length : Int) ≤ 2 * (j + 1) := fun c e => by simp; omega
    rw [impl_DotText.l0, if_pos (by omega), if_pos j0, if_pos (by omega), drop_at L j0 (by omega), w64 (x := j + 1) (by omega) (by omega), w64 (x := W - 1) (by omega) (by omega), rd_at, if_pos hm.1, if_pos (by omega), if_pos (by omega), dot_b hm, Option.bind_some, if_neg (by omega), tmod_pos j0, dotL]
    generalize (if at_ L j = 1 then (35 : Int) else 46) = c
    by_cases e : j % W = W - 1
    · rw [if_pos e, if_pos e, if_pos (by simp; omega), ih k _ (j + 1) (by omega) (by omega) (by omega) (z2 _ 10) (by omega)]; simp
    · rw [if_neg e, if_neg e, ih k _ (j + 1) (by omega) (by omega) (by omega) (z _) (by omega)]; simp
theorem dots_i {W H : Int} {l : List Int} (hl : l.length ≤ 1048576) {k : Nat} (hk : 1100000 ≤ k) : impl_DotText.f k W H l = some (dotT W H l) := by
  unfold impl_DotText.f dotT
  rw [plate_i hl, Option.bind_some]
  by_cases h : Up W H l 1
  · rw [if_pos (decide_eq_true h), if_pos h]
    exact dotl_i hl h.2.2 h.1.1 h.1.2.1 l.length k [] 0 (by omega) (by omega) (by omega) (by simp) (by omega)
  · rw [if_neg (by rw [decide_eq_true_iff]; exact h), if_neg h]
theorem pure_FnExactDotText (W H : Int) (l : List Int) (hl : l.length ≤ 140737488351232) : ∃ k, laws_FnExactDotText.f k W H l = some true := by
  refine ⟨2000000, ?_⟩
  unfold laws_FnExactDotText.f
  rw [sz_p W H l 1048576 (by omega) (by omega) hl, Option.bind_some]
  by_cases h : (l.length : Int) ≤ 1048576
  · rw [if_pos h, if_neg (by omega)]
    have hl' : l.length ≤ 1048576 := by omega
    simp only [top W H hl' (show 1100000 ≤ 2000000 by omega), Option.bind_some, dots_s hl' (show 1100000 ≤ 2000000 by omega), dots_i hl' (show 1100000 ≤ 2000000 by omega), eqp W H hl' (show 1100000 ≤ 2000000 by omega), if_true]
  · rw [if_neg h]; rfl
end Go.Proofs.Ytjonhedjfablbaa.PFnExactDotText
