/- What the functions that laws.FnExactToneOf reaches compute, and that the law is true: over numbers alone. -/
import Derived.Test.YtmahpennnnajcaaPFnExactToneOfx
import Derived.Test.YtmahpennnnajcaaPic2
import Derived.Laws.Strings
namespace Go.Proofs.Ytmahpennnnajcaa.PFnExactToneOf
open Go.RowKit Go.Proofs.YtmahpennnnajcaaW.PrintWords Go.Proofs.YtmahpennnnajcaaW.PrintLast Go.Proofs.YtmahpennnnajcaaW.PrintMore
set_option linter.unusedVariables false
set_option linter.unusedSimpArgs false
set_option linter.unusedSimpArgs false
open Pic
theorem w64 {x : Int} (h1 : -9223372036854775808 ≤ x) (h2 : x ≤ 9223372036854775807) : wrap64 x = x := by unfold wrap64; omega
theorem rd_at (l : List Int) (i : Int) : rd l i = at_ l i := rfl
theorem tmod_pos {n x : Int} (h : 0 ≤ x) : Int.tmod x n = x % n := Int.tmod_eq_emod_of_nonneg h
theorem tdiv_pos {n x : Int} (h : 0 ≤ x) : Int.tdiv x n = x / n := Int.tdiv_eq_ediv_of_nonneg h
theorem dec_ff {p : Prop} [Decidable p] (h : ¬ p) : some false = some (decide p) := by rw [decide_eq_false h]
theorem dec_dd {p q : Prop} [Decidable p] [Decidable q] (h : p ↔ q) : some (decide p) = some (decide q) := by rw [decide_eq_decide.mpr h]
theorem mn_eq (a b : Int) : mn a b = if b < a then b else a := rfl
theorem up_wide {W H : Int} {l : List Int} (h : Up W H l 1) : Up W H l 255 := ⟨h.1, h.2.1, fun v hv => ⟨(h.2.2 v hv).1, by have := (h.2.2 v hv).2; omega⟩⟩
theorem mk_neg (n : Nat) : ¬ ((1 : Int) + n < 0) := by omega
theorem sz_s (l : List Int) (m : Int) (hm : 0 ≤ m) (hm2 : m ≤ 1048576) (hl : l.length ≤ 140737488351232) : laws_szIntS.f l m = some (if (l.length : Int) ≤ m then m - l.length else -1) := by
  unfold laws_szIntS.f
  rw [w64 (by omega) (by omega)]
  by_cases h : (l.length : Int) ≤ m
  · rw [if_neg (by omega), if_pos h]
  · rw [if_pos (by omega), if_neg h]
theorem sz_p (a b : Int) (l : List Int) (m : Int) (hm : 0 ≤ m) (hm2 : m ≤ 1048576) (hl : l.length ≤ 140737488351232) : laws_szPicture.f a b l m = some (if (l.length : Int) ≤ m then m - l.length else -1) := by
  unfold laws_szPicture.f
  rw [sz_s l m hm hm2 hl, Option.bind_some]
  by_cases h : (l.length : Int) ≤ m
  · rw [if_pos h, if_neg (by omega)]
  · rw [if_neg h, if_pos (by omega)]
theorem l1In (x a b : Int) : spec_l1In.f x a b = some (decide (a ≤ x ∧ x ≤ b)) := by
  unfold spec_l1In.f
  split
  all_goals first | exact dec_dd (by omega) | exact dec_ff (by omega)
theorem size_s (W H : Int) : spec_l1Size.f W H = some (decide (Sz W H)) := by
  unfold spec_l1Size.f
  simp only [l1In, Option.bind_some]
  by_cases hW : 1 ≤ W ∧ W ≤ 64
  · by_cases hH : 1 ≤ H ∧ H ≤ 64
    · have := mul_bd (c := 64) (d := 64) (show 0 ≤ W by omega) hW.2 (show 0 ≤ H by omega) hH.2
      rw [if_pos (decide_eq_true hW), if_pos (decide_eq_true hH), w64 (by omega) (by omega)]
      exact dec_dd (by unfold Sz; omega)
    · rw [if_pos (decide_eq_true hW), if_neg (by rw [decide_eq_true_iff]; exact hH)]; exact dec_ff (fun h => hH ⟨h.2.2.1, h.2.2.2.1⟩)
  · rw [if_neg (by rw [decide_eq_true_iff]; exact hW)]; exact dec_ff (fun h => hW ⟨h.1, h.2.1⟩)
theorem up_l (m : Int) (d : Nat) : ∀ (k : Nat) (l : List Int) (i : Int), 0 ≤ i → l.length ≤ 1048576 → i ≤ l.length → (l.length : Int) - i = d → d < k → spec_l1Up.l0 k m l l.length i = some (decide (All m (l.drop i.toNat))) := by
  induction d with
  | zero =>
    intro k l i h0 hl h1 hd hk
    obtain ⟨k, rfl⟩ : ∃ m, k = m + 1 := ⟨k - 1, by omega⟩
    rw [spec_l1Up.l0, if_neg (by omega), List.drop_eq_nil_of_le (by omega)]
    rw [decide_eq_true (show All m [] from fun v h => by simp at h)]
  | succ d ih =>
    intro k l i h0 hl h1 hd hk
    obtain ⟨k, rfl⟩ : ∃ m, k = m + 1 := ⟨k - 1, by omega⟩
    rw [spec_l1Up.l0, if_pos (by omega), if_pos h0, if_pos (by omega), l1In, rd_at, Option.bind_some, drop_at l h0 (by omega), w64 (by omega) (by omega)]
    by_cases h : 0 ≤ at_ l i ∧ at_ l i ≤ m
    · rw [if_pos (decide_eq_true h), ih k l (i + 1) (by omega) hl (by omega) (by omega) (by omega)]
      exact dec_dd (by rw [All.cons]; exact ⟨fun x => ⟨h, x⟩, fun x => x.2⟩)
    · rw [if_neg (by rw [decide_eq_true_iff]; exact h)]; exact dec_ff (fun x => h (All.cons.mp x).1)
theorem up_s {W H : Int} {l : List Int} (hl : l.length ≤ 1048576) (m : Int) {k : Nat} (hk : 1100000 ≤ k) : spec_l1Up.f k W H l m = some (decide (Up W H l m)) := by
  obtain ⟨k, rfl⟩ : ∃ m, k = m + 1 := ⟨k - 1, by omega⟩
  unfold spec_l1Up.f
  rw [size_s, Option.bind_some]
  by_cases h : Sz W H
  · have := h.area
    rw [if_pos (decide_eq_true h), w64 (by omega) (by omega), spec_l1Up.j0]
    by_cases e : (l.length : Int) = W * H
    · rw [if_neg (by rw [bne_iff_ne]; exact fun x => x e), up_l m l.length k l 0 (by omega) hl (by omega) (by omega) (by omega)]
      exact dec_dd ⟨fun x => ⟨h, e, x⟩, fun x => x.2.2⟩
    · rw [if_pos (by rw [bne_iff_ne]; exact e)]; exact dec_ff (fun x => e x.2.1)
  · rw [if_neg (by rw [decide_eq_true_iff]; exact h), spec_l1Up.j0, if_pos rfl]; exact dec_ff (fun x => h x.1)
theorem plate_s {W H : Int} {l : List Int} (hl : l.length ≤ 1048576) {k : Nat} (hk : 1100000 ≤ k) : spec_IsPlate.f k W H l = some (decide (Up W H l 1)) := by
  unfold spec_IsPlate.f; rw [up_s hl 1 hk]; rfl
theorem pict_s {W H : Int} {l : List Int} (hl : l.length ≤ 1048576) {k : Nat} (hk : 1100000 ≤ k) : spec_IsPicture.f k W H l = some (decide (Up W H l 255)) := by
  unfold spec_IsPicture.f; rw [up_s hl 255 hk]; rfl
theorem suml_s {l : List Int} (hl : l.length ≤ 1048576) (hA : All 1 l) (d : Nat) : ∀ (k : Nat) (s j : Int), 0 ≤ j → j ≤ l.length → 0 ≤ s → s ≤ j → (l.length : Int) - j = d → d < k → spec_SumInk.l0 k s l l.length j = some (s + cnt 1 (l.drop j.toNat)) := by
  induction d with
  | zero =>
    intro k s j j0 j1 s0 s1 hd hk
    obtain ⟨k, rfl⟩ : ∃ m, k = m + 1 := ⟨k - 1, by omega⟩
    rw [spec_SumInk.l0, if_neg (by omega), drop_end l (by omega)]; simp [cnt]
  | succ d ih =>
    intro k s j j0 j1 s0 s1 hd hk
    obtain ⟨k, rfl⟩ : ∃ m, k = m + 1 := ⟨k - 1, by omega⟩
    have ha : 0 ≤ at_ l j ∧ at_ l j ≤ 1 := hA _ (at_mem j0 (by omega))
    rw [spec_SumInk.l0, if_pos (by omega), if_pos j0, if_pos (by omega), drop_at l j0 (by omega), rd_at, w64 (x := s + _) (by omega) (by omega), w64 (x := j + 1) (by omega) (by omega), ih k _ (j + 1) (by omega) (by omega) (by omega) (by omega) (by omega) (by omega), cnt]
    split <;> (simp only [Option.some.injEq]; omega)
theorem sum_s {W H : Int} {l : List Int} (h : Up W H l 1) {k : Nat} (hk : 1100000 ≤ k) : spec_SumInk.f k W H l = some ((cnt 1 l : Nat) : Int) := by
  have := h.1.area; have := h.2.1
  unfold spec_SumInk.f
  rw [pict_s (by omega) hk, Option.bind_some, if_pos (decide_eq_true ⟨h.1, h.2.1, fun v hv => ⟨(h.2.2 v hv).1, by have := (h.2.2 v hv).2; omega⟩⟩), suml_s (by omega) h.2.2 l.length k 0 0 (by omega) (by omega) (by omega) (by omega) (by omega) (by omega), Int.zero_add]; rfl
-- nothing on spec_ToneOf
theorem tos_l (d : Nat) : ∀ (k : Nat) (l o : List Int) (i : Int), 0 ≤ i → i ≤ l.length → o.length = l.length → l.length ≤ 1048576 → (l.length : Int) - i = d → d < k → laws_toIntS.l0 k l o i = some (o.take i.toNat ++ l.drop i.toNat) := by
  induction d with
  | zero =>
    intro k l o i h0 h1 ho hl hd hk
    obtain ⟨k, rfl⟩ : ∃ m, k = m + 1 := ⟨k - 1, by omega⟩
    rw [laws_toIntS.l0, if_neg (by omega), List.drop_eq_nil_of_le (by omega), List.append_nil, List.take_of_length_le (by omega)]
  | succ d ih =>
    intro k l o i h0 h1 ho hl hd hk
    obtain ⟨k, rfl⟩ : ∃ m, k = m + 1 := ⟨k - 1, by omega⟩
    rw [laws_toIntS.l0, if_pos (by omega), if_pos h0, if_pos (by omega), w64 (by omega) (by omega), rd_at, ih k l _ (i + 1) (by omega) (by omega) (by rw [List.length_set]; exact ho) hl (by omega) (by omega), drop_at l h0 (by omega)]
    rw [show (i + 1).toNat = i.toNat + 1 by omega, List.take_succ_eq_append_getElem (by rw [List.length_set]; omega), List.getElem_set, if_pos rfl, List.take_set_of_le (Nat.le_refl _)]
    simp only [List.append_assoc, List.cons_append, List.nil_append]
theorem tos {l : List Int} (hl : l.length ≤ 1048576) {k : Nat} (hk : 1100000 ≤ k) : laws_toIntS.f k l = some l := by
  unfold laws_toIntS.f
  rw [if_pos (by omega), if_pos (by omega), tos_l l.length k l _ 0 (by omega) (by omega) (by simp) hl (by omega) (by omega)]; rfl
theorem top (a b : Int) {l : List Int} (hl : l.length ≤ 1048576) {k : Nat} (hk : 1100000 ≤ k) : laws_toPicture.f k a b l = some (a, b, l) := by
  unfold laws_toPicture.f; rw [tos hl hk]; rfl
theorem within_i {l : List Int} (hl : l.length ≤ 1048576) (m : Int) : impl_within.f l m = some (decide (All m l)) := by
  unfold impl_within.f
  rw [if_pos (by omega)]; simp only [Option.some.injEq]
  rw [Bool.eq_iff_iff, List.all_eq_true, decide_eq_true_iff]
  exact ⟨fun h v hv => of_decide_eq_true (h v hv), fun h v hv => decide_eq_true (h v hv)⟩
theorem size_i (W H : Int) : impl_sized.f W H = some (decide (Sz W H)) := by
  unfold impl_sized.f
  by_cases h : 1 ≤ W ∧ W ≤ 64 ∧ 1 ≤ H ∧ H ≤ 64
  · have := mul_bd (c := 64) (d := 64) (show 0 ≤ W by omega) h.2.1 (show 0 ≤ H by omega) h.2.2.2
    rw [if_pos (by omega), if_pos (by omega), if_pos (by omega), if_pos (by omega), w64 (by omega) (by omega)]
    exact dec_dd (by unfold Sz; omega)
  · repeat' split
    all_goals first | exact dec_ff (by unfold Sz; omega) | (exfalso; omega)
theorem pict_i {W H : Int} {l : List Int} (hl : l.length ≤ 1048576) : impl_IsPicture.f W H l = some (decide (Up W H l 255)) := by
  unfold impl_IsPicture.f
  rw [size_i, Option.bind_some]
  by_cases h : Sz W H
  · have := h.area
    rw [if_pos (decide_eq_true h), w64 (by omega) (by omega), within_i hl]
    by_cases e : (l.length : Int) = W * H
    · rw [if_pos e]; exact dec_dd ⟨fun x => ⟨h, e, x⟩, fun x => x.2.2⟩
    · rw [if_neg e]; exact dec_ff (fun x => e x.2.1)
  · rw [if_neg (by rw [decide_eq_true_iff]; exact h)]; exact dec_ff (fun x => h x.1)
theorem plate_i {W H : Int} {l : List Int} (hl : l.length ≤ 1048576) : impl_IsPlate.f W H l = some (decide (Up W H l 1)) := by
  unfold impl_IsPlate.f
  rw [pict_i hl, Option.bind_some, within_i hl]
  by_cases h : Up W H l 255
  · rw [if_pos (decide_eq_true h)]; exact dec_dd ⟨fun x => ⟨h.1, h.2.1, x⟩, fun x => x.2.2⟩
  · rw [if_neg (by rw [decide_eq_true_iff]; exact h)]; exact dec_ff (fun x => h ⟨x.1, x.2.1, fun v hv => ⟨(x.2.2 v hv).1, by have := (x.2.2 v hv).2; omega⟩⟩)
theorem suml_i {l : List Int} (hl : l.length ≤ 1048576) (hA : All 1 l) (d : Nat) : ∀ (k : Nat) (s j : Int), 0 ≤ j → j ≤ l.length → 0 ≤ s → s ≤ j → (l.length : Int) - j = d → d < k → impl_SumInk.l0 k s l l.length j = some (s + cnt 1 (l.drop j.toNat)) := by
  induction d with
  | zero =>
    intro k s j j0 j1 s0 s1 hd hk
    obtain ⟨k, rfl⟩ : ∃ m, k = m + 1 := ⟨k - 1, by omega⟩
    rw [impl_SumInk.l0, if_neg (by omega), drop_end l (by omega)]; simp [cnt]
  | succ d ih =>
    intro k s j j0 j1 s0 s1 hd hk
    obtain ⟨k, rfl⟩ : ∃ m, k = m + 1 := ⟨k - 1, by omega⟩
    have ha : 0 ≤ at_ l j ∧ at_ l j ≤ 1 := hA _ (at_mem j0 (by omega))
    rw [impl_SumInk.l0, if_pos (by omega), if_pos j0, if_pos (by omega), drop_at l j0 (by omega), rd_at, w64 (x := s + _) (by omega) (by omega), w64 (x := j + 1) (by omega) (by omega), ih k _ (j + 1) (by omega) (by omega) (by omega) (by omega) (by omega) (by omega), cnt]
    split <;> (simp only [Option.some.injEq]; omega)
theorem sum_i {W H : Int} {l : List Int} (h : Up W H l 1) {k : Nat} (hk : 1100000 ≤ k) : impl_SumInk.f k W H l = some ((cnt 1 l : Nat) : Int) := by
  have := h.1.area; have := h.2.1
  unfold impl_SumInk.f
  rw [pict_i (by omega), Option.bind_some, if_pos (decide_eq_true ⟨h.1, h.2.1, fun v hv => ⟨(h.2.2 v hv).1, by have := (h.2.2 v hv).2; omega⟩⟩), suml_i (by omega) h.2.2 l.length k 0 0 (by omega) (by omega) (by omega) (by omega) (by omega) (by omega), Int.zero_add]; rfl
-- nothing on impl_ToneOf
-- nothing on laws_sameFloat
theorem eqs_l (d : Nat) : ∀ (k : Nat) (l : List Int) (i : Int), 0 ≤ i → l.length ≤ 1048576 → l.length - i.toNat ≤ d → d < k → laws_eqIntS.l0 k l l i = some true := by
  induction d with
  | zero =>
    intro k l i h0 hl hd hk
    obtain ⟨k, rfl⟩ : ∃ m, k = m + 1 := ⟨k - 1, by omega⟩
    rw [laws_eqIntS.l0, if_neg (by omega)]
  | succ d ih =>
    intro k l i h0 hl hd hk
    obtain ⟨k, rfl⟩ : ∃ m, k = m + 1 := ⟨k - 1, by omega⟩
    rw [laws_eqIntS.l0]
    by_cases h : i < (l.length : Int)
    · rw [if_pos h, if_pos h0, if_pos h, if_pos rfl, w64 (by omega) (by omega)]; exact ih k l (i + 1) (by omega) hl (by omega) (by omega)
    · rw [if_neg h]
theorem eqs {l : List Int} (hl : l.length ≤ 1048576) {k : Nat} (hk : 1100000 ≤ k) : laws_eqIntS.f k l l = some true := by
  unfold laws_eqIntS.f; rw [if_pos rfl, eqs_l l.length k l 0 (by omega) hl (by omega) (by omega)]
theorem eqp (a b : Int) {l : List Int} (hl : l.length ≤ 1048576) {k : Nat} (hk : 1100000 ≤ k) : laws_eqPicture.f k a b l a b l = some true := by
  unfold laws_eqPicture.f; rw [if_pos rfl, if_pos rfl, eqs hl hk]; rfl
theorem flog2 {m k : Nat} (h0 : 2 ^ k ≤ m) (h1 : m < 2 ^ (k + 1)) : m.log2 = k := by
  have hm : m ≠ 0 := by have := Nat.two_pow_pos k; omega
  have a := (Nat.le_log2 hm).mpr h0
  have b := (Nat.log2_lt hm).mpr h1
  omega
/-- a word of 32 bits of a number that is not too small and not too great -/
theorem read32 {r : Nat} (h0 : 8388608 ≤ r) (h1 : r < 2139095040) : FloatKind.f32.format.read r = .number false (8388608 + r % 8388608) (-149 + (r / 8388608 - 1 : Nat)) := by
  have e1 : Ieee.single.signWeight = 2147483648 := by decide
  have e2 : Ieee.single.binade = 8388608 := by decide
  have e3 : Ieee.single.infRung = 2139095040 := by decide
  have e4 : Ieee.single.leastPlace = -149 := by decide
  show Ieee.Format.read Ieee.single r = _
  unfold Ieee.Format.read
  rw [e1, e2, e3, e4, Nat.mod_eq_of_lt (show r < 2147483648 by omega), if_neg (show ¬ r < 8388608 by omega), if_pos h1, Nat.div_eq_of_lt (show r < 2147483648 by omega)]; rfl
theorem read64 {r : Nat} (h0 : 4503599627370496 ≤ r) (h1 : r < 9218868437227405312) : FloatKind.f64.format.read r = .number false (4503599627370496 + r % 4503599627370496) (-1074 + (r / 4503599627370496 - 1 : Nat)) := by
  have e1 : Ieee.double.signWeight = 9223372036854775808 := by decide
  have e2 : Ieee.double.binade = 4503599627370496 := by decide
  have e3 : Ieee.double.infRung = 9218868437227405312 := by decide
  have e4 : Ieee.double.leastPlace = -1074 := by decide
  show Ieee.Format.read Ieee.double r = _
  unfold Ieee.Format.read
  rw [e1, e2, e3, e4, Nat.mod_eq_of_lt (show r < 9223372036854775808 by omega), if_neg (show ¬ r < 4503599627370496 by omega), if_pos h1, Nat.div_eq_of_lt (show r < 9223372036854775808 by omega)]; rfl
def chk32 (n : Nat) : Bool := match FloatKind.f32.format.read (floatOfInt .f32 (n : Int)) with
  | .number false m p => decide (8388608 ≤ m ∧ m < 16777216 ∧ -23 ≤ p ∧ p ≤ -13)
  | _ => false
def chkL : Nat → Bool
  | 0 => true
  | n + 1 => chk32 (n + 1) && chkL n
theorem chkL_all : chkL 1024 = true := by kernel_rfl
theorem chkL_at : ∀ (k n : Nat), chkL k = true → 0 < n → n ≤ k → chk32 n = true := by
  intro k
  induction k with
  | zero => intro n _ h0 h1; omega
  | succ k ih =>
    intro n h h0 h1
    rw [chkL, Bool.and_eq_true] at h
    by_cases e : n = k + 1
    · rw [e]; exact h.1
    · exact ih n h.2 h0 (by omega)
theorem chk_all : ∀ n : Nat, n < 1025 → n = 0 ∨ chk32 n = true := fun n h => by
  by_cases e : n = 0
  · exact .inl e
  · exact .inr (chkL_at 1024 n chkL_all (by omega) (by omega))
theorem read_int {n : Nat} (h0 : 0 < n) (h1 : n < 1025) : ∃ m p, FloatKind.f32.format.read (floatOfInt .f32 (n : Int)) = .number false m p ∧ 8388608 ≤ m ∧ m < 16777216 ∧ -23 ≤ p ∧ p ≤ -13 := by
  have h := (chk_all n h1).resolve_left (by omega)
  unfold chk32 at h
  split at h
  · rename_i m p e; exact ⟨m, p, e, of_decide_eq_true h⟩
  · exact absurd h (by simp)
theorem rung32 {A c : Nat} (hA : A ≤ 200) (h0 : 8388608 ≤ c) (h1 : c ≤ 16777216) : 8388608 ≤ min (A * 8388608 + c) 2139095040 ∧ min (A * 8388608 + c) 2139095040 < 2139095040 := by
  rw [Nat.min_eq_left (by omega)]; omega
/-- a quotient's word -/
theorem word32 {q : Nat} {p : Int} (h0 : 33554432 ≤ q) (h1 : q < 134217728) (p0 : -36 ≤ p) (p1 : p ≤ -16) : 8388608 ≤ Ieee.single.nearest false q p ∧ Ieee.single.nearest false q p < 2139095040 := by
  have e2 : Ieee.single.binade = 8388608 := by decide
  have e3 : Ieee.single.infRung = 2139095040 := by decide
  have e4 : Ieee.single.leastPlace = -149 := by decide
  have key : ∀ L : Nat, L = 25 ∨ L = 26 → q.log2 = L → 2 ^ L ≤ q → q < 2 ^ (L + 1) → 8388608 ≤ Ieee.single.nearest false q p ∧ Ieee.single.nearest false q p < 2139095040 := by
    intro L hL hl l0 l1
    unfold Ieee.Format.nearest
    rw [if_neg (by omega)]
    dsimp only
    rw [e2, e3, e4, hl]
    have hlast : max (p + (L : Nat) - ((Ieee.single.fractionBits : Nat) : Int)) (-149) = p + ((L - 23 : Nat) : Int) := by
      show max (p + (L : Int) - 23) (-149) = _; omega
    rw [hlast, show (p - (p + ((L - 23 : Nat) : Int))).toNat = 0 by omega, show (p + ((L - 23 : Nat) : Int) - p).toNat = L - 23 by omega, Nat.shiftLeft_zero]
    unfold Ieee.Format.word Ieee.Toward.cut
    simp only [Bool.false_eq_true, if_false]
    rw [hl, Nat.min_eq_left (show L - 23 ≤ L + 2 by omega)]
    generalize hb : (decide (1 <<< (L - 23) < 2 * (q % 1 <<< (L - 23))) || 1 <<< (L - 23) == 2 * (q % 1 <<< (L - 23)) && q / 1 <<< (L - 23) % 2 == 1) = b
    have hb1 : b.toNat ≤ 1 := by cases b <;> decide
    rcases hL with rfl | rfl
    · have : q / 1 <<< 2 = q / 4 := rfl
      rw [show 25 - 23 = 2 from rfl, this]
      have h3 : 8388608 ≤ q / 4 ∧ q / 4 < 16777216 := by have l1_ : q < 67108864 := l1; clear hb hb1 hlast hl l0 l1; omega
      exact rung32 (by clear l0 l1 h0 h1 h3 hb hb1; omega) (by clear l0 l1 h0 h1; omega) (by clear l0 l1 h0 h1; omega)
    · have : q / 1 <<< 3 = q / 8 := rfl
      rw [show 26 - 23 = 3 from rfl, this]
      have h3 : 8388608 ≤ q / 8 ∧ q / 8 < 16777216 := by clear hb hb1 hlast hl; omega
      exact rung32 (by clear l0 l1 h0 h1 h3 hb hb1; omega) (by clear l0 l1 h0 h1; omega) (by clear l0 l1 h0 h1; omega)
  by_cases c : q < 67108864
  · exact key 25 (.inl rfl) (flog2 h0 c) h0 c
  · exact key 26 (.inr rfl) (flog2 (by omega) h1) (by omega) h1
/-- the same number in 64 bits -/
theorem word64 {m : Nat} {p : Int} (h0 : 8388608 ≤ m) (h1 : m < 16777216) (p0 : -149 ≤ p) (p1 : p ≤ 110) : 4503599627370496 ≤ Ieee.double.nearest false m p ∧ Ieee.double.nearest false m p < 9218868437227405312 := by
  have e2 : Ieee.double.binade = 4503599627370496 := by decide
  have e3 : Ieee.double.infRung = 9218868437227405312 := by decide
  have e4 : Ieee.double.leastPlace = -1074 := by decide
  have hl : m.log2 = 23 := flog2 h0 h1
  unfold Ieee.Format.nearest
  rw [if_neg (by omega)]
  dsimp only
  rw [e2, e3, e4, hl]
  have hlast : max (p + (23 : Nat) - ((Ieee.double.fractionBits : Nat) : Int)) (-1074) = p - 29 := by
    show max (p + 23 - 52) (-1074) = _; omega
  rw [hlast, show (p - (p - 29)).toNat = 29 by omega, show (p - 29 - p).toNat = 0 by omega]
  unfold Ieee.Format.word Ieee.Toward.cut
  simp only [Bool.false_eq_true, if_false, Nat.zero_min, Nat.shiftLeft_zero, Nat.mod_one, Nat.div_one]
  rw [Nat.shiftLeft_eq]
  have : (decide (1 < 2 * 0) || 1 == 2 * 0 && m * 2 ^ 29 % 2 == 1).toNat = 0 := by simp
  rw [this]
  omega
theorem tone_pos {s n : Nat} (s0 : 0 < s) (s1 : s < 1025) (n0 : 0 < n) (n1 : n < 1025) : ∃ b : Nat, floatBits .quo .f32 (floatOfInt .f32 (s : Int)) (floatOfInt .f32 (n : Int)) = some b ∧ 8388608 ≤ b ∧ b < 2139095040 := by
  obtain ⟨m, p, e, m0, m1, p0, p1⟩ := read_int s0 s1
  obtain ⟨m', p', e', m0', m1', p0', p1'⟩ := read_int n0 n1
  unfold floatBits Ieee.Format.div
  simp only
  rw [e, e']
  have hl : m.log2 = 23 := flog2 m0 m1
  have hl' : m'.log2 = 23 := flog2 m0' m1'
  unfold Ieee.Datum.quotient
  dsimp only
  rw [if_neg (by omega), hl, hl', Option.map_some]
  refine ⟨_, rfl, ?_⟩
  have hd : m <<< (FloatKind.f32.format.fractionBits + 2 + 23 - 23) = m * 33554432 := by rw [Nat.shiftLeft_eq]; rfl
  rw [hd]
  have hq0 : 16777216 < m * 33554432 / m' := by rw [Nat.lt_div_iff_mul_lt (by omega)]; omega
  have hq1 : m * 33554432 / m' < 67108864 := by rw [Nat.div_lt_iff_lt_mul (by omega)]; omega
  generalize hs : (m * 33554432 % m' != 0) = b
  have hb : b.toNat ≤ 1 := by cases b <;> decide
  show 8388608 ≤ Ieee.single.nearest (false ^^ false) _ _ ∧ Ieee.single.nearest (false ^^ false) _ _ < 2139095040
  exact word32 (by omega) (by omega) (by show -36 ≤ p - p' - (25 : Nat) - 1; omega) (by show p - p' - (25 : Nat) - 1 ≤ -16; omega)
theorem good_pos {b : Nat} (h0 : 8388608 ≤ b) (h1 : b < 2139095040) : good32 (b : Int) := by
  have hr := read32 h0 h1
  have hw := word64 (m := 8388608 + b % 8388608) (p := -149 + ((b / 8388608 - 1 : Nat) : Int)) (by omega) (by omega) (by omega) (by omega)
  have hr2 := read64 hw.1 hw.2
  have e : floatToFloatBits .f32 b .f64 = some (Ieee.double.nearest false (8388608 + b % 8388608) (-149 + ((b / 8388608 - 1 : Nat) : Int))) := by
    unfold floatToFloatBits
    rw [if_neg (by decide)]
    have : FloatKind.f32.decode b = .number false (8388608 + b % 8388608) (-149 + ((b / 8388608 - 1 : Nat) : Int)) := hr
    rw [this]
    dsimp only
    rw [if_neg]
    · rfl
    · show ¬ (FloatKind.f64.format.read (Ieee.double.nearest false _ _)).isInfinity = true
      rw [hr2]; exact fun h_ => Bool.noConfusion h_
  have ec : cv32 (b : Int) = Ieee.double.nearest false (8388608 + b % 8388608) (-149 + ((b / 8388608 - 1 : Nat) : Int)) := by
    unfold cv32; rw [Int.toNat_natCast, e]; rfl
  unfold good32
  rw [ec, Int.toNat_natCast]
  refine ⟨e, .inr ?_⟩
  generalize Ieee.double.nearest false (8388608 + b % 8388608) (-149 + ((b / 8388608 - 1 : Nat) : Int)) = R at hr2 hw ⊢
  unfold Ieee.Format.order
  have z : FloatKind.f64.format.read 0 = .number false 0 (-1074) := by decide
  rw [hr2, z]
  unfold Ieee.Datum.order
  dsimp only
  have cs : ∀ z : Int, compare z z = Ordering.eq := fun z => Std.ReflCmp.compare_self (cmp := compare)
  refine ⟨by rw [cs], ?_⟩
  rw [show compare (Ieee.signed false _ _) (Ieee.signed false 0 _) = Ordering.gt from ?_]
  rw [Int.compare_eq_gt]
  unfold Ieee.signed
  simp only [Bool.false_eq_true, if_false, Nat.shiftLeft_eq, Nat.zero_mul]
  have : 0 < (4503599627370496 + R % 4503599627370496) * 2 ^ (-1074 + ((R / 4503599627370496 - 1 : Nat) : Int) - min (-1074 + ((R / 4503599627370496 - 1 : Nat) : Int)) (-1074)).toNat := Nat.mul_pos (by omega) (Nat.two_pow_pos _)
  omega
theorem tone_ok {s n : Nat} (hs : s ≤ n) (n0 : 0 < n) (n1 : n ≤ 1024) : ∃ r, tone32 (s : Int) (n : Int) = some r ∧ good32 r := by
  by_cases c : s = 0
  · subst c
    obtain ⟨m', p', e', m0', m1', p0', p1'⟩ := read_int n0 (by omega)
    refine ⟨0, ?_, by decide +kernel⟩
    unfold tone32 floatBits Ieee.Format.div
    simp only
    have z : FloatKind.f32.format.read (floatOfInt .f32 ((0 : Nat) : Int)) = .number false 0 (-149) := by decide
    rw [e', z]
    unfold Ieee.Datum.quotient
    dsimp only
    rw [if_neg (by omega), Nat.zero_shiftLeft, Nat.zero_div, Nat.zero_mod]
    rfl
  · obtain ⟨b, e, b0, b1⟩ := tone_pos (s := s) (n := n) (by omega) (by omega) n0 (by omega)
    refine ⟨(b : Int), ?_, good_pos b0 b1⟩
    unfold tone32; rw [e]; rfl
theorem good_zero : good32 0 := by decide +kernel
theorem pure_FnExactToneOf (W H : Int) (l : List Int) (hl : l.length ≤ 140737488351232) : ∃ k, laws_FnExactToneOf.f k W H l = some true := by
  refine ⟨2000000, ?_⟩
  unfold laws_FnExactToneOf.f
  rw [sz_p W H l 1048576 (by omega) (by omega) hl, Option.bind_some]
  by_cases h : (l.length : Int) ≤ 1048576
  · rw [if_pos h, if_neg (by omega)]
    have hl' : l.length ≤ 1048576 := by omega
    simp only [top W H hl' (show 1100000 ≤ 2000000 by omega), Option.bind_some]
    unfold spec_ToneOf.f impl_ToneOf.f
    simp only [plate_s hl' (show 1100000 ≤ 2000000 by omega), plate_i hl', Option.bind_some]
    by_cases hu : Up W H l 1
    · have ha := hu.1.area; have hn := hu.2.1; have hc := cnt_le 1 l
      obtain ⟨r, e, hg⟩ := tone_ok (s := cnt 1 l) (n := l.length) hc (by omega) (by omega)
      simp only [decide_eq_true hu, if_true, sum_s hu (show 1100000 ≤ 2000000 by omega), sum_i hu (show 1100000 ≤ 2000000 by omega), Option.bind_some, e]
      unfold laws_sameFloat.f
      rw [if_pos ⟨rfl, hg⟩]
      simp only [Option.bind_some, if_true, eqp W H hl' (show 1100000 ≤ 2000000 by omega)]
    · simp only [decide_eq_false hu, Bool.false_eq_true, if_false, Option.bind_some]
      unfold laws_sameFloat.f
      rw [if_pos ⟨rfl, good_zero⟩]
      simp only [Option.bind_some, if_true, eqp W H hl' (show 1100000 ≤ 2000000 by omega)]
  · rw [if_neg h]; rfl

end Go.Proofs.Ytmahpennnnajcaa.PFnExactToneOf
