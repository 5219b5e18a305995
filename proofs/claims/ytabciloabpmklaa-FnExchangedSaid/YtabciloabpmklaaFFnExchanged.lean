/- What the functions that laws.FnExchanged reaches compute, and that the law is true: over numbers alone. -/
import Derived.Test.YtabciloabpmklaaPFnExchangedx
import Derived.Test.YtabciloabpmklaaLat
namespace Go.Proofs.Ytabciloabpmklaa.PFnExchanged
open Go.RowKit Go.Proofs.YtabciloabpmklaaW.PrintWords
set_option linter.unusedVariables false
set_option linter.unusedSimpArgs false
open Lat
theorem w64 {x : Int} (h1 : -9223372036854775808 ≤ x) (h2 : x ≤ 9223372036854775807) : wrap64 x = x := by unfold wrap64; omega
/-- a valid lattice -/
def Ok (a b : Int) : Prop := 1 ≤ a ∧ a ≤ 12 ∧ 0 ≤ b ∧ b ≤ 12
instance (a b : Int) : Decidable (Ok a b) := inferInstanceAs (Decidable (_ ∧ _))
theorem mul_bd {x y c d : Int} (h0 : 0 ≤ x) (h1 : x ≤ c) (k0 : 0 ≤ y) (k1 : y ≤ d) : 0 ≤ x * y ∧ x * y ≤ c * d := by
  refine ⟨Int.mul_nonneg h0 k0, ?_⟩
  exact Int.le_trans (Int.mul_le_mul_of_nonneg_right h1 k0) (Int.mul_le_mul_of_nonneg_left k1 (by omega))
theorem mul_bd' {x y c d : Int} (h0 : -c ≤ x) (h1 : x ≤ c) (k0 : 0 ≤ y) (k1 : y ≤ d) : -(c * d) ≤ x * y ∧ x * y ≤ c * d := by
  have hc : 0 ≤ c := by omega
  have e1 : x * y ≤ c * y := Int.mul_le_mul_of_nonneg_right h1 k0
  have e2 : (-c) * y ≤ x * y := Int.mul_le_mul_of_nonneg_right h0 k0
  have e3 : c * y ≤ c * d := Int.mul_le_mul_of_nonneg_left k1 hc
  rw [Int.neg_mul] at e2
  omega
theorem Ok.sq {a b : Int} (h : Ok a b) : a * a ≤ 144 ∧ b * b ≤ 144 ∧ 0 ≤ b * b ∧ 1 ≤ a * a := by
  obtain ⟨h1, h2, h3, h4⟩ := h
  have k1 := mul_bd (c := 12) (d := 12) (show 0 ≤ a by omega) h2 (show 0 ≤ a by omega) h2
  have k2 := mul_bd (c := 12) (d := 12) h3 h4 h3 h4
  have k3 : 0 < a * a := Int.mul_pos (by omega) (by omega)
  omega
theorem Ok.ar {a b : Int} (h : Ok a b) : 1 ≤ ar a b ∧ ar a b ≤ 288 := by
  have := h.sq; unfold Lat.ar; omega
theorem Ok.g {a b : Int} (h : Ok a b) : 1 ≤ Lat.g a b ∧ Lat.g a b ≤ 12 := by
  refine ⟨g_pos h.1, ?_⟩
  have h1 : Lat.g a b ∣ a := Int.gcd_dvd_left ..
  have := Int.le_of_dvd (by have := h.1; omega) h1
  have := h.2.1; omega
theorem Ok.row {a b : Int} (h : Ok a b) : 1 ≤ Lat.row a b ∧ Lat.row a b ≤ 288 := by
  refine ⟨row_pos h.1, ?_⟩
  have h1 := row_mul (a := a) (b := b)
  have h2 := h.ar
  have h3 := h.g
  have h4 : 1 * Lat.row a b ≤ Lat.g a b * Lat.row a b := Int.mul_le_mul_of_nonneg_right h3.1 (by have := row_pos (b := b) h.1; omega)
  omega
theorem dec_ff {p : Prop} [Decidable p] (h : ¬ p) : some false = some (decide p) := by rw [decide_eq_false h]
theorem dec_dd {p q : Prop} [Decidable p] [Decidable q] (h : p ↔ q) : some (decide p) = some (decide q) := by rw [decide_eq_decide.mpr h]
theorem tmod_dvd {n x : Int} : Int.tmod x n = 0 ↔ n ∣ x := Int.dvd_iff_tmod_eq_zero.symm
theorem tmod_pos {n x : Int} (h : 0 ≤ x) : Int.tmod x n = x % n := Int.tmod_eq_emod_of_nonneg h
theorem tdiv_pos {n x : Int} (h : 0 ≤ x) : Int.tdiv x n = x / n := Int.tdiv_eq_ediv_of_nonneg h
theorem tmod_lo {n x : Int} (h : 0 < n) : -n < Int.tmod x n ∧ Int.tmod x n < n := by
  have h1 := Int.lt_tmod_of_pos x h; have h2 := Int.tmod_lt_of_pos x h; omega
theorem div_bd {x n c : Int} (hn : 1 ≤ n) (h1 : -c ≤ x) (h2 : x ≤ c) (hc : 0 ≤ c) : -c ≤ x / n ∧ x / n ≤ c := by
  have : c * 1 ≤ c * n := Int.mul_le_mul_of_nonneg_left hn hc
  constructor
  · apply Int.le_ediv_of_mul_le (by omega); rw [Int.neg_mul]; omega
  · apply Int.ediv_le_of_le_mul (by omega); omega
theorem isLattice_i (a b : Int) : impl_IsLattice.f a b = some (decide (Ok a b)) := by
  unfold impl_IsLattice.f
  repeat' split
  all_goals first | exact dec_dd (by unfold Ok; omega) | exact dec_ff (by unfold Ok; omega)
theorem area_i {a b : Int} (h : Ok a b) : impl_area.f a b = some (ar a b) := by
  have := h.sq
  unfold impl_area.f
  rw [w64 (x := a * a) (by omega) (by omega), w64 (x := b * b) (by omega) (by omega), w64 (by omega) (by omega)]; rfl
theorem areaOf_i (a b : Int) : impl_AreaOf.f a b = some (if Ok a b then ar a b else 0) := by
  unfold impl_AreaOf.f
  rw [isLattice_i]; simp only [Option.bind_some]
  by_cases h : Ok a b
  · rw [area_i h]; simp [h]
  · simp [h]
theorem turned_i (a b : Int) : impl_TurnedLattice.f a b = some (if Ok a b ∧ Ok b a then (b, a, true) else (0, 0, false)) := by
  unfold impl_TurnedLattice.f
  simp only [isLattice_i, Option.bind_some]
  by_cases h : Ok a b <;> by_cases h' : Ok b a <;> simp [h, h']
theorem mod_i {x n : Int} (h0 : 0 < n) (h1 : n ≤ 9223372036854775807) : impl_mod.f x n = some (x % n) := by
  unfold impl_mod.f
  rw [if_neg (by omega)]
  have h2 := Int.emod_nonneg x (show n ≠ 0 by omega)
  have h3 := Int.emod_lt_of_pos x h0
  have e := Int.tmod_eq_emod (a := x) (b := n)
  by_cases hc : 0 ≤ x ∨ n ∣ x
  · rw [if_pos hc] at e
    rw [e, if_neg (by omega)]; simp
  · rw [if_neg hc] at e
    rw [e, if_pos (by omega), w64 (by omega) (by omega)]; simp only [Option.some.injEq]; omega
theorem holds_i {a b : Int} (h : Ok a b) (x y : Int) : impl_holds.f a b x y = some (decide (hold a b x y)) := by
  have hn := h.ar
  have hx0 := Int.emod_nonneg x (show ar a b ≠ 0 by omega); have hx1 := Int.emod_lt_of_pos x (show 0 < ar a b by omega)
  have hy0 := Int.emod_nonneg y (show ar a b ≠ 0 by omega); have hy1 := Int.emod_lt_of_pos y (show 0 < ar a b by omega)
  obtain ⟨h1, h2, h3, h4⟩ := h
  have m1 := mul_bd (c := 288) (d := 12) hx0 (by omega) (show 0 ≤ a by omega) h2
  have m2 := mul_bd (c := 288) (d := 12) hx0 (by omega) h3 h4
  have m3 := mul_bd (c := 288) (d := 12) hy0 (by omega) (show 0 ≤ a by omega) h2
  have m4 := mul_bd (c := 288) (d := 12) hy0 (by omega) h3 h4
  unfold impl_holds.f
  rw [area_i ⟨h1, h2, h3, h4⟩]; simp only [Option.bind_some]
  rw [mod_i (by omega) (by omega), mod_i (by omega) (by omega)]; simp only [Option.bind_some]
  have hne : ¬ ar a b = 0 := by omega
  simp only [if_neg hne]
  rw [w64 (x := x % _ * a) (by omega) (by omega), w64 (x := y % _ * b) (by omega) (by omega), w64 (x := y % _ * a) (by omega) (by omega), w64 (x := x % _ * b) (by omega) (by omega), w64 (by omega) (by omega), w64 (by omega) (by omega), mod_i (by omega) (by omega)]
  simp only [Option.bind_some, tmod_dvd]
  have key : hold a b x y ↔ hold a b (x % ar a b) (y % ar a b) := by
    have := hold_shift a b (x % ar a b) (y % ar a b) (x / ar a b) (y / ar a b)
    rwa [Int.emod_add_mul_ediv, Int.emod_add_mul_ediv] at this
  rw [show decide (hold a b x y) = decide (hold a b (x % ar a b) (y % ar a b)) from decide_eq_decide.mpr key]
  unfold hold
  split
  · rename_i hd; simp only [Option.some.injEq, hd, true_and]
    rw [Bool.eq_iff_iff, beq_iff_eq, decide_eq_true_iff, Int.dvd_iff_emod_eq_zero]
  · rename_i hd; simp only [hd, false_and, decide_false]
theorem has_i (a b x y : Int) : impl_HasPoint.f a b x y = some (decide (Ok a b ∧ hold a b x y)) := by
  unfold impl_HasPoint.f
  rw [isLattice_i]; simp only [Option.bind_some]
  by_cases h : Ok a b
  · rw [holds_i h]; simp [h]
  · simp [h]
theorem periodl_i {a b : Int} (h : Ok a b) (d : Nat) : ∀ (k : Nat) (j : Int), 1 ≤ j → j ≤ row a b → row a b - j = d → d < k → impl_PeriodOf.l0 k j a b = some (row a b) := by
  have hr := h.row
  induction d with
  | zero =>
    intro k j h1 h2 hd hk
    obtain ⟨k, rfl⟩ : ∃ m, k = m + 1 := ⟨k - 1, by omega⟩
    obtain rfl : j = row a b := by omega
    simp only [impl_PeriodOf.l0]
    rw [holds_i h]; simp only [Option.bind_some]
    rw [if_pos (decide_eq_true ((hold_right h.1 _).mpr (Int.dvd_refl _)))]
  | succ d ih =>
    intro k j h1 h2 hd hk
    obtain ⟨k, rfl⟩ : ∃ m, k = m + 1 := ⟨k - 1, by omega⟩
    simp only [impl_PeriodOf.l0]
    rw [holds_i h]; simp only [Option.bind_some]
    rw [if_neg, w64 (by omega) (by omega), ih k (j + 1) (by omega) (by omega) (by omega) (by omega)]
    rw [decide_eq_true_iff, hold_right h.1]
    intro hd; have := Int.le_of_dvd (by omega) hd; omega
theorem period_i (a b : Int) (k : Nat) (hk : 289 ≤ k) : impl_PeriodOf.f k a b = some (if Ok a b then row a b else 0) := by
  unfold impl_PeriodOf.f
  rw [isLattice_i]; simp only [Option.bind_some]
  by_cases h : Ok a b
  · have hr := h.row
    rw [if_pos (by simp [h]), if_pos h, periodl_i h (row a b - 1).toNat k 1 (by omega) (by omega) (by omega) (by omega)]
  · simp [h]
theorem and255 (n : Int) : Go.bits .and .i64 n 255 = n % 256 := by
  have h255 : (BitVec.ofInt 64 255).toNat = 2 ^ 8 - 1 := by decide
  have key : (BitVec.ofInt 64 n &&& BitVec.ofInt 64 255).toNat = (n % ((2 ^ 64 : Nat) : Int)).toNat % 2 ^ 8 := by
    rw [BitVec.toNat_and, BitVec.toNat_ofInt, h255, Nat.and_two_pow_sub_one_eq_mod]
  show IntKind.i64.wrap ((BitVec.ofInt 64 n &&& BitVec.ofInt 64 255).toNat : Nat) = n % 256
  rw [key, IntKind.wrap_i64]
  omega
theorem newl_c (xs : List Int) (d : Nat) : ∀ (k : Nat) (h i : Int), 0 ≤ i → i ≤ 4000 → 4000 - i = d → d < k → ∃ h', spec_l01New.l0 k xs h i = some (xs, 0, h') := by
  induction d with
  | zero =>
    intro k h i h0 h1 hd hk
    obtain ⟨k, rfl⟩ : ∃ m, k = m + 1 := ⟨k - 1, by omega⟩
    simp only [spec_l01New.l0]
    have : ¬ i < 4000 := by omega
    simp only [if_neg this]
    split <;> exact ⟨_, rfl⟩
  | succ d ih =>
    intro k h i h0 h1 hd hk
    obtain ⟨k, rfl⟩ : ∃ m, k = m + 1 := ⟨k - 1, by omega⟩
    rw [spec_l01New.l0]
    by_cases hlt : i < (xs.length : Int)
    · rw [if_pos hlt, if_pos (by omega), if_pos h0, w64 (x := i + 1) (by omega) (by omega)]
      exact ih k _ (i + 1) (by omega) (by omega) (by omega) (by omega)
    · rw [if_neg hlt]; exact ⟨_, rfl⟩
theorem new_c (xs : List Int) (k : Nat) (hk : 4001 ≤ k) : ∃ h, spec_l01New.f k xs = some (xs, 0, h) :=
  newl_c xs 4000 k _ 0 (by omega) (by omega) (by omega) (by omega)
theorem byte_c (xs : List Int) (hl : xs.length ≤ 140737488351232) (i h : Int) (h0 : 0 ≤ i) (h1 : i ≤ xs.length) : ∃ r i' h', spec_l01Byte.f xs i h = some (r, i', h') ∧ 0 ≤ r ∧ r ≤ 255 ∧ 0 ≤ i' ∧ i' ≤ xs.length := by
  unfold spec_l01Byte.f
  simp only [and255]
  by_cases hlt : i < (xs.length : Int)
  · rw [if_pos hlt, if_pos h0, w64 (x := i + 1) (by omega) (by omega)]
    exact ⟨_, _, _, rfl, Int.emod_nonneg _ (by omega), by have := Int.emod_lt_of_pos (wrap64 ((wrap64 ((Go.bits .xor .i64 ((wrap64 ((wrap64 (h * 6364136223846793005)) + 1442695040888963407)) / 8589934592) ((wrap64 ((wrap64 (h * 6364136223846793005)) + 1442695040888963407)) / 35184372088832)) % 256)) + wrap64 (rd xs i))) (show (0 : Int) < 256 by omega); omega, by omega, by omega⟩
  · rw [if_neg hlt]
    exact ⟨_, _, _, rfl, Int.emod_nonneg _ (by omega), by have := Int.emod_lt_of_pos (Go.bits .xor .i64 ((wrap64 ((wrap64 (h * 6364136223846793005)) + 1442695040888963407)) / 8589934592) ((wrap64 ((wrap64 (h * 6364136223846793005)) + 1442695040888963407)) / 35184372088832)) (show (0 : Int) < 256 by omega); omega, h0, h1⟩
theorem below_c (xs : List Int) (hl : xs.length ≤ 140737488351232) (i h n : Int) (h0 : 0 ≤ i) (h1 : i ≤ xs.length) (hn : 1 ≤ n) (hn2 : n ≤ 256) : ∃ r i' h', spec_l01Below.f xs i h n = some (r, i', h') ∧ 0 ≤ r ∧ r < n ∧ 0 ≤ i' ∧ i' ≤ xs.length := by
  unfold spec_l01Below.f
  rw [if_neg (by omega), if_pos hn2]
  obtain ⟨r, i', h', e, r0, r1, i0, i1⟩ := byte_c xs hl i h h0 h1
  rw [e]; simp only [Option.bind_some]
  rw [if_neg (by omega)]
  have := Int.emod_nonneg r (show n ≠ 0 by omega); have := Int.emod_lt_of_pos r (show 0 < n by omega)
  refine ⟨_, _, _, rfl, ?_, ?_, i0, i1⟩ <;> rw [tmod_pos r0] <;> omega
theorem make_lattice (xs : List Int) (hl : xs.length ≤ 140737488351232) (k : Nat) (hk : 4001 ≤ k) : ∃ a b, spec_MakeLattice.f k xs = some (a, b) ∧ 1 ≤ a ∧ a ≤ 4 ∧ 0 ≤ b ∧ b ≤ 4 := by
  obtain ⟨h, e⟩ := new_c xs k hk
  unfold spec_MakeLattice.f
  rw [e]; simp only [Option.bind_some]
  obtain ⟨r, i', h', e, r0, r1, i0, i1⟩ := below_c xs hl 0 h 16 (by omega) (by omega) (by omega) (by omega)
  change ∃ a b, (spec_l01Below.f xs 0 h (16 : Int)).bind _ = some (a, b) ∧ _
  rw [e]; simp only [Option.bind_some]
  rw [if_pos r0]
  refine ⟨_, _, if_pos (by exact r1), ?_⟩
  have : r = 0 ∨ r = 1 ∨ r = 2 ∨ r = 3 ∨ r = 4 ∨ r = 5 ∨ r = 6 ∨ r = 7 ∨ r = 8 ∨ r = 9 ∨ r = 10 ∨ r = 11 ∨ r = 12 ∨ r = 13 ∨ r = 14 ∨ r = 15 := by omega
  rcases this with rfl | rfl | rfl | rfl | rfl | rfl | rfl | rfl | rfl | rfl | rfl | rfl | rfl | rfl | rfl | rfl <;> decide
theorem small_ok {a b : Int} (h : 1 ≤ a ∧ a ≤ 4 ∧ 0 ≤ b ∧ b ≤ 4) : Ok a b := ⟨h.1, by omega, by omega, by omega⟩
theorem at_c (xs : List Int) (hl : xs.length ≤ 140737488351232) (hw : ∀ x ∈ xs, (Lit.int .u8 x).wf = true) (i : Int) (h0 : 0 ≤ i) (h1 : i ≤ 1000) : ∃ v, laws_at.f xs i = some v ∧ 0 ≤ v ∧ v ≤ 255 := by
  unfold laws_at.f
  by_cases hlt : i < (xs.length : Int)
  · rw [if_pos hlt, if_pos h0]
    have hm : rd xs i ∈ xs := by
      have : i.toNat < xs.length := by omega
      unfold rd; rw [List.getD_eq_getElem?_getD, List.getElem?_eq_getElem this, Option.getD_some]; exact List.getElem_mem this
    have hb : 0 ≤ rd xs i ∧ rd xs i ≤ 255 := by
      have h := hw _ hm
      simp only [Lit.wf, Bool.and_eq_true, decide_eq_true_eq] at h
      exact h
    exact ⟨_, rfl, by rw [w64 (by omega) (by omega)]; exact hb.1, by rw [w64 (by omega) (by omega)]; exact hb.2⟩
  · rw [if_neg hlt]
    refine ⟨_, rfl, ?_⟩
    rw [w64 (x := i * 37) (by omega) (by omega), w64 (x := _ * 11) (by omega) (by omega), w64 (by omega) (by omega), tmod_pos (by omega)]
    omega
theorem pure_FnExchanged : laws_FnExchanged.Pure := by
  intro xs _ hl hw
  refine ⟨5000, ?_⟩
  unfold laws_FnExchanged.f
  split; rfl
  obtain ⟨a, b, e, hs⟩ := make_lattice xs (by omega) 5000 (by omega)
  have ok := small_ok hs
  obtain ⟨x, ex, x0, x1⟩ := at_c xs (by omega) hw 1 (by omega) (by omega)
  obtain ⟨y, ey, y0, y1⟩ := at_c xs (by omega) hw 2 (by omega) (by omega)
  rw [e]; simp only [Option.bind_some, turned_i, ex, ey]
  by_cases hb : b > 0
  · have ok' : Ok b a := by unfold Ok; omega
    have hc : Ok a b ∧ Ok b a := ⟨ok, ok'⟩
    simp only [if_pos hc, hb, decide_true, bne_self_eq_false, Bool.false_eq_true, if_false, if_true, areaOf_i, if_pos ok, if_pos ok', Option.bind_some, period_i _ _ _ (show 289 ≤ 5000 by omega), has_i]
    have ea : ar b a = ar a b := by unfold ar; omega
    have er : row b a = row a b := by unfold row g; rw [ea, Int.gcd_comm]
    rw [if_pos ea, er]
    simp only [hold_swap, ok, ok', true_and, beq_self_eq_true, if_true]
  · have hc : ¬ (Ok a b ∧ Ok b a) := by rintro ⟨_, h⟩; exact hb h.1
    simp only [if_neg hc, decide_eq_false hb]; rfl
end Go.Proofs.Ytabciloabpmklaa.PFnExchanged
