/- What the functions that laws.FnNames reaches compute, and that the law is true: over numbers alone. -/
import Derived.Test.YtabciloabpmklaaPFnNamesx
import Derived.Test.YtabciloabpmklaaLat
namespace Go.Proofs.Ytabciloabpmklaa.PFnNames
open Go.RowKit Go.Proofs.YtabciloabpmklaaW.PrintWords
set_option linter.unusedVariables false
set_option linter.unusedSimpArgs false
open Lat
theorem w64 {x : Int} (h1 : -9223372036854775808 ≤ x) (h2 : x ≤ 9223372036854775807) : wrap64 x = x := by unfold wrap64; omega
/-- a valid lattice -/
def Ok (a b : Int) : Prop := 1 ≤ a ∧ a ≤ 12 ∧ 0 ≤ b ∧ b ≤ 12
instance (a b : Int) : Decidable (Ok a b) := inferInstanceAs (Decidable (_ ∧ _))
theorem mul_bd {x y c d : Int} (h0 : 0 ≤ x) (h1 : x ≤ c) (k0 : 0 ≤ y) (k1 : y ≤ d) : 0 ≤ x * y ∧ x * y ≤ c * d := by
  refine ⟨Int.mul_nonneg h0 k0, ?_⟩
  exact Int.le_trans (Int.mul_le_mul_of_nonneg_right h1 k0) (Int.mul_le_mul_of_nonneg_left k1 (by omega))
theorem mul_bd' {x y c d : Int} (h0 : -c ≤ x) (h1 : x ≤ c) (k0 : 0 ≤ y) (k1 : y ≤ d) : -(c * d) ≤ x * y ∧ x * y ≤ c * d := by
  have hc : 0 ≤ c := by omega
  have e1 : x * y ≤ c * y := Int.mul_le_mul_of_nonneg_right h1 k0
  have e2 : (-c) * y ≤ x * y := Int.mul_le_mul_of_nonneg_right h0 k0
  have e3 : c * y ≤ c * d := Int.mul_le_mul_of_nonneg_left k1 hc
  rw [Int.neg_mul] at e2
  omega
theorem Ok.sq {a b : Int} (h : Ok a b) : a * a ≤ 144 ∧ b * b ≤ 144 ∧ 0 ≤ b * b ∧ 1 ≤ a * a := by
  obtain ⟨h1, h2, h3, h4⟩ := h
  have k1 := mul_bd (c := 12) (d := 12) (show 0 ≤ a by omega) h2 (show 0 ≤ a by omega) h2
  have k2 := mul_bd (c := 12) (d := 12) h3 h4 h3 h4
  have k3 : 0 < a * a := Int.mul_pos (by omega) (by omega)
  omega
theorem Ok.ar {a b : Int} (h : Ok a b) : 1 ≤ ar a b ∧ ar a b ≤ 288 := by
  have := h.sq; unfold Lat.ar; omega
theorem Ok.g {a b : Int} (h : Ok a b) : 1 ≤ Lat.g a b ∧ Lat.g a b ≤ 12 := by
  refine ⟨g_pos h.1, ?_⟩
  have h1 : Lat.g a b ∣ a := Int.gcd_dvd_left ..
  have := Int.le_of_dvd (by have := h.1; omega) h1
  have := h.2.1; omega
theorem Ok.row {a b : Int} (h : Ok a b) : 1 ≤ Lat.row a b ∧ Lat.row a b ≤ 288 := by
  refine ⟨row_pos h.1, ?_⟩
  have h1 := row_mul (a := a) (b := b)
  have h2 := h.ar
  have h3 := h.g
  have h4 : 1 * Lat.row a b ≤ Lat.g a b * Lat.row a b := Int.mul_le_mul_of_nonneg_right h3.1 (by have := row_pos (b := b) h.1; omega)
  omega
theorem dec_ff {p : Prop} [Decidable p] (h : ¬ p) : some false = some (decide p) := by rw [decide_eq_false h]
theorem dec_dd {p q : Prop} [Decidable p] [Decidable q] (h : p ↔ q) : some (decide p) = some (decide q) := by rw [decide_eq_decide.mpr h]
theorem tmod_dvd {n x : Int} : Int.tmod x n = 0 ↔ n ∣ x := Int.dvd_iff_tmod_eq_zero.symm
theorem tmod_pos {n x : Int} (h : 0 ≤ x) : Int.tmod x n = x % n := Int.tmod_eq_emod_of_nonneg h
theorem tdiv_pos {n x : Int} (h : 0 ≤ x) : Int.tdiv x n = x / n := Int.tdiv_eq_ediv_of_nonneg h
theorem tmod_lo {n x : Int} (h : 0 < n) : -n < Int.tmod x n ∧ Int.tmod x n < n := by
  have h1 := Int.lt_tmod_of_pos x h; have h2 := Int.tmod_lt_of_pos x h; omega
theorem div_bd {x n c : Int} (hn : 1 ≤ n) (h1 : -c ≤ x) (h2 : x ≤ c) (hc : 0 ≤ c) : -c ≤ x / n ∧ x / n ≤ c := by
  have : c * 1 ≤ c * n := Int.mul_le_mul_of_nonneg_left hn hc
  constructor
  · apply Int.le_ediv_of_mul_le (by omega); rw [Int.neg_mul]; omega
  · apply Int.ediv_le_of_le_mul (by omega); omega
theorem isLattice_i (a b : Int) : impl_IsLattice.f a b = some (decide (Ok a b)) := by
  unfold impl_IsLattice.f
  repeat' split
  all_goals first | exact dec_dd (by unfold Ok; omega) | exact dec_ff (by unfold Ok; omega)
theorem area_i {a b : Int} (h : Ok a b) : impl_area.f a b = some (ar a b) := by
  have := h.sq
  unfold impl_area.f
  rw [w64 (x := a * a) (by omega) (by omega), w64 (x := b * b) (by omega) (by omega), w64 (by omega) (by omega)]; rfl
theorem areaOf_i (a b : Int) : impl_AreaOf.f a b = some (if Ok a b then ar a b else 0) := by
  unfold impl_AreaOf.f
  rw [isLattice_i]; simp only [Option.bind_some]
  by_cases h : Ok a b
  · rw [area_i h]; simp [h]
  · simp [h]
theorem mod_i {x n : Int} (h0 : 0 < n) (h1 : n ≤ 9223372036854775807) : impl_mod.f x n = some (x % n) := by
  unfold impl_mod.f
  rw [if_neg (by omega)]
  have h2 := Int.emod_nonneg x (show n ≠ 0 by omega)
  have h3 := Int.emod_lt_of_pos x h0
  have e := Int.tmod_eq_emod (a := x) (b := n)
  by_cases hc : 0 ≤ x ∨ n ∣ x
  · rw [if_pos hc] at e
    rw [e, if_neg (by omega)]; simp
  · rw [if_neg hc] at e
    rw [e, if_pos (by omega), w64 (by omega) (by omega)]; simp only [Option.some.injEq]; omega
theorem holds_i {a b : Int} (h : Ok a b) (x y : Int) : impl_holds.f a b x y = some (decide (hold a b x y)) := by
  have hn := h.ar
  have hx0 := Int.emod_nonneg x (show ar a b ≠ 0 by omega); have hx1 := Int.emod_lt_of_pos x (show 0 < ar a b by omega)
  have hy0 := Int.emod_nonneg y (show ar a b ≠ 0 by omega); have hy1 := Int.emod_lt_of_pos y (show 0 < ar a b by omega)
  obtain ⟨h1, h2, h3, h4⟩ := h
  have m1 := mul_bd (c := 288) (d := 12) hx0 (by omega) (show 0 ≤ a by omega) h2
  have m2 := mul_bd (c := 288) (d := 12) hx0 (by omega) h3 h4
  have m3 := mul_bd (c := 288) (d := 12) hy0 (by omega) (show 0 ≤ a by omega) h2
  have m4 := mul_bd (c := 288) (d := 12) hy0 (by omega) h3 h4
  unfold impl_holds.f
  rw [area_i ⟨h1, h2, h3, h4⟩]; simp only [Option.bind_some]
  rw [mod_i (by omega) (by omega), mod_i (by omega) (by omega)]; simp only [Option.bind_some]
  have hne : ¬ ar a b = 0 := by omega
  simp only [if_neg hne]
  rw [w64 (x := x % _ * a) (by omega) (by omega), w64 (x := y % _ * b) (by omega) (by omega), w64 (x := y % _ * a) (by omega) (by omega), w64 (x := x % _ * b) (by omega) (by omega), w64 (by omega) (by omega), w64 (by omega) (by omega), mod_i (by omega) (by omega)]
  simp only [Option.bind_some, tmod_dvd]
  have key : hold a b x y ↔ hold a b (x % ar a b) (y % ar a b) := by
    have := hold_shift a b (x % ar a b) (y % ar a b) (x / ar a b) (y / ar a b)
    rwa [Int.emod_add_mul_ediv, Int.emod_add_mul_ediv] at this
  rw [show decide (hold a b x y) = decide (hold a b (x % ar a b) (y % ar a b)) from decide_eq_decide.mpr key]
  unfold hold
  split
  · rename_i hd; simp only [Option.some.injEq, hd, true_and]
    rw [Bool.eq_iff_iff, beq_iff_eq, decide_eq_true_iff, Int.dvd_iff_emod_eq_zero]
  · rename_i hd; simp only [hd, false_and, decide_false]
theorem has_i (a b x y : Int) : impl_HasPoint.f a b x y = some (decide (Ok a b ∧ hold a b x y)) := by
  unfold impl_HasPoint.f
  rw [isLattice_i]; simp only [Option.bind_some]
  by_cases h : Ok a b
  · rw [holds_i h]; simp [h]
  · simp [h]
theorem gcd_i (k : Nat) : ∀ (a b : Int), 0 ≤ a → 0 ≤ b → b.toNat < k → impl_gcd.l0 k a b = some (g a b) := by
  induction k with
  | zero => intro a b _ _ h; omega
  | succ k ih =>
    intro a b ha hb hk
    simp only [impl_gcd.l0]
    by_cases h : b = 0
    · rw [if_pos h]; subst h; unfold g; rw [Int.gcd_zero]; simp only [Option.some.injEq]; omega
    · rw [if_neg h, tmod_pos ha]
      have h1 := Int.emod_nonneg a h; have h2 := Int.emod_lt_of_pos a (show 0 < b by omega)
      rw [ih b (a % b) hb h1 (by omega)]
      unfold g; simp only [Option.some.injEq]; unfold Int.gcd; rw [Int.natAbs_emod_of_nonneg ha, Nat.gcd_comm, ← Nat.gcd_rec, Nat.gcd_comm]
theorem row_i {a b : Int} (h : Ok a b) (k : Nat) (hk : 13 ≤ k) : impl_row.f k a b = some (row a b) := by
  unfold impl_row.f impl_gcd.f
  have hg := h.g; have hr := h.row; have hn := h.ar
  rw [area_i h]; simp only [Option.bind_some]
  have := h.2.2
  rw [gcd_i k a b (by have := h.1; omega) this.1 (by omega)]; simp only [Option.bind_some]
  rw [if_neg (by omega), tdiv_pos (by omega)]
  have e : ar a b / g a b = row a b := rfl
  rw [e, w64 (by omega) (by omega)]
theorem pointOf_i (a b n : Int) (k : Nat) (hk : 14 ≤ k) : impl_PointOf.f k a b n = some (if Ok a b ∧ 0 ≤ n ∧ n < ar a b then (n % row a b, n / row a b, true) else (0, 0, false)) := by
  obtain ⟨k, rfl⟩ : ∃ m, k = m + 1 := ⟨k - 1, by omega⟩
  unfold impl_PointOf.f
  rw [isLattice_i]; simp only [Option.bind_some]
  by_cases h : Ok a b
  · have hr := h.row; have hn := h.ar
    by_cases h0 : n < 0
    · simp only [h, decide_true, if_true, h0, impl_PointOf.j0]; rw [if_neg (by omega)]
    · rw [area_i h]
      simp only [h, decide_true, if_true, h0, impl_PointOf.j0, if_false, Option.bind_some, decide_eq_true_eq]
      by_cases h1 : n ≥ ar a b
      · rw [if_pos h1, if_neg (by omega)]
      · rw [if_neg h1, if_pos (by simp; omega), row_i h k (by omega)]; simp only [Option.bind_some]
        have hne : ¬ row a b = 0 := by omega
        simp only [if_neg hne]
        rw [tmod_pos (by omega), tdiv_pos (by omega), w64]
        · have := Int.ediv_nonneg (show 0 ≤ n by omega) (show 0 ≤ row a b by omega); omega
        · have := Int.ediv_le_self (row a b) (show 0 ≤ n by omega); omega
  · simp [h, impl_PointOf.j0]
theorem periodl_i {a b : Int} (h : Ok a b) (d : Nat) : ∀ (k : Nat) (j : Int), 1 ≤ j → j ≤ row a b → row a b - j = d → d < k → impl_PeriodOf.l0 k j a b = some (row a b) := by
  have hr := h.row
  induction d with
  | zero =>
    intro k j h1 h2 hd hk
    obtain ⟨k, rfl⟩ : ∃ m, k = m + 1 := ⟨k - 1, by omega⟩
    obtain rfl : j = row a b := by omega
    simp only [impl_PeriodOf.l0]
    rw [holds_i h]; simp only [Option.bind_some]
    rw [if_pos (decide_eq_true ((hold_right h.1 _).mpr (Int.dvd_refl _)))]
  | succ d ih =>
    intro k j h1 h2 hd hk
    obtain ⟨k, rfl⟩ : ∃ m, k = m + 1 := ⟨k - 1, by omega⟩
    simp only [impl_PeriodOf.l0]
    rw [holds_i h]; simp only [Option.bind_some]
    rw [if_neg, w64 (by omega) (by omega), ih k (j + 1) (by omega) (by omega) (by omega) (by omega)]
    rw [decide_eq_true_iff, hold_right h.1]
    intro hd; have := Int.le_of_dvd (by omega) hd; omega
theorem period_i (a b : Int) (k : Nat) (hk : 289 ≤ k) : impl_PeriodOf.f k a b = some (if Ok a b then row a b else 0) := by
  unfold impl_PeriodOf.f
  rw [isLattice_i]; simp only [Option.bind_some]
  by_cases h : Ok a b
  · have hr := h.row
    rw [if_pos (by simp [h]), if_pos h, periodl_i h (row a b - 1).toNat k 1 (by omega) (by omega) (by omega) (by omega)]
  · simp [h]
theorem namel_i {a b : Int} (h : Ok a b) {x y : Int} (hx : -1000000 ≤ x ∧ x ≤ 1000000) (hy : -1000000 ≤ y ∧ y ≤ 1000000) (d : Nat) : ∀ (k : Nat) (j : Int), 0 ≤ j → ar a b - j = d → d + 14 ≤ k →
    impl_name.l0 k x y (ar a b) j a b = some (scan a b x y d j) := by
  have hr := h.row; have hn := h.ar
  induction d with
  | zero =>
    intro k j h1 hd hk
    obtain ⟨k, rfl⟩ : ∃ m, k = m + 1 := ⟨k - 1, by omega⟩
    simp only [impl_name.l0]; rw [if_neg (by omega)]; rfl
  | succ d ih =>
    intro k j h1 hd hk
    obtain ⟨k, rfl⟩ : ∃ m, k = m + 1 := ⟨k - 1, by omega⟩
    have e1 := Int.emod_nonneg j (show row a b ≠ 0 by omega); have e2 := Int.emod_lt_of_pos j (show 0 < row a b by omega)
    have e3 := Int.ediv_nonneg h1 (show 0 ≤ row a b by omega); have e4 := Int.ediv_le_self (row a b) h1
    have hne : ¬ row a b = 0 := by omega
    simp only [impl_name.l0]
    rw [if_pos (by omega), row_i h k (by omega)]; simp only [Option.bind_some, if_neg hne]
    rw [tmod_pos h1, tdiv_pos h1, w64 (x := j / row a b) (by omega) (by omega), w64 (by omega) (by omega), w64 (by omega) (by omega), w64 (by omega) (by omega), holds_i h, ih k (j + 1) (by omega) (by omega) (by omega)]
    simp only [Option.bind_some, decide_eq_true_eq]
    rw [scan]; split <;> rfl
theorem name_i {a b : Int} (h : Ok a b) {x y : Int} (hx : -1000000 ≤ x ∧ x ≤ 1000000) (hy : -1000000 ≤ y ∧ y ≤ 1000000) (k : Nat) (hk : 400 ≤ k) : impl_name.f k a b x y = some (nm a b x y) := by
  have hn := h.ar
  unfold impl_name.f
  rw [area_i h]; simp only [Option.bind_some]
  rw [namel_i h hx hy (ar a b).toNat k 0 (by omega) (by omega) (by omega)]; rfl
theorem nameOf_i (a b x y : Int) (k : Nat) (hk : 400 ≤ k) : impl_NameOf.f k a b x y = some (if Ok a b ∧ (-100000 ≤ x ∧ x ≤ 100000) ∧ (-100000 ≤ y ∧ y ≤ 100000) then nm a b x y else -1) := by
  unfold impl_NameOf.f
  rw [isLattice_i]; simp only [Option.bind_some]
  by_cases h : Ok a b
  · rw [if_pos (by simp [h])]
    by_cases hx : -100000 ≤ x ∧ x ≤ 100000
    · by_cases hy : -100000 ≤ y ∧ y ≤ 100000
      · rw [if_neg (by omega), if_neg (by omega), if_neg (by omega), if_neg (by omega), name_i h (by omega) (by omega) k hk, if_pos ⟨h, hx, hy⟩]; rfl
      · rw [if_neg (by omega), if_neg (by omega), if_neg (c := _ ∧ _ ∧ _) (fun hh => hy hh.2.2)]
        split; rfl
        rw [if_pos (by omega)]
    · rw [if_neg (c := _ ∧ _ ∧ _) (fun hh => hx hh.2.1)]
      split; rfl
      rw [if_pos (by omega)]
  · simp [h]
theorem and255 (n : Int) : Go.bits .and .i64 n 255 = n % 256 := by
  have h255 : (BitVec.ofInt 64 255).toNat = 2 ^ 8 - 1 := by decide
  have key : (BitVec.ofInt 64 n &&& BitVec.ofInt 64 255).toNat = (n % ((2 ^ 64 : Nat) : Int)).toNat % 2 ^ 8 := by
    rw [BitVec.toNat_and, BitVec.toNat_ofInt, h255, Nat.and_two_pow_sub_one_eq_mod]
  show IntKind.i64.wrap ((BitVec.ofInt 64 n &&& BitVec.ofInt 64 255).toNat : Nat) = n % 256
  rw [key, IntKind.wrap_i64]
  omega
theorem newl_c (xs : List Int) (d : Nat) : ∀ (k : Nat) (h i : Int), 0 ≤ i → i ≤ 4000 → 4000 - i = d → d < k → ∃ h', spec_l01New.l0 k xs h i = some (xs, 0, h') := by
  induction d with
  | zero =>
    intro k h i h0 h1 hd hk
    obtain ⟨k, rfl⟩ : ∃ m, k = m + 1 := ⟨k - 1, by omega⟩
    simp only [spec_l01New.l0]
    have : ¬ i < 4000 := by omega
    simp only [if_neg this]
    split <;> exact ⟨_, rfl⟩
  | succ d ih =>
    intro k h i h0 h1 hd hk
    obtain ⟨k, rfl⟩ : ∃ m, k = m + 1 := ⟨k - 1, by omega⟩
    rw [spec_l01New.l0]
    by_cases hlt : i < (xs.length : Int)
    · rw [if_pos hlt, if_pos (by omega), if_pos h0, w64 (x := i + 1) (by omega) (by omega)]
      exact ih k _ (i + 1) (by omega) (by omega) (by omega) (by omega)
    · rw [if_neg hlt]; exact ⟨_, rfl⟩
theorem new_c (xs : List Int) (k : Nat) (hk : 4001 ≤ k) : ∃ h, spec_l01New.f k xs = some (xs, 0, h) :=
  newl_c xs 4000 k _ 0 (by omega) (by omega) (by omega) (by omega)
theorem byte_c (xs : List Int) (hl : xs.length ≤ 140737488351232) (i h : Int) (h0 : 0 ≤ i) (h1 : i ≤ xs.length) : ∃ r i' h', spec_l01Byte.f xs i h = some (r, i', h') ∧ 0 ≤ r ∧ r ≤ 255 ∧ 0 ≤ i' ∧ i' ≤ xs.length := by
  unfold spec_l01Byte.f
  simp only [and255]
  by_cases hlt : i < (xs.length : Int)
  · rw [if_pos hlt, if_pos h0, w64 (x := i + 1) (by omega) (by omega)]
    exact ⟨_, _, _, rfl, Int.emod_nonneg _ (by omega), by have := Int.emod_lt_of_pos (wrap64 ((wrap64 ((Go.bits .xor .i64 ((wrap64 ((wrap64 (h * 6364136223846793005)) + 1442695040888963407)) / 8589934592) ((wrap64 ((wrap64 (h * 6364136223846793005)) + 1442695040888963407)) / 35184372088832)) % 256)) + wrap64 (rd xs i))) (show (0 : Int) < 256 by omega); omega, by omega, by omega⟩
  · rw [if_neg hlt]
    exact ⟨_, _, _, rfl, Int.emod_nonneg _ (by omega), by have := Int.emod_lt_of_pos (Go.bits .xor .i64 ((wrap64 ((wrap64 (h * 6364136223846793005)) + 1442695040888963407)) / 8589934592) ((wrap64 ((wrap64 (h * 6364136223846793005)) + 1442695040888963407)) / 35184372088832)) (show (0 : Int) < 256 by omega); omega, h0, h1⟩
theorem below_c (xs : List Int) (hl : xs.length ≤ 140737488351232) (i h n : Int) (h0 : 0 ≤ i) (h1 : i ≤ xs.length) (hn : 1 ≤ n) (hn2 : n ≤ 256) : ∃ r i' h', spec_l01Below.f xs i h n = some (r, i', h') ∧ 0 ≤ r ∧ r < n ∧ 0 ≤ i' ∧ i' ≤ xs.length := by
  unfold spec_l01Below.f
  rw [if_neg (by omega), if_pos hn2]
  obtain ⟨r, i', h', e, r0, r1, i0, i1⟩ := byte_c xs hl i h h0 h1
  rw [e]; simp only [Option.bind_some]
  rw [if_neg (by omega)]
  have := Int.emod_nonneg r (show n ≠ 0 by omega); have := Int.emod_lt_of_pos r (show 0 < n by omega)
  refine ⟨_, _, _, rfl, ?_, ?_, i0, i1⟩ <;> rw [tmod_pos r0] <;> omega
theorem make_lattice (xs : List Int) (hl : xs.length ≤ 140737488351232) (k : Nat) (hk : 4001 ≤ k) : ∃ a b, spec_MakeLattice.f k xs = some (a, b) ∧ 1 ≤ a ∧ a ≤ 4 ∧ 0 ≤ b ∧ b ≤ 4 := by
  obtain ⟨h, e⟩ := new_c xs k hk
  unfold spec_MakeLattice.f
  rw [e]; simp only [Option.bind_some]
  obtain ⟨r, i', h', e, r0, r1, i0, i1⟩ := below_c xs hl 0 h 16 (by omega) (by omega) (by omega) (by omega)
  change ∃ a b, (spec_l01Below.f xs 0 h (16 : Int)).bind _ = some (a, b) ∧ _
  rw [e]; simp only [Option.bind_some]
  rw [if_pos r0]
  refine ⟨_, _, if_pos (by exact r1), ?_⟩
  have : r = 0 ∨ r = 1 ∨ r = 2 ∨ r = 3 ∨ r = 4 ∨ r = 5 ∨ r = 6 ∨ r = 7 ∨ r = 8 ∨ r = 9 ∨ r = 10 ∨ r = 11 ∨ r = 12 ∨ r = 13 ∨ r = 14 ∨ r = 15 := by omega
  rcases this with rfl | rfl | rfl | rfl | rfl | rfl | rfl | rfl | rfl | rfl | rfl | rfl | rfl | rfl | rfl | rfl <;> decide
theorem small_ok {a b : Int} (h : 1 ≤ a ∧ a ≤ 4 ∧ 0 ≤ b ∧ b ≤ 4) : Ok a b := ⟨h.1, by omega, by omega, by omega⟩
theorem names_end {a b : Int} (ok : Ok a b) (d : Nat) : ∀ (k : Nat) (j : Int), 1 ≤ j → j ≤ row a b → row a b - j = d → d < k → laws_FnNames.l1 k (row a b) j a b = some true := by
  have hr := ok.row
  induction d with
  | zero =>
    intro k j h1 h2 hd hk
    obtain ⟨k, rfl⟩ : ∃ m, k = m + 1 := ⟨k - 1, by omega⟩
    rw [laws_FnNames.l1, if_neg (by omega)]
  | succ d ih =>
    intro k j h1 h2 hd hk
    obtain ⟨k, rfl⟩ : ∃ m, k = m + 1 := ⟨k - 1, by omega⟩
    rw [laws_FnNames.l1, if_pos (by omega), has_i]; simp only [Option.bind_some]
    rw [if_neg, w64 (by omega) (by omega)]; exact ih k (j + 1) (by omega) (by omega) (by omega) (by omega)
    rw [decide_eq_true_iff]
    rintro ⟨_, h⟩
    have := Int.le_of_dvd (by omega) ((hold_right ok.1 j).mp h); omega
theorem names_all {a b : Int} (ok : Ok a b) (d : Nat) : ∀ (k : Nat) (j : Int), 0 ≤ j → j ≤ ar a b → ar a b - j = d → d + 1000 < k → laws_FnNames.l0 k (ar a b) j a b = some true := by
  have hr := ok.row; have hn := ok.ar; have hg := ok.g
  induction d with
  | zero =>
    intro k j h1 h2 hd hk
    obtain ⟨k, rfl⟩ : ∃ m, k = m + 1 := ⟨k - 1, by omega⟩
    rw [laws_FnNames.l0, if_neg (by omega), pointOf_i a b _ k (by omega), period_i a b k (by omega)]
    have hc : ¬ (Ok a b ∧ 0 ≤ ar a b ∧ ar a b < ar a b) := by omega
    simp only [Option.bind_some, if_neg hc, Bool.false_eq_true, if_false, if_pos ok, has_i]
    have h0 : hold a b (row a b) 0 := (hold_right ok.1 _).mpr (Int.dvd_refl _)
    have h0' : hold a b 0 (row a b) := by have := hold_turn h0; simpa using this
    have hle : row a b ≤ ar a b := by
      have h1 := row_mul (a := a) (b := b)
      have h4 : 1 * row a b ≤ g a b * row a b := Int.mul_le_mul_of_nonneg_right hg.1 (by omega)
      omega
    rw [if_neg (by omega), if_neg (by omega), if_pos (decide_eq_true ⟨ok, h0⟩), decide_eq_true (show Ok a b ∧ hold a b 0 (row a b) from ⟨ok, h0'⟩)]
    obtain ⟨k, rfl⟩ : ∃ m, k = m + 1 := ⟨k - 1, by omega⟩
    rw [laws_FnNames.j1, if_neg (by decide)]
    exact names_end ok (row a b - 1).toNat k 1 (by omega) (by omega) (by omega) (by omega)
  | succ d ih =>
    intro k j h1 h2 hd hk
    obtain ⟨k, rfl⟩ : ∃ m, k = m + 1 := ⟨k - 1, by omega⟩
    have hc : Ok a b ∧ 0 ≤ j ∧ j < ar a b := ⟨ok, by omega, by omega⟩
    have hu := name_parts (b := b) ok.1 h1 hc.2.2
    rw [laws_FnNames.l0, if_pos (by omega), pointOf_i a b _ k (by omega)]
    simp only [Option.bind_some, if_pos hc, if_true]
    rw [nameOf_i a b _ _ k (by omega), if_pos ⟨ok, by omega, by omega⟩, nm_unique ok.1 ok.2.2.1 h1 hc.2.2 (by rw [Int.sub_self, Int.sub_self]; exact ⟨⟨0, by simp⟩, ⟨0, by simp⟩⟩)]
    simp only [Option.bind_some, if_true]
    rw [w64 (by omega) (by omega)]
    exact ih k (j + 1) (by omega) (by omega) (by omega) (by omega)
theorem pure_FnNames : laws_FnNames.Pure := by
  intro xs _ hl hw
  refine ⟨5000, ?_⟩
  unfold laws_FnNames.f
  split; rfl
  obtain ⟨a, b, e, hs⟩ := make_lattice xs (by omega) 5000 (by omega)
  have ok := small_ok hs
  have hn := ok.ar; have := ok.sq
  rw [e]; simp only [Option.bind_some, areaOf_i, if_pos ok]
  rw [w64 (x := a * a) (by omega) (by omega), w64 (x := b * b) (by omega) (by omega), w64 (by omega) (by omega), if_pos (show ar a b = a * a + b * b from rfl)]
  exact names_all ok (ar a b).toNat 5000 0 (by omega) (by omega) (by omega) (by omega)
end Go.Proofs.Ytabciloabpmklaa.PFnNames
