/- What the functions that laws.FnExactPointOf reaches compute, and that the law is true: over numbers alone. -/
import Derived.Test.YtabciloabpmklaaPFnExactPointOfx
import Derived.Test.YtabciloabpmklaaLat
namespace Go.Proofs.Ytabciloabpmklaa.PFnExactPointOf
open Go.RowKit
set_option linter.unusedVariables false
set_option linter.unusedSimpArgs false
open Lat
theorem w64 {x : Int} (h1 : -9223372036854775808 ≤ x) (h2 : x ≤ 9223372036854775807) : wrap64 x = x := by unfold wrap64; omega
/-- a valid lattice -/
def Ok (a b : Int) : Prop := 1 ≤ a ∧ a ≤ 12 ∧ 0 ≤ b ∧ b ≤ 12
instance (a b : Int) : Decidable (Ok a b) := inferInstanceAs (Decidable (_ ∧ _))
theorem mul_bd {x y c d : Int} (h0 : 0 ≤ x) (h1 : x ≤ c) (k0 : 0 ≤ y) (k1 : y ≤ d) : 0 ≤ x * y ∧ x * y ≤ c * d := by
  refine ⟨Int.mul_nonneg h0 k0, ?_⟩
  exact Int.le_trans (Int.mul_le_mul_of_nonneg_right h1 k0) (Int.mul_le_mul_of_nonneg_left k1 (by omega))
theorem mul_bd' {x y c d : Int} (h0 : -c ≤ x) (h1 : x ≤ c) (k0 : 0 ≤ y) (k1 : y ≤ d) : -(c * d) ≤ x * y ∧ x * y ≤ c * d := by
  have hc : 0 ≤ c := by omega
  have e1 : x * y ≤ c * y := Int.mul_le_mul_of_nonneg_right h1 k0
  have e2 : (-c) * y ≤ x * y := Int.mul_le_mul_of_nonneg_right h0 k0
  have e3 : c * y ≤ c * d := Int.mul_le_mul_of_nonneg_left k1 hc
  rw [Int.neg_mul] at e2
  omega
theorem Ok.sq {a b : Int} (h : Ok a b) : a * a ≤ 144 ∧ b * b ≤ 144 ∧ 0 ≤ b * b ∧ 1 ≤ a * a := by
  obtain ⟨h1, h2, h3, h4⟩ := h
  have k1 := mul_bd (c := 12) (d := 12) (show 0 ≤ a by omega) h2 (show 0 ≤ a by omega) h2
  have k2 := mul_bd (c := 12) (d := 12) h3 h4 h3 h4
  have k3 : 0 < a * a := Int.mul_pos (by omega) (by omega)
  omega
theorem Ok.ar {a b : Int} (h : Ok a b) : 1 ≤ ar a b ∧ ar a b ≤ 288 := by
  have := h.sq; unfold Lat.ar; omega
theorem Ok.g {a b : Int} (h : Ok a b) : 1 ≤ Lat.g a b ∧ Lat.g a b ≤ 12 := by
  refine ⟨g_pos h.1, ?_⟩
  have h1 : Lat.g a b ∣ a := Int.gcd_dvd_left ..
  have := Int.le_of_dvd (by have := h.1; omega) h1
  have := h.2.1; omega
theorem Ok.row {a b : Int} (h : Ok a b) : 1 ≤ Lat.row a b ∧ Lat.row a b ≤ 288 := by
  refine ⟨row_pos h.1, ?_⟩
  have h1 := row_mul (a := a) (b := b)
  have h2 := h.ar
  have h3 := h.g
  have h4 : 1 * Lat.row a b ≤ Lat.g a b * Lat.row a b := Int.mul_le_mul_of_nonneg_right h3.1 (by have := row_pos (b := b) h.1; omega)
  omega
theorem dec_ff {p : Prop} [Decidable p] (h : ¬ p) : some false = some (decide p) := by rw [decide_eq_false h]
theorem dec_dd {p q : Prop} [Decidable p] [Decidable q] (h : p ↔ q) : some (decide p) = some (decide q) := by rw [decide_eq_decide.mpr h]
theorem tmod_dvd {n x : Int} : Int.tmod x n = 0 ↔ n ∣ x := Int.dvd_iff_tmod_eq_zero.symm
theorem tmod_pos {n x : Int} (h : 0 ≤ x) : Int.tmod x n = x % n := Int.tmod_eq_emod_of_nonneg h
theorem tdiv_pos {n x : Int} (h : 0 ≤ x) : Int.tdiv x n = x / n := Int.tdiv_eq_ediv_of_nonneg h
theorem tmod_lo {n x : Int} (h : 0 < n) : -n < Int.tmod x n ∧ Int.tmod x n < n := by
  have h1 := Int.lt_tmod_of_pos x h; have h2 := Int.tmod_lt_of_pos x h; omega
theorem div_bd {x n c : Int} (hn : 1 ≤ n) (h1 : -c ≤ x) (h2 : x ≤ c) (hc : 0 ≤ c) : -c ≤ x / n ∧ x / n ≤ c := by
  have : c * 1 ≤ c * n := Int.mul_le_mul_of_nonneg_left hn hc
  constructor
  · apply Int.le_ediv_of_mul_le (by omega); rw [Int.neg_mul]; omega
  · apply Int.ediv_le_of_le_mul (by omega); omega
theorem l1In (x a b : Int) : spec_l1In.f x a b = some (decide (a ≤ x ∧ x ≤ b)) := by
  unfold spec_l1In.f
  split
  all_goals first | exact dec_dd (by omega) | exact dec_ff (by omega)
theorem isLattice_s (a b : Int) : spec_IsLattice.f a b = some (decide (Ok a b)) := by
  unfold spec_IsLattice.f
  simp only [l1In, Option.bind_some]
  split
  all_goals (rename_i h; simp only [decide_eq_true_iff] at h; first | exact dec_dd (by unfold Ok; omega) | exact dec_ff (by unfold Ok; omega))
theorem area_s {a b : Int} (h : Ok a b) : spec_l5Area.f a b = some (ar a b) := by
  have := h.sq
  unfold spec_l5Area.f
  rw [w64 (x := a * a) (by omega) (by omega), w64 (x := b * b) (by omega) (by omega), w64 (by omega) (by omega)]; rfl
theorem gcd_s (k : Nat) : ∀ (a b : Int), 0 ≤ a → 0 ≤ b → b.toNat < k → spec_l4Gcd.l0 k a b = some (g a b) := by
  induction k with
  | zero => intro a b _ _ h; omega
  | succ k ih =>
    intro a b ha hb hk
    simp only [spec_l4Gcd.l0]
    by_cases h : b = 0
    · rw [if_pos h]; subst h; unfold g; rw [Int.gcd_zero]; simp only [Option.some.injEq]; omega
    · rw [if_neg h, tmod_pos ha]
      have h1 := Int.emod_nonneg a h; have h2 := Int.emod_lt_of_pos a (show 0 < b by omega)
      rw [ih b (a % b) hb h1 (by omega)]
      unfold g; simp only [Option.some.injEq]; unfold Int.gcd; rw [Int.natAbs_emod_of_nonneg ha, Nat.gcd_comm, ← Nat.gcd_rec, Nat.gcd_comm]
theorem sides_s {a b : Int} (h : Ok a b) (k : Nat) (hk : 13 ≤ k) : spec_l5Sides.f k a b = some (row a b, g a b) := by
  unfold spec_l5Sides.f spec_l4Gcd.f
  have hg := h.g; have hr := h.row; have hn := h.ar
  rw [area_s h]
  have := h.2.2
  rw [gcd_s k a b (by have := h.1; omega) this.1 (by omega)]; simp only [Option.bind_some]
  rw [if_neg (by omega), tdiv_pos (by omega)]
  have e : ar a b / g a b = row a b := rfl
  rw [e, w64 (by omega) (by omega)]
theorem pointOf_s (a b n : Int) (k : Nat) (hk : 14 ≤ k) : spec_PointOf.f k a b n = some (if Ok a b ∧ 0 ≤ n ∧ n < ar a b then (n % row a b, n / row a b, true) else (0, 0, false)) := by
  unfold spec_PointOf.f
  rw [isLattice_s]; simp only [Option.bind_some]
  by_cases h : Ok a b
  · have hr := h.row; have hn := h.ar
    rw [area_s h, if_pos (by simp [h])]; simp only [Option.bind_some, l1In]
    rw [w64 (by omega) (by omega)]
    by_cases h1 : 0 ≤ n ∧ n ≤ ar a b - 1
    · rw [if_pos (by simp; omega), sides_s h k (by omega), if_pos (by refine ⟨h, ?_⟩; omega)]; simp only [Option.bind_some]
      have hne : ¬ row a b = 0 := by omega
      simp only [if_neg hne]
      rw [tmod_pos (by omega), tdiv_pos (by omega), w64]
      · have := Int.ediv_nonneg (show 0 ≤ n by omega) (show 0 ≤ row a b by omega); omega
      · have := Int.ediv_le_self (row a b) (show 0 ≤ n by omega); omega
    · rw [if_neg (by simp; omega), if_neg (by omega)]
  · simp [h]
theorem isLattice_i (a b : Int) : impl_IsLattice.f a b = some (decide (Ok a b)) := by
  unfold impl_IsLattice.f
  repeat' split
  all_goals first | exact dec_dd (by unfold Ok; omega) | exact dec_ff (by unfold Ok; omega)
theorem area_i {a b : Int} (h : Ok a b) : impl_area.f a b = some (ar a b) := by
  have := h.sq
  unfold impl_area.f
  rw [w64 (x := a * a) (by omega) (by omega), w64 (x := b * b) (by omega) (by omega), w64 (by omega) (by omega)]; rfl
theorem gcd_i (k : Nat) : ∀ (a b : Int), 0 ≤ a → 0 ≤ b → b.toNat < k → impl_gcd.l0 k a b = some (g a b) := by
  induction k with
  | zero => intro a b _ _ h; omega
  | succ k ih =>
    intro a b ha hb hk
    simp only [impl_gcd.l0]
    by_cases h : b = 0
    · rw [if_pos h]; subst h; unfold g; rw [Int.gcd_zero]; simp only [Option.some.injEq]; omega
    · rw [if_neg h, tmod_pos ha]
      have h1 := Int.emod_nonneg a h; have h2 := Int.emod_lt_of_pos a (show 0 < b by omega)
      rw [ih b (a % b) hb h1 (by omega)]
      unfold g; simp only [Option.some.injEq]; unfold Int.gcd; rw [Int.natAbs_emod_of_nonneg ha, Nat.gcd_comm, ← Nat.gcd_rec, Nat.gcd_comm]
theorem row_i {a b : Int} (h : Ok a b) (k : Nat) (hk : 13 ≤ k) : impl_row.f k a b = some (row a b) := by
  unfold impl_row.f impl_gcd.f
  have hg := h.g; have hr := h.row; have hn := h.ar
  rw [area_i h]; simp only [Option.bind_some]
  have := h.2.2
  rw [gcd_i k a b (by have := h.1; omega) this.1 (by omega)]; simp only [Option.bind_some]
  rw [if_neg (by omega), tdiv_pos (by omega)]
  have e : ar a b / g a b = row a b := rfl
  rw [e, w64 (by omega) (by omega)]
theorem pointOf_i (a b n : Int) (k : Nat) (hk : 14 ≤ k) : impl_PointOf.f k a b n = some (if Ok a b ∧ 0 ≤ n ∧ n < ar a b then (n % row a b, n / row a b, true) else (0, 0, false)) := by
  obtain ⟨k, rfl⟩ : ∃ m, k = m + 1 := ⟨k - 1, by omega⟩
  unfold impl_PointOf.f
  rw [isLattice_i]; simp only [Option.bind_some]
  by_cases h : Ok a b
  · have hr := h.row; have hn := h.ar
    by_cases h0 : n < 0
    · simp only [h, decide_true, if_true, h0, impl_PointOf.j0]; rw [if_neg (by omega)]
    · rw [area_i h]
      simp only [h, decide_true, if_true, h0, impl_PointOf.j0, if_false, Option.bind_some, decide_eq_true_eq]
      by_cases h1 : n ≥ ar a b
      · rw [if_pos h1, if_neg (by omega)]
      · rw [if_neg h1, if_pos (by simp; omega), row_i h k (by omega)]; simp only [Option.bind_some]
        have hne : ¬ row a b = 0 := by omega
        simp only [if_neg hne]
        rw [tmod_pos (by omega), tdiv_pos (by omega), w64]
        · have := Int.ediv_nonneg (show 0 ≤ n by omega) (show 0 ≤ row a b by omega); omega
        · have := Int.ediv_le_self (row a b) (show 0 ≤ n by omega); omega
  · simp [h, impl_PointOf.j0]
theorem pure_FnExactPointOf (a b x : Int) : laws_FnExactPointOf.f 14 a b x = some true := by
  unfold laws_FnExactPointOf.f laws_toLattice.f
  simp [pointOf_i, pointOf_s]
end Go.Proofs.Ytabciloabpmklaa.PFnExactPointOf
