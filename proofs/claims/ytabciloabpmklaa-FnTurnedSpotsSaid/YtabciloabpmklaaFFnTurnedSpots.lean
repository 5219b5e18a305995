/- What the functions that laws.FnTurnedSpots reaches compute, and that the law is true: over numbers alone. -/
import Derived.Test.YtabciloabpmklaaPFnTurnedSpotsx
import Derived.Test.YtabciloabpmklaaLat
namespace Go.Proofs.Ytabciloabpmklaa.PFnTurnedSpots
open Go.RowKit Go.Proofs.YtabciloabpmklaaW.PrintWords
set_option linter.unusedVariables false
set_option linter.unusedSimpArgs false
open Lat
theorem w64 {x : Int} (h1 : -9223372036854775808 ≤ x) (h2 : x ≤ 9223372036854775807) : wrap64 x = x := by unfold wrap64; omega
/-- a valid lattice -/
def Ok (a b : Int) : Prop := 1 ≤ a ∧ a ≤ 12 ∧ 0 ≤ b ∧ b ≤ 12
instance (a b : Int) : Decidable (Ok a b) := inferInstanceAs (Decidable (_ ∧ _))
theorem mul_bd {x y c d : Int} (h0 : 0 ≤ x) (h1 : x ≤ c) (k0 : 0 ≤ y) (k1 : y ≤ d) : 0 ≤ x * y ∧ x * y ≤ c * d := by
  refine ⟨Int.mul_nonneg h0 k0, ?_⟩
  exact Int.le_trans (Int.mul_le_mul_of_nonneg_right h1 k0) (Int.mul_le_mul_of_nonneg_left k1 (by omega))
theorem mul_bd' {x y c d : Int} (h0 : -c ≤ x) (h1 : x ≤ c) (k0 : 0 ≤ y) (k1 : y ≤ d) : -(c * d) ≤ x * y ∧ x * y ≤ c * d := by
  have hc : 0 ≤ c := by omega
  have e1 : x * y ≤ c * y := Int.mul_le_mul_of_nonneg_right h1 k0
  have e2 : (-c) * y ≤ x * y := Int.mul_le_mul_of_nonneg_right h0 k0
  have e3 : c * y ≤ c * d := Int.mul_le_mul_of_nonneg_left k1 hc
  rw [Int.neg_mul] at e2
  omega
theorem Ok.sq {a b : Int} (h : Ok a b) : a * a ≤ 144 ∧ b * b ≤ 144 ∧ 0 ≤ b * b ∧ 1 ≤ a * a := by
  obtain ⟨h1, h2, h3, h4⟩ := h
  have k1 := mul_bd (c := 12) (d := 12) (show 0 ≤ a by omega) h2 (show 0 ≤ a by omega) h2
  have k2 := mul_bd (c := 12) (d := 12) h3 h4 h3 h4
  have k3 : 0 < a * a := Int.mul_pos (by omega) (by omega)
  omega
theorem Ok.ar {a b : Int} (h : Ok a b) : 1 ≤ ar a b ∧ ar a b ≤ 288 := by
  have := h.sq; unfold Lat.ar; omega
theorem Ok.g {a b : Int} (h : Ok a b) : 1 ≤ Lat.g a b ∧ Lat.g a b ≤ 12 := by
  refine ⟨g_pos h.1, ?_⟩
  have h1 : Lat.g a b ∣ a := Int.gcd_dvd_left ..
  have := Int.le_of_dvd (by have := h.1; omega) h1
  have := h.2.1; omega
theorem Ok.row {a b : Int} (h : Ok a b) : 1 ≤ Lat.row a b ∧ Lat.row a b ≤ 288 := by
  refine ⟨row_pos h.1, ?_⟩
  have h1 := row_mul (a := a) (b := b)
  have h2 := h.ar
  have h3 := h.g
  have h4 : 1 * Lat.row a b ≤ Lat.g a b * Lat.row a b := Int.mul_le_mul_of_nonneg_right h3.1 (by have := row_pos (b := b) h.1; omega)
  omega
theorem dec_ff {p : Prop} [Decidable p] (h : ¬ p) : some false = some (decide p) := by rw [decide_eq_false h]
theorem dec_dd {p q : Prop} [Decidable p] [Decidable q] (h : p ↔ q) : some (decide p) = some (decide q) := by rw [decide_eq_decide.mpr h]
theorem tmod_dvd {n x : Int} : Int.tmod x n = 0 ↔ n ∣ x := Int.dvd_iff_tmod_eq_zero.symm
theorem tmod_pos {n x : Int} (h : 0 ≤ x) : Int.tmod x n = x % n := Int.tmod_eq_emod_of_nonneg h
theorem tdiv_pos {n x : Int} (h : 0 ≤ x) : Int.tdiv x n = x / n := Int.tdiv_eq_ediv_of_nonneg h
theorem tmod_lo {n x : Int} (h : 0 < n) : -n < Int.tmod x n ∧ Int.tmod x n < n := by
  have h1 := Int.lt_tmod_of_pos x h; have h2 := Int.tmod_lt_of_pos x h; omega
theorem div_bd {x n c : Int} (hn : 1 ≤ n) (h1 : -c ≤ x) (h2 : x ≤ c) (hc : 0 ≤ c) : -c ≤ x / n ∧ x / n ≤ c := by
  have : c * 1 ≤ c * n := Int.mul_le_mul_of_nonneg_left hn hc
  constructor
  · apply Int.le_ediv_of_mul_le (by omega); rw [Int.neg_mul]; omega
  · apply Int.ediv_le_of_le_mul (by omega); omega
theorem l1In (x a b : Int) : spec_l1In.f x a b = some (decide (a ≤ x ∧ x ≤ b)) := by
  unfold spec_l1In.f
  split
  all_goals first | exact dec_dd (by omega) | exact dec_ff (by omega)
theorem isLattice_s (a b : Int) : spec_IsLattice.f a b = some (decide (Ok a b)) := by
  unfold spec_IsLattice.f
  simp only [l1In, Option.bind_some]
  split
  all_goals (rename_i h; simp only [decide_eq_true_iff] at h; first | exact dec_dd (by unfold Ok; omega) | exact dec_ff (by unfold Ok; omega))
theorem area_s {a b : Int} (h : Ok a b) : spec_l5Area.f a b = some (ar a b) := by
  have := h.sq
  unfold spec_l5Area.f
  rw [w64 (x := a * a) (by omega) (by omega), w64 (x := b * b) (by omega) (by omega), w64 (by omega) (by omega)]; rfl
theorem areaOf_s (a b : Int) : spec_AreaOf.f a b = some (if Ok a b then ar a b else 0) := by
  unfold spec_AreaOf.f
  rw [isLattice_s]; simp only [Option.bind_some]
  by_cases h : Ok a b
  · rw [area_s h]; simp [h]
  · simp [h]
theorem and255 (n : Int) : Go.bits .and .i64 n 255 = n % 256 := by
  have h255 : (BitVec.ofInt 64 255).toNat = 2 ^ 8 - 1 := by decide
  have key : (BitVec.ofInt 64 n &&& BitVec.ofInt 64 255).toNat = (n % ((2 ^ 64 : Nat) : Int)).toNat % 2 ^ 8 := by
    rw [BitVec.toNat_and, BitVec.toNat_ofInt, h255, Nat.and_two_pow_sub_one_eq_mod]
  show IntKind.i64.wrap ((BitVec.ofInt 64 n &&& BitVec.ofInt 64 255).toNat : Nat) = n % 256
  rw [key, IntKind.wrap_i64]
  omega
theorem newl_c (xs : List Int) (d : Nat) : ∀ (k : Nat) (h i : Int), 0 ≤ i → i ≤ 4000 → 4000 - i = d → d < k → ∃ h', spec_l01New.l0 k xs h i = some (xs, 0, h') := by
  induction d with
  | zero =>
    intro k h i h0 h1 hd hk
    obtain ⟨k, rfl⟩ : ∃ m, k = m + 1 := ⟨k - 1, by omega⟩
    simp only [spec_l01New.l0]
    have : ¬ i < 4000 := by omega
    simp only [if_neg this]
    split <;> exact ⟨_, rfl⟩
  | succ d ih =>
    intro k h i h0 h1 hd hk
    obtain ⟨k, rfl⟩ : ∃ m, k = m + 1 := ⟨k - 1, by omega⟩
    rw [spec_l01New.l0]
    by_cases hlt : i < (xs.length : Int)
    · rw [if_pos hlt, if_pos (by omega), if_pos h0, w64 (x := i + 1) (by omega) (by omega)]
      exact ih k _ (i + 1) (by omega) (by omega) (by omega) (by omega)
    · rw [if_neg hlt]; exact ⟨_, rfl⟩
theorem new_c (xs : List Int) (k : Nat) (hk : 4001 ≤ k) : ∃ h, spec_l01New.f k xs = some (xs, 0, h) :=
  newl_c xs 4000 k _ 0 (by omega) (by omega) (by omega) (by omega)
theorem byte_c (xs : List Int) (hl : xs.length ≤ 140737488351232) (i h : Int) (h0 : 0 ≤ i) (h1 : i ≤ xs.length) : ∃ r i' h', spec_l01Byte.f xs i h = some (r, i', h') ∧ 0 ≤ r ∧ r ≤ 255 ∧ 0 ≤ i' ∧ i' ≤ xs.length := by
  unfold spec_l01Byte.f
  simp only [and255]
  by_cases hlt : i < (xs.length : Int)
  · rw [if_pos hlt, if_pos h0, w64 (x := i + 1) (by omega) (by omega)]
    exact ⟨_, _, _, rfl, Int.emod_nonneg _ (by omega), by have := Int.emod_lt_of_pos (wrap64 ((wrap64 ((Go.bits .xor .i64 ((wrap64 ((wrap64 (h * 6364136223846793005)) + 1442695040888963407)) / 8589934592) ((wrap64 ((wrap64 (h * 6364136223846793005)) + 1442695040888963407)) / 35184372088832)) % 256)) + wrap64 (rd xs i))) (show (0 : Int) < 256 by omega); omega, by omega, by omega⟩
  · rw [if_neg hlt]
    exact ⟨_, _, _, rfl, Int.emod_nonneg _ (by omega), by have := Int.emod_lt_of_pos (Go.bits .xor .i64 ((wrap64 ((wrap64 (h * 6364136223846793005)) + 1442695040888963407)) / 8589934592) ((wrap64 ((wrap64 (h * 6364136223846793005)) + 1442695040888963407)) / 35184372088832)) (show (0 : Int) < 256 by omega); omega, h0, h1⟩
theorem below_c (xs : List Int) (hl : xs.length ≤ 140737488351232) (i h n : Int) (h0 : 0 ≤ i) (h1 : i ≤ xs.length) (hn : 1 ≤ n) (hn2 : n ≤ 256) : ∃ r i' h', spec_l01Below.f xs i h n = some (r, i', h') ∧ 0 ≤ r ∧ r < n ∧ 0 ≤ i' ∧ i' ≤ xs.length := by
  unfold spec_l01Below.f
  rw [if_neg (by omega), if_pos hn2]
  obtain ⟨r, i', h', e, r0, r1, i0, i1⟩ := byte_c xs hl i h h0 h1
  rw [e]; simp only [Option.bind_some]
  rw [if_neg (by omega)]
  have := Int.emod_nonneg r (show n ≠ 0 by omega); have := Int.emod_lt_of_pos r (show 0 < n by omega)
  refine ⟨_, _, _, rfl, ?_, ?_, i0, i1⟩ <;> rw [tmod_pos r0] <;> omega
theorem make_lattice (xs : List Int) (hl : xs.length ≤ 140737488351232) (k : Nat) (hk : 4001 ≤ k) : ∃ a b, spec_MakeLattice.f k xs = some (a, b) ∧ 1 ≤ a ∧ a ≤ 4 ∧ 0 ≤ b ∧ b ≤ 4 := by
  obtain ⟨h, e⟩ := new_c xs k hk
  unfold spec_MakeLattice.f
  rw [e]; simp only [Option.bind_some]
  obtain ⟨r, i', h', e, r0, r1, i0, i1⟩ := below_c xs hl 0 h 16 (by omega) (by omega) (by omega) (by omega)
  change ∃ a b, (spec_l01Below.f xs 0 h (16 : Int)).bind _ = some (a, b) ∧ _
  rw [e]; simp only [Option.bind_some]
  rw [if_pos r0]
  refine ⟨_, _, if_pos (by exact r1), ?_⟩
  have : r = 0 ∨ r = 1 ∨ r = 2 ∨ r = 3 ∨ r = 4 ∨ r = 5 ∨ r = 6 ∨ r = 7 ∨ r = 8 ∨ r = 9 ∨ r = 10 ∨ r = 11 ∨ r = 12 ∨ r = 13 ∨ r = 14 ∨ r = 15 := by omega
  rcases this with rfl | rfl | rfl | rfl | rfl | rfl | rfl | rfl | rfl | rfl | rfl | rfl | rfl | rfl | rfl | rfl <;> decide
theorem small_ok {a b : Int} (h : 1 ≤ a ∧ a ≤ 4 ∧ 0 ≤ b ∧ b ≤ 4) : Ok a b := ⟨h.1, by omega, by omega, by omega⟩
theorem at_c (xs : List Int) (hl : xs.length ≤ 140737488351232) (hw : ∀ x ∈ xs, (Lit.int .u8 x).wf = true) (i : Int) (h0 : 0 ≤ i) (h1 : i ≤ 1000) : ∃ v, laws_at.f xs i = some v ∧ 0 ≤ v ∧ v ≤ 255 := by
  unfold laws_at.f
  by_cases hlt : i < (xs.length : Int)
  · rw [if_pos hlt, if_pos h0]
    have hm : rd xs i ∈ xs := by
      have : i.toNat < xs.length := by omega
      unfold rd; rw [List.getD_eq_getElem?_getD, List.getElem?_eq_getElem this, Option.getD_some]; exact List.getElem_mem this
    have hb : 0 ≤ rd xs i ∧ rd xs i ≤ 255 := by
      have h := hw _ hm
      simp only [Lit.wf, Bool.and_eq_true, decide_eq_true_eq] at h
      exact h
    exact ⟨_, rfl, by rw [w64 (by omega) (by omega)]; exact hb.1, by rw [w64 (by omega) (by omega)]; exact hb.2⟩
  · rw [if_neg hlt]
    refine ⟨_, rfl, ?_⟩
    rw [w64 (x := i * 37) (by omega) (by omega), w64 (x := _ * 11) (by omega) (by omega), w64 (by omega) (by omega), tmod_pos (by omega)]
    omega
theorem isLattice_i (a b : Int) : impl_IsLattice.f a b = some (decide (Ok a b)) := by
  unfold impl_IsLattice.f
  repeat' split
  all_goals first | exact dec_dd (by unfold Ok; omega) | exact dec_ff (by unfold Ok; omega)
theorem area_i {a b : Int} (h : Ok a b) : impl_area.f a b = some (ar a b) := by
  have := h.sq
  unfold impl_area.f
  rw [w64 (x := a * a) (by omega) (by omega), w64 (x := b * b) (by omega) (by omega), w64 (by omega) (by omega)]; rfl
theorem gcd_i (k : Nat) : ∀ (a b : Int), 0 ≤ a → 0 ≤ b → b.toNat < k → impl_gcd.l0 k a b = some (g a b) := by
  induction k with
  | zero => intro a b _ _ h; omega
  | succ k ih =>
    intro a b ha hb hk
    simp only [impl_gcd.l0]
    by_cases h : b = 0
    · rw [if_pos h]; subst h; unfold g; rw [Int.gcd_zero]; simp only [Option.some.injEq]; omega
    · rw [if_neg h, tmod_pos ha]
      have h1 := Int.emod_nonneg a h; have h2 := Int.emod_lt_of_pos a (show 0 < b by omega)
      rw [ih b (a % b) hb h1 (by omega)]
      unfold g; simp only [Option.some.injEq]; unfold Int.gcd; rw [Int.natAbs_emod_of_nonneg ha, Nat.gcd_comm, ← Nat.gcd_rec, Nat.gcd_comm]
theorem row_i {a b : Int} (h : Ok a b) (k : Nat) (hk : 13 ≤ k) : impl_row.f k a b = some (row a b) := by
  unfold impl_row.f impl_gcd.f
  have hg := h.g; have hr := h.row; have hn := h.ar
  rw [area_i h]; simp only [Option.bind_some]
  have := h.2.2
  rw [gcd_i k a b (by have := h.1; omega) this.1 (by omega)]; simp only [Option.bind_some]
  rw [if_neg (by omega), tdiv_pos (by omega)]
  have e : ar a b / g a b = row a b := rfl
  rw [e, w64 (by omega) (by omega)]
theorem pointOf_i (a b n : Int) (k : Nat) (hk : 14 ≤ k) : impl_PointOf.f k a b n = some (if Ok a b ∧ 0 ≤ n ∧ n < ar a b then (n % row a b, n / row a b, true) else (0, 0, false)) := by
  obtain ⟨k, rfl⟩ : ∃ m, k = m + 1 := ⟨k - 1, by omega⟩
  unfold impl_PointOf.f
  rw [isLattice_i]; simp only [Option.bind_some]
  by_cases h : Ok a b
  · have hr := h.row; have hn := h.ar
    by_cases h0 : n < 0
    · simp only [h, decide_true, if_true, h0, impl_PointOf.j0]; rw [if_neg (by omega)]
    · rw [area_i h]
      simp only [h, decide_true, if_true, h0, impl_PointOf.j0, if_false, Option.bind_some, decide_eq_true_eq]
      by_cases h1 : n ≥ ar a b
      · rw [if_pos h1, if_neg (by omega)]
      · rw [if_neg h1, if_pos (by simp; omega), row_i h k (by omega)]; simp only [Option.bind_some]
        have hne : ¬ row a b = 0 := by omega
        simp only [if_neg hne]
        rw [tmod_pos (by omega), tdiv_pos (by omega), w64]
        · have := Int.ediv_nonneg (show 0 ≤ n by omega) (show 0 ≤ row a b by omega); omega
        · have := Int.ediv_le_self (row a b) (show 0 ≤ n by omega); omega
  · simp [h, impl_PointOf.j0]
theorem mod_i {x n : Int} (h0 : 0 < n) (h1 : n ≤ 9223372036854775807) : impl_mod.f x n = some (x % n) := by
  unfold impl_mod.f
  rw [if_neg (by omega)]
  have h2 := Int.emod_nonneg x (show n ≠ 0 by omega)
  have h3 := Int.emod_lt_of_pos x h0
  have e := Int.tmod_eq_emod (a := x) (b := n)
  by_cases hc : 0 ≤ x ∨ n ∣ x
  · rw [if_pos hc] at e
    rw [e, if_neg (by omega)]; simp
  · rw [if_neg hc] at e
    rw [e, if_pos (by omega), w64 (by omega) (by omega)]; simp only [Option.some.injEq]; omega
theorem down_i {x n : Int} (h0 : 0 < n) (h1 : n ≤ 1000000) (hx : -1000000000 ≤ x ∧ x ≤ 1000000000) : impl_down.f x n = some (x / n) := by
  unfold impl_down.f
  rw [mod_i h0 (by omega)]; simp only [Option.bind_some]
  have h2 := Int.emod_nonneg x (show n ≠ 0 by omega)
  have h3 := Int.emod_lt_of_pos x h0
  have e := Int.mul_ediv_add_emod x n
  rw [if_neg (by omega), w64 (x := x - x % n) (by omega) (by omega), show x - x % n = n * (x / n) by omega, Int.mul_tdiv_cancel_left _ (by omega)]
  have e1 : x / n ≤ 1000000000 := by
    apply Int.ediv_le_of_le_mul h0; have : 1000000000 * 1 ≤ 1000000000 * n := Int.mul_le_mul_of_nonneg_left (by omega) (by omega); omega
  have e2 : -1000000000 ≤ x / n := by
    apply Int.le_ediv_of_mul_le h0; have : 1000000000 * 1 ≤ 1000000000 * n := Int.mul_le_mul_of_nonneg_left (by omega) (by omega); omega
  rw [w64 (by omega) (by omega)]
/-- numbers of a name's point, and of a point near it -/
theorem val_w {a b u v p q : Int} (h : Ok a b) (hu : 0 ≤ u ∧ u ≤ 288) (hv : 0 ≤ v ∧ v ≤ 288) (hp : -5000 ≤ p ∧ p ≤ 5000) (hq : -5000 ≤ q ∧ q ≤ 5000) :
    wrap64 ((wrap64 ((wrap64 (u - (wrap64 ((wrap64 (p * a)) - (wrap64 (q * b)))))) * (wrap64 (u - (wrap64 ((wrap64 (p * a)) - (wrap64 (q * b)))))))) + (wrap64 ((wrap64 (v - (wrap64 ((wrap64 (p * b)) + (wrap64 (q * a)))))) * (wrap64 (v - (wrap64 ((wrap64 (p * b)) + (wrap64 (q * a)))))))))
      = val a b u v p q := by
  obtain ⟨h1, h2, h3, h4⟩ := h
  have m1 := mul_bd' hp.1 hp.2 (show 0 ≤ a by omega) h2
  have m2 := mul_bd' hp.1 hp.2 h3 h4
  have m3 := mul_bd' hq.1 hq.2 (show 0 ≤ a by omega) h2
  have m4 := mul_bd' hq.1 hq.2 h3 h4
  rw [w64 (x := p * a) (by omega) (by omega), w64 (x := p * b) (by omega) (by omega), w64 (x := q * a) (by omega) (by omega), w64 (x := q * b) (by omega) (by omega), w64 (x := p * a - q * b) (by omega) (by omega), w64 (x := p * b + q * a) (by omega) (by omega), w64 (x := u - _) (by omega) (by omega), w64 (x := v - _) (by omega) (by omega)]
  have s1 := sq_le_sq (x := (if 0 ≤ u - (p * a - q * b) then u - (p * a - q * b) else -(u - (p * a - q * b)))) (y := 200000) (by split <;> omega) (by split <;> omega)
  have s2 := sq_le_sq (x := (if 0 ≤ v - (p * b + q * a) then v - (p * b + q * a) else -(v - (p * b + q * a)))) (y := 200000) (by split <;> omega) (by split <;> omega)
  have e1 : ∀ x : Int, (if 0 ≤ x then x else -x) * (if 0 ≤ x then x else -x) = x * x := by intro x; split; rfl; exact Int.neg_mul_neg ..
  rw [e1] at s1 s2
  have n1 := sq_nonneg (u - (p * a - q * b)); have n2 := sq_nonneg (v - (p * b + q * a))
  rw [w64 (x := _ * _) (by omega) (by omega), w64 (x := _ * _) (by omega) (by omega), w64 (by omega) (by omega)]; rfl
def rowVals (a b u v p : Int) : Nat → Int → List Int
  | 0, _ => []
  | d + 1, q => val a b u v p q :: rowVals a b u v p d (q + 1)
def allVals (a b u v j : Int) : Nat → Int → List Int
  | 0, _ => []
  | d + 1, p => rowVals a b u v p 6 (j - 2) ++ allVals a b u v j d (p + 1)
theorem rowVals_in {a b u v p s : Int} : ∀ (d : Nat) (q : Int), s ∈ rowVals a b u v p d q → ∃ p q, s = val a b u v p q
  | 0, _, h => by simp [rowVals] at h
  | d + 1, q, h => by
    rcases List.mem_cons.mp h with e | e
    · exact ⟨p, q, e⟩
    · exact rowVals_in d (q + 1) e
theorem rowVals_has {a b u v p q' : Int} : ∀ (d : Nat) (q : Int), q ≤ q' → q' < q + d → val a b u v p q' ∈ rowVals a b u v p d q
  | 0, q, h1, h2 => by omega
  | d + 1, q, h1, h2 => by
    by_cases e : q' = q
    · subst e; simp [rowVals]
    · exact List.mem_cons.mpr (.inr (rowVals_has d (q + 1) (by omega) (by omega)))
theorem allVals_in {a b u v j s : Int} : ∀ (d : Nat) (p : Int), s ∈ allVals a b u v j d p → ∃ p q, s = val a b u v p q
  | 0, _, h => by simp [allVals] at h
  | d + 1, p, h => by
    rcases List.mem_append.mp h with e | e
    · exact rowVals_in _ _ e
    · exact allVals_in d (p + 1) e
theorem allVals_has {a b u v j p' q' : Int} (h1 : j - 2 ≤ q') (h2 : q' < j + 4) : ∀ (d : Nat) (p : Int), p ≤ p' → p' < p + d → val a b u v p' q' ∈ allVals a b u v j d p
  | 0, p, k1, k2 => by omega
  | d + 1, p, k1, k2 => by
    by_cases e : p' = p
    · subst e; exact List.mem_append.mpr (.inl (rowVals_has 6 (j - 2) h1 (by omega)))
    · exact List.mem_append.mpr (.inr (allVals_has h1 h2 d (p + 1) (by omega) (by omega)))
theorem near_row {a b u v i j p : Int} (h : Ok a b) (hu : 0 ≤ u ∧ u ≤ 288) (hv : 0 ≤ v ∧ v ≤ 288) (hp : -5000 ≤ p ∧ p ≤ 5000) (hj : -4000 ≤ j ∧ j ≤ 4000) (d : Nat) : ∀ (k : Nat) (best q : Int), j - 2 ≤ q → j + 4 - q = d →
    impl_NearOf.l1 (k + d + 1) u v i j best p q a b = impl_NearOf.l0 k u v i j ((rowVals a b u v p d q).foldl upd best) (p + 1) a b := by
  induction d with
  | zero =>
    intro k best q h1 hd
    simp only [impl_NearOf.l1, rowVals, List.foldl_nil]
    rw [w64 (x := j + 3) (by omega) (by omega), if_neg (by omega), w64 (x := p + 1) (by omega) (by omega)]
  | succ d ih =>
    intro k best q h1 hd
    rw [show k + (d + 1) + 1 = (k + d + 1) + 1 by omega]
    rw [impl_NearOf.l1]
    rw [w64 (x := j + 3) (by omega) (by omega), if_pos (by omega), val_w h hu hv hp (by omega), w64 (x := q + 1) (by omega) (by omega)]
    have e := fun z => ih k z (q + 1) (by omega) (by omega)
    simp only [e, rowVals, List.foldl_cons, upd]
    repeat' split
    all_goals rfl
theorem near_all {a b u v i j : Int} (h : Ok a b) (hu : 0 ≤ u ∧ u ≤ 288) (hv : 0 ≤ v ∧ v ≤ 288) (hi : -4000 ≤ i ∧ i ≤ 4000) (hj : -4000 ≤ j ∧ j ≤ 4000) (d : Nat) : ∀ (k : Nat) (best p : Int), i - 2 ≤ p → i + 4 - p = d → d * 8 < k →
    impl_NearOf.l0 k u v i j best p a b = some ((allVals a b u v j d p).foldl upd best) := by
  induction d with
  | zero =>
    intro k best p h1 hd hk
    obtain ⟨k, rfl⟩ : ∃ m, k = m + 1 := ⟨k - 1, by omega⟩
    simp only [impl_NearOf.l0]
    rw [w64 (x := i + 3) (by omega) (by omega), if_neg (by omega)]; rfl
  | succ d ih =>
    intro k best p h1 hd hk
    obtain ⟨k, rfl⟩ : ∃ m, k = (m + 6 + 1) + 1 := ⟨k - 8, by omega⟩
    simp only [impl_NearOf.l0]
    rw [w64 (x := i + 3) (by omega) (by omega), if_pos (by omega), w64 (x := j - 2) (by omega) (by omega), near_row h hu hv (by omega) hj 6 k best (j - 2) (by omega) (by omega), ih k _ (p + 1) (by omega) (by omega) (by omega)]
    simp only [allVals, List.foldl_append]
/-- the numbers of a name -/
theorem name_uv {a b n : Int} (h : Ok a b) (h0 : 0 ≤ n) (h1 : n < ar a b) : (0 ≤ n % row a b ∧ n % row a b ≤ 288) ∧ (0 ≤ n / row a b ∧ n / row a b ≤ 288) := by
  have hr := h.row; have hn := h.ar
  have e1 := Int.emod_nonneg n (show row a b ≠ 0 by omega); have e2 := Int.emod_lt_of_pos n (show 0 < row a b by omega)
  have e3 := Int.ediv_nonneg h0 (show 0 ≤ row a b by omega); have e4 := Int.ediv_le_self (row a b) h0
  omega
theorem near_i (a b n : Int) (k : Nat) (hk : 400 ≤ k) : impl_NearOf.f k a b n = some (if Ok a b ∧ 0 ≤ n ∧ n < ar a b then near a b (n % row a b) (n / row a b) else -1) := by
  unfold impl_NearOf.f
  rw [pointOf_i a b n k (by omega)]; simp only [Option.bind_some]
  by_cases hc : Ok a b ∧ 0 ≤ n ∧ n < ar a b
  · obtain ⟨h, h0, h1⟩ := hc
    have hc : Ok a b ∧ 0 ≤ n ∧ n < ar a b := ⟨h, h0, h1⟩
    have hn := h.ar; have huv := name_uv h h0 h1
    simp only [if_pos hc, if_true]
    generalize n % row a b = u at *
    generalize n / row a b = v at *
    obtain ⟨hu, hv⟩ := huv
    have m1 := mul_bd hu.1 hu.2 (show 0 ≤ a by have := h.1; omega) h.2.1
    have m2 := mul_bd hu.1 hu.2 h.2.2.1 h.2.2.2
    have m3 := mul_bd hv.1 hv.2 (show 0 ≤ a by have := h.1; omega) h.2.1
    have m4 := mul_bd hv.1 hv.2 h.2.2.1 h.2.2.2
    rw [area_i h]; simp only [Option.bind_some]
    rw [w64 (x := u * a) (by omega) (by omega), w64 (x := v * b) (by omega) (by omega), w64 (x := v * a) (by omega) (by omega), w64 (x := u * b) (by omega) (by omega), w64 (x := u * a + v * b) (by omega) (by omega), w64 (x := v * a - u * b) (by omega) (by omega), down_i (by omega) (by omega) (by omega), down_i (by omega) (by omega) (by omega)]
    simp only [Option.bind_some]
    have d1 := div_bd (x := u * a + v * b) (c := 7000) hn.1 (by omega) (by omega) (by omega)
    have d2 := div_bd (x := v * a - u * b) (c := 4000) hn.1 (by omega) (by omega) (by omega)
    have b0 : 0 ≤ (u * a + v * b) / ar a b := Int.ediv_nonneg (by omega) (by omega)
    have b1 : (u * a + v * b) / ar a b ≤ 4000 := by
      by_cases h2 : 2 ≤ ar a b
      · apply Int.ediv_le_of_le_mul (by omega); omega
      · have : ar a b = 1 := by omega
        have s := h.sq; have : a * a = 1 ∧ b * b = 0 := by unfold ar at this; omega
        have : b = 0 := by rcases Int.mul_eq_zero.mp this.2 with e | e <;> exact e
        subst this; rw [show u * a + v * 0 = u * a by omega]
        apply Int.ediv_le_of_le_mul (by omega); omega
    rw [w64 (x := _ - 2) (by omega) (by omega), near_all h hu hv (by omega) d2 6 k (-1) _ (by omega) (by omega) (by omega)]
    rw [least_near' h.1 _ (fun s hs => allVals_in _ _ hs)]
    intro p q hp hq
    exact allVals_has (by omega) (by omega) _ _ (by omega) (by omega)
  · simp only [if_neg hc]; rfl
theorem holds_i {a b : Int} (h : Ok a b) (x y : Int) : impl_holds.f a b x y = some (decide (hold a b x y)) := by
  have hn := h.ar
  have hx0 := Int.emod_nonneg x (show ar a b ≠ 0 by omega); have hx1 := Int.emod_lt_of_pos x (show 0 < ar a b by omega)
  have hy0 := Int.emod_nonneg y (show ar a b ≠ 0 by omega); have hy1 := Int.emod_lt_of_pos y (show 0 < ar a b by omega)
  obtain ⟨h1, h2, h3, h4⟩ := h
  have m1 := mul_bd (c := 288) (d := 12) hx0 (by omega) (show 0 ≤ a by omega) h2
  have m2 := mul_bd (c := 288) (d := 12) hx0 (by omega) h3 h4
  have m3 := mul_bd (c := 288) (d := 12) hy0 (by omega) (show 0 ≤ a by omega) h2
  have m4 := mul_bd (c := 288) (d := 12) hy0 (by omega) h3 h4
  unfold impl_holds.f
  rw [area_i ⟨h1, h2, h3, h4⟩]; simp only [Option.bind_some]
  rw [mod_i (by omega) (by omega), mod_i (by omega) (by omega)]; simp only [Option.bind_some]
  have hne : ¬ ar a b = 0 := by omega
  simp only [if_neg hne]
  rw [w64 (x := x % _ * a) (by omega) (by omega), w64 (x := y % _ * b) (by omega) (by omega), w64 (x := y % _ * a) (by omega) (by omega), w64 (x := x % _ * b) (by omega) (by omega), w64 (by omega) (by omega), w64 (by omega) (by omega), mod_i (by omega) (by omega)]
  simp only [Option.bind_some, tmod_dvd]
  have key : hold a b x y ↔ hold a b (x % ar a b) (y % ar a b) := by
    have := hold_shift a b (x % ar a b) (y % ar a b) (x / ar a b) (y / ar a b)
    rwa [Int.emod_add_mul_ediv, Int.emod_add_mul_ediv] at this
  rw [show decide (hold a b x y) = decide (hold a b (x % ar a b) (y % ar a b)) from decide_eq_decide.mpr key]
  unfold hold
  split
  · rename_i hd; simp only [Option.some.injEq, hd, true_and]
    rw [Bool.eq_iff_iff, beq_iff_eq, decide_eq_true_iff, Int.dvd_iff_emod_eq_zero]
  · rename_i hd; simp only [hd, false_and, decide_false]
theorem namel_i {a b : Int} (h : Ok a b) {x y : Int} (hx : -1000000 ≤ x ∧ x ≤ 1000000) (hy : -1000000 ≤ y ∧ y ≤ 1000000) (d : Nat) : ∀ (k : Nat) (j : Int), 0 ≤ j → ar a b - j = d → d + 14 ≤ k →
    impl_name.l0 k x y (ar a b) j a b = some (scan a b x y d j) := by
  have hr := h.row; have hn := h.ar
  induction d with
  | zero =>
    intro k j h1 hd hk
    obtain ⟨k, rfl⟩ : ∃ m, k = m + 1 := ⟨k - 1, by omega⟩
    simp only [impl_name.l0]; rw [if_neg (by omega)]; rfl
  | succ d ih =>
    intro k j h1 hd hk
    obtain ⟨k, rfl⟩ : ∃ m, k = m + 1 := ⟨k - 1, by omega⟩
    have e1 := Int.emod_nonneg j (show row a b ≠ 0 by omega); have e2 := Int.emod_lt_of_pos j (show 0 < row a b by omega)
    have e3 := Int.ediv_nonneg h1 (show 0 ≤ row a b by omega); have e4 := Int.ediv_le_self (row a b) h1
    have hne : ¬ row a b = 0 := by omega
    simp only [impl_name.l0]
    rw [if_pos (by omega), row_i h k (by omega)]; simp only [Option.bind_some, if_neg hne]
    rw [tmod_pos h1, tdiv_pos h1, w64 (x := j / row a b) (by omega) (by omega), w64 (by omega) (by omega), w64 (by omega) (by omega), w64 (by omega) (by omega), holds_i h, ih k (j + 1) (by omega) (by omega) (by omega)]
    simp only [Option.bind_some, decide_eq_true_eq]
    rw [scan]; split <;> rfl
theorem name_i {a b : Int} (h : Ok a b) {x y : Int} (hx : -1000000 ≤ x ∧ x ≤ 1000000) (hy : -1000000 ≤ y ∧ y ≤ 1000000) (k : Nat) (hk : 400 ≤ k) : impl_name.f k a b x y = some (nm a b x y) := by
  have hn := h.ar
  unfold impl_name.f
  rw [area_i h]; simp only [Option.bind_some]
  rw [namel_i h hx hy (ar a b).toNat k 0 (by omega) (by omega) (by omega)]; rfl
theorem nameOf_i (a b x y : Int) (k : Nat) (hk : 400 ≤ k) : impl_NameOf.f k a b x y = some (if Ok a b ∧ (-100000 ≤ x ∧ x ≤ 100000) ∧ (-100000 ≤ y ∧ y ≤ 100000) then nm a b x y else -1) := by
  unfold impl_NameOf.f
  rw [isLattice_i]; simp only [Option.bind_some]
  by_cases h : Ok a b
  · rw [if_pos (by simp [h])]
    by_cases hx : -100000 ≤ x ∧ x ≤ 100000
    · by_cases hy : -100000 ≤ y ∧ y ≤ 100000
      · rw [if_neg (by omega), if_neg (by omega), if_neg (by omega), if_neg (by omega), name_i h (by omega) (by omega) k hk, if_pos ⟨h, hx, hy⟩]; rfl
      · rw [if_neg (by omega), if_neg (by omega), if_neg (c := _ ∧ _ ∧ _) (fun hh => hy hh.2.2)]
        split; rfl
        rw [if_pos (by omega)]
    · rw [if_neg (c := _ ∧ _ ∧ _) (fun hh => hx hh.2.1)]
      split; rfl
      rw [if_pos (by omega)]
  · simp [h]
theorem turn_i (a b n : Int) (k : Nat) (hk : 400 ≤ k) : impl_TurnName.f k a b n = some (if Ok a b ∧ 0 ≤ n ∧ n < ar a b then nm a b (-(n / row a b)) (n % row a b) else -1) := by
  unfold impl_TurnName.f
  rw [pointOf_i a b n k (by omega)]; simp only [Option.bind_some]
  by_cases h : Ok a b ∧ 0 ≤ n ∧ n < ar a b
  · obtain ⟨h, h0, h1⟩ := h
    have hr := h.row; have hn := h.ar
    have e1 := Int.emod_nonneg n (show row a b ≠ 0 by omega); have e2 := Int.emod_lt_of_pos n (show 0 < row a b by omega)
    have e3 := Int.ediv_nonneg h0 (show 0 ≤ row a b by omega); have e4 := Int.ediv_le_self (row a b) h0
    have hc : Ok a b ∧ 0 ≤ n ∧ n < ar a b := ⟨h, h0, h1⟩
    simp only [if_pos hc, if_true]
    rw [w64 (by omega) (by omega), nameOf_i a b _ _ k hk, if_pos ⟨h, by omega, by omega⟩]; rfl
  · simp only [if_neg h]; rfl
theorem pure_FnTurnedSpots : laws_FnTurnedSpots.Pure := by
  intro xs _ hl hw
  refine ⟨5000, ?_⟩
  unfold laws_FnTurnedSpots.f
  split; rfl
  obtain ⟨a, b, e, hs⟩ := make_lattice xs (by omega) 5000 (by omega)
  have ok := small_ok hs
  have hn := ok.ar
  obtain ⟨x, ex, x0, x1⟩ := at_c xs (by omega) hw 1 (by omega) (by omega)
  rw [e]; simp only [Option.bind_some, ex, areaOf_s, if_pos ok]
  rw [if_neg (by omega), tmod_pos x0]
  have k0 := Int.emod_nonneg x (show ar a b ≠ 0 by omega); have k1 := Int.emod_lt_of_pos x (show 0 < ar a b by omega)
  generalize x % ar a b = k at *
  have ht : ∀ k, 0 ≤ k → k < ar a b → impl_TurnName.f 5000 a b k = some (turn a b k) := fun k h0 h1 => by
    rw [turn_i a b k 5000 (by omega), if_pos ⟨ok, h0, h1⟩]; rfl
  have t1 := turn_range ok.1 ok.2.2.1 k
  have t2 := turn_range ok.1 ok.2.2.1 (turn a b k)
  have t3 := turn_range ok.1 ok.2.2.1 (turn a b (turn a b k))
  rw [ht k k0 k1]; simp only [Option.bind_some]
  rw [ht _ t1.1 t1.2]; simp only [Option.bind_some]
  rw [ht _ t2.1 t2.2]; simp only [Option.bind_some]
  rw [ht _ t3.1 t3.2, turn_four ok.1 ok.2.2.1 k0 k1]; simp only [Option.bind_some, if_true]
  rw [near_i a b _ 5000 (by omega), near_i a b _ 5000 (by omega), if_pos ⟨ok, t1⟩, if_pos ⟨ok, k0, k1⟩, turn_near ok.1 ok.2.2.1]; simp only [Option.bind_some]
  rw [show ((near a b (k % row a b) (k / row a b) != near a b (k % row a b) (k / row a b))) = false by simp, laws_FnTurnedSpots.j0, if_neg (by decide), near_i a b _ 4999 (by omega), near_i a b _ 4999 (by omega), if_pos ⟨ok, by omega⟩, if_pos ⟨ok, k0, k1⟩]
  simp only [Option.bind_some]
  have hr := ok.row
  have z : near a b (0 % row a b) (0 / row a b) = 0 := (near_zero ok.1 _ _).mpr (by rw [Int.zero_emod, Int.zero_ediv]; exact ⟨⟨0, by simp⟩, ⟨0, by simp⟩⟩)
  rw [if_pos z]
  have hu := name_parts (b := b) ok.1 k0 k1; have hg := ok.g
  have key : near a b (k % row a b) (k / row a b) = 0 ↔ k = 0 := by
    rw [near_zero ok.1]
    constructor
    · intro h
      have := named_one (b := b) ok.1 (x := k % row a b) (y := k / row a b) (u := 0) (v := 0) (u' := k % row a b) (v' := k / row a b) (by omega) (by omega) (by omega) (by omega) hu.1 hu.2.1 hu.2.2.1 hu.2.2.2 (by simpa using h) (by rw [Int.sub_self, Int.sub_self]; exact ⟨⟨0, by simp⟩, ⟨0, by simp⟩⟩)
      have e := Int.mul_ediv_add_emod k (row a b)
      rw [← this.1, ← this.2] at e; omega
    · intro h; subst h; rw [Int.zero_emod, Int.zero_ediv]; exact ⟨⟨0, by simp⟩, ⟨0, by simp⟩⟩
  simp only [Option.some.injEq, beq_iff_eq]
  rw [Bool.eq_iff_iff, beq_iff_eq, beq_iff_eq]; exact key

end Go.Proofs.Ytabciloabpmklaa.PFnTurnedSpots
