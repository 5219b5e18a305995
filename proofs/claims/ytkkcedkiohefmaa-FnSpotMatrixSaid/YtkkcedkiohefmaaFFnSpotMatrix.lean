/- What the functions that laws.FnSpotMatrix reaches compute, and that the law is true: over numbers alone. -/
import Derived.Test.YtkkcedkiohefmaaPFnSpotMatrixx
import Derived.Test.YtkkcedkiohefmaaPic3
import Derived.Test.YtkkcedkiohefmaaLat
import Derived.Laws.Strings
namespace Go.Proofs.Ytkkcedkiohefmaa.PFnSpotMatrix
open Go.RowKit Go.Proofs.YtkkcedkiohefmaaW.PrintWords Go.Proofs.YtkkcedkiohefmaaW.PrintLast Go.Proofs.YtkkcedkiohefmaaW.PrintMore
set_option linter.unusedVariables false
set_option linter.unusedSimpArgs false
set_option linter.unusedSimpArgs false
open Pic
theorem w64 {x : Int} (h1 : -9223372036854775808 ≤ x) (h2 : x ≤ 9223372036854775807) : wrap64 x = x := by unfold wrap64; omega
theorem rd_at (l : List Int) (i : Int) : rd l i = at_ l i := rfl
theorem tmod_pos {n x : Int} (h : 0 ≤ x) : Int.tmod x n = x % n := Int.tmod_eq_emod_of_nonneg h
theorem tdiv_pos {n x : Int} (h : 0 ≤ x) : Int.tdiv x n = x / n := Int.tdiv_eq_ediv_of_nonneg h
theorem dec_ff {p : Prop} [Decidable p] (h : ¬ p) : some false = some (decide p) := by rw [decide_eq_false h]
theorem dec_dd {p q : Prop} [Decidable p] [Decidable q] (h : p ↔ q) : some (decide p) = some (decide q) := by rw [decide_eq_decide.mpr h]
open Lat
def Ok (a b : Int) : Prop := 1 ≤ a ∧ a ≤ 12 ∧ 0 ≤ b ∧ b ≤ 12
instance (a b : Int) : Decidable (Ok a b) := inferInstanceAs (Decidable (_ ∧ _))
theorem mul_bd {x y c d : Int} (h0 : 0 ≤ x) (h1 : x ≤ c) (k0 : 0 ≤ y) (k1 : y ≤ d) : 0 ≤ x * y ∧ x * y ≤ c * d := by
  refine ⟨Int.mul_nonneg h0 k0, ?_⟩
  exact Int.le_trans (Int.mul_le_mul_of_nonneg_right h1 k0) (Int.mul_le_mul_of_nonneg_left k1 (by omega))
theorem mul_bd' {x y c d : Int} (h0 : -c ≤ x) (h1 : x ≤ c) (k0 : 0 ≤ y) (k1 : y ≤ d) : -(c * d) ≤ x * y ∧ x * y ≤ c * d := by
  have hc : 0 ≤ c := by omega
  have e1 : x * y ≤ c * y := Int.mul_le_mul_of_nonneg_right h1 k0
  have e2 : (-c) * y ≤ x * y := Int.mul_le_mul_of_nonneg_right h0 k0
  have e3 : c * y ≤ c * d := Int.mul_le_mul_of_nonneg_left k1 hc
  rw [Int.neg_mul] at e2
  omega
theorem Ok.sq {a b : Int} (h : Ok a b) : a * a ≤ 144 ∧ b * b ≤ 144 ∧ 0 ≤ b * b ∧ 1 ≤ a * a := by
  obtain ⟨h1, h2, h3, h4⟩ := h
  have k1 := mul_bd (c := 12) (d := 12) (show 0 ≤ a by omega) h2 (show 0 ≤ a by omega) h2
  have k2 := mul_bd (c := 12) (d := 12) h3 h4 h3 h4
  have k3 : 0 < a * a := Int.mul_pos (by omega) (by omega)
  omega
theorem Ok.ar {a b : Int} (h : Ok a b) : 1 ≤ ar a b ∧ ar a b ≤ 288 := by
  have := h.sq; unfold Lat.ar; omega
theorem Ok.g {a b : Int} (h : Ok a b) : 1 ≤ Lat.g a b ∧ Lat.g a b ≤ 12 := by
  refine ⟨g_pos h.1, ?_⟩
  have h1 : Lat.g a b ∣ a := Int.gcd_dvd_left ..
  have := Int.le_of_dvd (by have := h.1; omega) h1
  have := h.2.1; omega
theorem Ok.row {a b : Int} (h : Ok a b) : 1 ≤ Lat.row a b ∧ Lat.row a b ≤ 288 := by
  refine ⟨row_pos h.1, ?_⟩
  have h1 := row_mul (a := a) (b := b)
  have h2 := h.ar
  have h3 := h.g
  have h4 : 1 * Lat.row a b ≤ Lat.g a b * Lat.row a b := Int.mul_le_mul_of_nonneg_right h3.1 (by have := row_pos (b := b) h.1; omega)
  omega
theorem tmod_dvd {n x : Int} : Int.tmod x n = 0 ↔ n ∣ x := Int.dvd_iff_tmod_eq_zero.symm
theorem div_bd {x n c : Int} (hn : 1 ≤ n) (h1 : -c ≤ x) (h2 : x ≤ c) (hc : 0 ≤ c) : -c ≤ x / n ∧ x / n ≤ c := by
  have : c * 1 ≤ c * n := Int.mul_le_mul_of_nonneg_left hn hc
  constructor
  · apply Int.le_ediv_of_mul_le (by omega); rw [Int.neg_mul]; omega
  · apply Int.ediv_le_of_le_mul (by omega); omega
theorem and255 (n : Int) : Go.bits .and .i64 n 255 = n % 256 := by
  have h255 : (BitVec.ofInt 64 255).toNat = 2 ^ 8 - 1 := by decide
  have key : (BitVec.ofInt 64 n &&& BitVec.ofInt 64 255).toNat = (n % ((2 ^ 64 : Nat) : Int)).toNat % 2 ^ 8 := by
    rw [BitVec.toNat_and, BitVec.toNat_ofInt, h255, Nat.and_two_pow_sub_one_eq_mod]
  show IntKind.i64.wrap ((BitVec.ofInt 64 n &&& BitVec.ofInt 64 255).toNat : Nat) = n % 256
  rw [key, IntKind.wrap_i64]
  omega
theorem newl_c (xs : List Int) (d : Nat) : ∀ (k : Nat) (h i : Int), 0 ≤ i → i ≤ 4000 → 4000 - i = d → d < k → ∃ h', spec_l01New.l0 k xs h i = some (xs, 0, h') := by
  induction d with
  | zero =>
    intro k h i h0 h1 hd hk
    obtain ⟨k, rfl⟩ : ∃ m, k = m + 1 := ⟨k - 1, by omega⟩
    simp only [spec_l01New.l0]
    have : ¬ i < 4000 := by omega
    simp only [if_neg this]
    split <;> exact ⟨_, rfl⟩
  | succ d ih =>
    intro k h i h0 h1 hd hk
    obtain ⟨k, rfl⟩ : ∃ m, k = m + 1 := ⟨k - 1, by omega⟩
    rw [spec_l01New.l0]
    by_cases hlt : i < (xs.length : Int)
    · rw [if_pos hlt, if_pos (by omega), if_pos h0, w64 (x := i + 1) (by omega) (by omega)]
      exact ih k _ (i + 1) (by omega) (by omega) (by omega) (by omega)
    · rw [if_neg hlt]; exact ⟨_, rfl⟩
theorem new_c (xs : List Int) (k : Nat) (hk : 4001 ≤ k) : ∃ h, spec_l01New.f k xs = some (xs, 0, h) :=
  newl_c xs 4000 k _ 0 (by omega) (by omega) (by omega) (by omega)
theorem byte_c (xs : List Int) (hl : xs.length ≤ 140737488351232) (i h : Int) (h0 : 0 ≤ i) (h1 : i ≤ xs.length) : ∃ r i' h', spec_l01Byte.f xs i h = some (r, i', h') ∧ 0 ≤ r ∧ r ≤ 255 ∧ 0 ≤ i' ∧ i' ≤ xs.length := by
  unfold spec_l01Byte.f
  simp only [and255]
  by_cases hlt : i < (xs.length : Int)
  · rw [if_pos hlt, if_pos h0, w64 (x := i + 1) (by omega) (by omega)]
    exact ⟨_, _, _, rfl, Int.emod_nonneg _ (by omega), by have := Int.emod_lt_of_pos (wrap64 ((wrap64 ((Go.bits .xor .i64 ((wrap64 ((wrap64 (h * 6364136223846793005)) + 1442695040888963407)) / 8589934592) ((wrap64 ((wrap64 (h * 6364136223846793005)) + 1442695040888963407)) / 35184372088832)) % 256)) + wrap64 (rd xs i))) (show (0 : Int) < 256 by omega); omega, by omega, by omega⟩
  · rw [if_neg hlt]
    exact ⟨_, _, _, rfl, Int.emod_nonneg _ (by omega), by have := Int.emod_lt_of_pos (Go.bits .xor .i64 ((wrap64 ((wrap64 (h * 6364136223846793005)) + 1442695040888963407)) / 8589934592) ((wrap64 ((wrap64 (h * 6364136223846793005)) + 1442695040888963407)) / 35184372088832)) (show (0 : Int) < 256 by omega); omega, h0, h1⟩
theorem below_c (xs : List Int) (hl : xs.length ≤ 140737488351232) (i h n : Int) (h0 : 0 ≤ i) (h1 : i ≤ xs.length) (hn : 1 ≤ n) (hn2 : n ≤ 256) : ∃ r i' h', spec_l01Below.f xs i h n = some (r, i', h') ∧ 0 ≤ r ∧ r < n ∧ 0 ≤ i' ∧ i' ≤ xs.length := by
  unfold spec_l01Below.f
  rw [if_neg (by omega), if_pos hn2]
  obtain ⟨r, i', h', e, r0, r1, i0, i1⟩ := byte_c xs hl i h h0 h1
  rw [e]; simp only [Option.bind_some]
  rw [if_neg (by omega)]
  have := Int.emod_nonneg r (show n ≠ 0 by omega); have := Int.emod_lt_of_pos r (show 0 < n by omega)
  refine ⟨_, _, _, rfl, ?_, ?_, i0, i1⟩ <;> rw [tmod_pos r0] <;> omega
theorem l1In (x a b : Int) : spec_l1In.f x a b = some (decide (a ≤ x ∧ x ≤ b)) := by
  unfold spec_l1In.f
  split
  all_goals first | exact dec_dd (by omega) | exact dec_ff (by omega)
theorem isLattice_s (a b : Int) : spec_IsLattice.f a b = some (decide (Ok a b)) := by
  unfold spec_IsLattice.f
  simp only [l1In, Option.bind_some]
  split
  all_goals (rename_i h; simp only [decide_eq_true_iff] at h; first | exact dec_dd (by unfold Ok; omega) | exact dec_ff (by unfold Ok; omega))
theorem area_s {a b : Int} (h : Ok a b) : spec_l5Area.f a b = some (ar a b) := by
  have := h.sq
  unfold spec_l5Area.f
  rw [w64 (x := a * a) (by omega) (by omega), w64 (x := b * b) (by omega) (by omega), w64 (by omega) (by omega)]; rfl
theorem areaOf_s (a b : Int) : spec_AreaOf.f a b = some (if Ok a b then ar a b else 0) := by
  unfold spec_AreaOf.f
  rw [isLattice_s]; simp only [Option.bind_some]
  by_cases h : Ok a b
  · rw [area_s h]; simp [h]
  · simp [h]
theorem gcd_s (k : Nat) : ∀ (a b : Int), 0 ≤ a → 0 ≤ b → b.toNat < k → spec_l4Gcd.l0 k a b = some (g a b) := by
  induction k with
  | zero => intro a b _ _ h; omega
  | succ k ih =>
    intro a b ha hb hk
    simp only [spec_l4Gcd.l0]
    by_cases h : b = 0
    · rw [if_pos h]; subst h; unfold g; rw [Int.gcd_zero]; simp only [Option.some.injEq]; omega
    · rw [if_neg h, tmod_pos ha]
      have h1 := Int.emod_nonneg a h; have h2 := Int.emod_lt_of_pos a (show 0 < b by omega)
      rw [ih b (a % b) hb h1 (by omega)]
      unfold g; simp only [Option.some.injEq]; unfold Int.gcd; rw [Int.natAbs_emod_of_nonneg ha, Nat.gcd_comm, ← Nat.gcd_rec, Nat.gcd_comm]
theorem sides_s {a b : Int} (h : Ok a b) (k : Nat) (hk : 13 ≤ k) : spec_l5Sides.f k a b = some (row a b, g a b) := by
  unfold spec_l5Sides.f spec_l4Gcd.f
  have hg := h.g; have hr := h.row; have hn := h.ar
  rw [area_s h]
  have := h.2.2
  rw [gcd_s k a b (by have := h.1; omega) this.1 (by omega)]; simp only [Option.bind_some]
  rw [if_neg (by omega), tdiv_pos (by omega)]
  have e : ar a b / g a b = row a b := rfl
  rw [e, w64 (by omega) (by omega)]
theorem period_s (a b : Int) (k : Nat) (hk : 13 ≤ k) : spec_PeriodOf.f k a b = some (if Ok a b then row a b else 0) := by
  unfold spec_PeriodOf.f
  rw [isLattice_s]; simp only [Option.bind_some]
  by_cases h : Ok a b
  · rw [sides_s h k hk]; simp [h]
  · simp [h]
theorem at_c (xs : List Int) (hl : xs.length ≤ 140737488351232) (hw : ∀ x ∈ xs, (Lit.int .u8 x).wf = true) (i : Int) (h0 : 0 ≤ i) (h1 : i ≤ 1000) : ∃ v, laws_at.f xs i = some v ∧ 0 ≤ v ∧ v ≤ 255 := by
  unfold laws_at.f
  by_cases hlt : i < (xs.length : Int)
  · rw [if_pos hlt, if_pos h0]
    have hm : rd xs i ∈ xs := by
      have : i.toNat < xs.length := by omega
      unfold rd; rw [List.getD_eq_getElem?_getD, List.getElem?_eq_getElem this, Option.getD_some]; exact List.getElem_mem this
    have hb : 0 ≤ rd xs i ∧ rd xs i ≤ 255 := by
      have h := hw _ hm
      simp only [Lit.wf, Bool.and_eq_true, decide_eq_true_eq] at h
      exact h
    exact ⟨_, rfl, by rw [w64 (by omega) (by omega)]; exact hb.1, by rw [w64 (by omega) (by omega)]; exact hb.2⟩
  · rw [if_neg hlt]
    refine ⟨_, rfl, ?_⟩
    rw [w64 (x := i * 37) (by omega) (by omega), w64 (x := _ * 11) (by omega) (by omega), w64 (by omega) (by omega), tmod_pos (by omega)]
    omega
theorem isLattice_i (a b : Int) : impl_IsLattice.f a b = some (decide (Ok a b)) := by
  unfold impl_IsLattice.f
  repeat' split
  all_goals first | exact dec_dd (by unfold Ok; omega) | exact dec_ff (by unfold Ok; omega)
theorem area_i {a b : Int} (h : Ok a b) : impl_area.f a b = some (ar a b) := by
  have := h.sq
  unfold impl_area.f
  rw [w64 (x := a * a) (by omega) (by omega), w64 (x := b * b) (by omega) (by omega), w64 (by omega) (by omega)]; rfl
def Cmp (AT : Int → Int → Option Int) (K : Int → Int) (N : Int) : Prop := ∀ x y : Int, 0 ≤ x → x < N → 0 ≤ y → y < N → ∃ c, AT x y = some c ∧ (c < 0 ↔ K x < K y)
def Nam (l : List Int) (N : Int) : Prop := ∀ v ∈ l, 0 ≤ v ∧ v < N
theorem Nam.perm {l r : List Int} {N : Int} (h : Nam l N) (hp : r.Perm l) : Nam r N := fun v hv => h v (hp.mem_iff.mp hv)
theorem Nam.at {l : List Int} {N p : Int} (h : Nam l N) (p0 : 0 ≤ p) (p1 : p < l.length) : 0 ≤ at_ l p ∧ at_ l p < N := h _ (at_mem p0 p1)
theorem ins_in {AT : Int → Int → Option Int} {K : Int → Int} {N : Int} (hA : Cmp AT K N) {a b i : Int} (a0 : 0 ≤ a) (ib : i < b) (d : Nat) : ∀ (k : Nat) (l : List Int) (j : Int), a ≤ j → j ≤ i → j - a = d → b ≤ l.length → l.length ≤ 1000 → Nam l N →
    (∀ p q : Int, a ≤ p → p < q → q ≤ i → p ≠ j → q ≠ j → bef K (at_ l p) (at_ l q)) → (∀ q : Int, j < q → q ≤ i → bef K (at_ l j) (at_ l q)) → (∀ p : Int, a ≤ p → p < j → at_ l p < at_ l j) →
    ∃ (r : List Int) (k' : Nat), k ≤ k' ∧ slices_insertionSortCmpFunc_int.l1 AT (k + d + 1) l a b i j = slices_insertionSortCmpFunc_int.l0 AT k' r a b (wrap64 (i + 1)) ∧ r.Perm l ∧ Seg l r a (i + 1) ∧ Srt K r a (i + 1) := by
  induction d with
  | zero =>
    intro k l j j0 j1 hd hb hl hN h1 h2 h3
    obtain rfl : j = a := by omega
    refine ⟨l, k, Nat.le_refl _, by rw [slices_insertionSortCmpFunc_int.l1, if_neg (by omega)], List.Perm.refl _, Seg.refl _ _ _, fun p q p0 p1 p2 => ?_⟩
    by_cases e : p = j
    · subst e; exact h2 q p1 (by omega)
    · exact h1 p q p0 p1 (by omega) e (by omega)
  | succ d ih =>
    intro k l j j0 j1 hd hb hl hN h1 h2 h3
    obtain ⟨c, ec, hc⟩ := hA (at_ l j) (at_ l (j - 1)) (hN.at (by omega) (by omega)).1 (hN.at (by omega) (by omega)).2 (hN.at (by omega) (by omega)).1 (hN.at (by omega) (by omega)).2
    rw [← Nat.add_assoc, slices_insertionSortCmpFunc_int.l1, if_pos (by omega), if_pos (by omega), if_pos (by omega), w64 (x := j - 1) (by omega) (by omega), if_pos (by omega), if_pos (by omega), rd_at, rd_at, ec, Option.bind_some]
    by_cases c0 : c < 0
    · rw [if_pos c0]
      have hk := hc.mp c0
      have hs : ∀ q : Int, 0 ≤ q → at_ (swp l j (j - 1)) q = if q = j - 1 then at_ l j else if q = j then at_ l (j - 1) else at_ l q := fun q q0 => swp_at (by omega) (by omega) (by omega) (by omega) q0
      have hp := swp_perm (l := l) (i := j) (j := j - 1) (by omega) (by omega) (by omega) (by omega)
      obtain ⟨r, k', e1, e2, e3, e4, e5⟩ := ih k (swp l j (j - 1)) (j - 1) (by omega) (by omega) (by omega) (by rw [swp_len]; exact hb) (by rw [swp_len]; exact hl) (hN.perm hp)
        (fun p q p0 p1 p2 n1 n2 => by
          rw [hs p (by omega), hs q (by omega), if_neg n1, if_neg n2]
          by_cases f1 : p = j
          · rw [if_pos f1, if_neg (by omega)]; exact h1 (j - 1) q (by omega) (by omega) p2 (by omega) (by omega)
          · rw [if_neg f1]
            by_cases f2 : q = j
            · rw [if_pos f2]; exact h1 p (j - 1) p0 (by omega) (by omega) f1 (by omega)
            · rw [if_neg f2]; exact h1 p q p0 p1 p2 f1 f2)
        (fun q q0 q1 => by
          rw [hs _ (by omega), hs q (by omega), if_pos rfl, if_neg (by omega)]
          by_cases f1 : q = j
          · rw [if_pos f1]; exact .inl hk
          · rw [if_neg f1]; exact h2 q (by omega) q1)
        (fun p p0 p1 => by
          rw [hs p (by omega), hs (j - 1) (by omega), if_neg (by omega), if_neg (by omega), if_pos rfl]
          exact h3 p p0 (by omega))
      refine ⟨r, k', e1, e2, e3.trans hp, ?_, e5⟩
      refine Seg.trans ⟨swp_len _ _ _, fun p hp p0 => by rw [hs p p0, if_neg (by omega), if_neg (by omega)], fun p p0 p1 => ?_⟩ e4
      rw [hs p (by omega)]
      by_cases f1 : p = j - 1
      · rw [if_pos f1]; exact ⟨j, by omega, by omega, rfl⟩
      · rw [if_neg f1]
        by_cases f2 : p = j
        · rw [if_pos f2]; exact ⟨j - 1, by omega, by omega, rfl⟩
        · rw [if_neg f2]; exact ⟨p, p0, p1, rfl⟩
    · rw [if_neg c0]
      have hk : ¬ K (at_ l j) < K (at_ l (j - 1)) := fun x => c0 (hc.mpr x)
      have hb0 : bef K (at_ l (j - 1)) (at_ l j) := bef_of hk (h3 (j - 1) (by omega) (by omega))
      have hlow : ∀ p : Int, a ≤ p → p < j → bef K (at_ l p) (at_ l j) := fun p p0 p1 => by
        by_cases f1 : p = j - 1
        · rw [f1]; exact hb0
        · exact bef_trans (h1 p (j - 1) p0 (by omega) (by omega) (by omega) (by omega)) hb0
      refine ⟨l, k + d + 1, by omega, rfl, List.Perm.refl _, Seg.refl _ _ _, fun p q p0 p1 p2 => ?_⟩
      by_cases f1 : q = j
      · rw [f1]; exact hlow p p0 (by omega)
      · by_cases f2 : p = j
        · rw [f2]; exact h2 q (by omega) (by omega)
        · exact h1 p q p0 p1 (by omega) f2 f1
theorem ins_l {AT : Int → Int → Option Int} {K : Int → Int} {N : Int} (hA : Cmp AT K N) {a b : Int} (a0 : 0 ≤ a) (hab : b - a ≤ 20) (d : Nat) : ∀ (k : Nat) (l : List Int) (i : Int), a < i → b - i ≤ d → b ≤ l.length → l.length ≤ 1000 → Nam l N → 30 * d + 10 < k → i ≤ b →
    Srt K l a i → (∀ p : Int, a ≤ p → p < i → at_ l p < i) → (∀ p : Int, i ≤ p → p < b → at_ l p = p) →
    ∃ r, slices_insertionSortCmpFunc_int.l0 AT k l a b i = some r ∧ r.Perm l ∧ Seg l r a b ∧ Srt K r a b := by
  induction d with
  | zero =>
    intro k l i i0 hd hb hl hN hk ib h1 h2 h3
    obtain ⟨k, rfl⟩ : ∃ m, k = m + 1 := ⟨k - 1, by omega⟩
    obtain rfl : i = b := by omega
    exact ⟨l, by rw [slices_insertionSortCmpFunc_int.l0, if_neg (by omega)], List.Perm.refl _, Seg.refl _ _ _, h1⟩
  | succ d ih =>
    intro k l i i0 hd hb hl hN hk ib h1 h2 h3
    obtain ⟨k, rfl⟩ : ∃ m, k = m + 1 := ⟨k - 1, by omega⟩
    rw [slices_insertionSortCmpFunc_int.l0]
    by_cases c : i < b
    · rw [if_pos c]
      obtain ⟨q, rfl⟩ : ∃ q, k = q + (i - a).toNat + 1 := ⟨k - (i - a).toNat - 1, by omega⟩
      obtain ⟨l1, k', e1, e2, e3, e4, e5⟩ := ins_in hA (b := b) a0 c (i - a).toNat q l i (by omega) (by omega) (by omega) hb hl hN
        (fun p s p0 p1 p2 n1 n2 => h1 p s p0 p1 (by omega)) (fun s s0 s1 => by omega) (fun p p0 p1 => by rw [h3 i (by omega) c]; exact h2 p p0 p1)
      rw [e2, w64 (x := i + 1) (by omega) (by omega)]
      have hl1 := e4.1
      obtain ⟨r, g1, g2, g3, g4⟩ := ih k' l1 (i + 1) (by omega) (by omega) (by omega) (by omega) (hN.perm e3) (by omega) (by omega) e5
        (fun p p0 p1 => by
          obtain ⟨s, s0, s1, es⟩ := e4.2.2 p p0 p1
          rw [es]
          by_cases f : s = i
          · rw [f, h3 i (by omega) c]; omega
          · have := h2 s s0 (by omega); omega)
        (fun p p0 p1 => by rw [e4.2.1 p (by omega) (by omega)]; exact h3 p (by omega) p1)
      exact ⟨r, g1, g2.trans e3, (e4.wide a0 (by omega) (by omega)).trans g3, g4⟩
    · rw [if_neg c]
      obtain rfl : i = b := by omega
      exact ⟨l, rfl, List.Perm.refl _, Seg.refl _ _ _, h1⟩
theorem ins_c {AT : Int → Int → Option Int} {K : Int → Int} {N : Int} (hA : Cmp AT K N) {a b u : Int} {l : List Int} (a0 : 0 ≤ a) (a1 : a ≤ b) (hab : b - a ≤ 20) (hb : b ≤ l.length) (hl : l.length ≤ 1000) (hN : Nam l N) (h : ∀ p : Int, a ≤ p → p < b → at_ l p = p) {k : Nat} (hk : 1000 ≤ k) :
    ∃ r, slices_insertionSortCmpFunc_int.f AT k l a b u = some r ∧ r.Perm l ∧ Seg l r a b ∧ Srt K r a b := by
  unfold slices_insertionSortCmpFunc_int.f
  rw [w64 (x := a + 1) (by omega) (by omega)]
  by_cases c : a + 1 ≤ b
  · exact ins_l hA a0 hab 20 k l (a + 1) (by omega) (by omega) hb hl hN (by omega) c (fun p q p0 p1 p2 => by omega) (fun p p0 p1 => by have := h p p0 (by omega); omega) (fun p p0 p1 => h p (by omega) p1)
  · obtain ⟨k, rfl⟩ : ∃ m, k = m + 1 := ⟨k - 1, by omega⟩
    exact ⟨l, by rw [slices_insertionSortCmpFunc_int.l0, if_neg (by omega)], List.Perm.refl _, Seg.refl _ _ _, fun p q p0 p1 p2 => by omega⟩
theorem swapR_l (AT : Int → Int → Option Int) {a b n : Int} (a0 : 0 ≤ a) (ab : a + n ≤ b) (d : Nat) : ∀ (k : Nat) (l : List Int) (i : Int), 0 ≤ i → i ≤ n → n - i = d → b + n ≤ l.length → l.length ≤ 1000 → d < k →
    ∃ r, slices_swapRangeCmpFunc_int.l0 AT k l a b n i = some r ∧ r.length = l.length ∧ r.Perm l ∧ ∀ p : Int, 0 ≤ p → at_ r p = if a + i ≤ p ∧ p < a + n then at_ l (p + (b - a)) else if b + i ≤ p ∧ p < b + n then at_ l (p - (b - a)) else at_ l p := by
  induction d with
  | zero =>
    intro k l i i0 i1 hd hb hl hk
    obtain ⟨k, rfl⟩ : ∃ m, k = m + 1 := ⟨k - 1, by omega⟩
    refine ⟨l, by rw [slices_swapRangeCmpFunc_int.l0, if_neg (by omega)], rfl, List.Perm.refl _, fun p p0 => ?_⟩
    rw [if_neg (by omega), if_neg (by omega)]
  | succ d ih =>
    intro k l i i0 i1 hd hb hl hk
    obtain ⟨k, rfl⟩ : ∃ m, k = m + 1 := ⟨k - 1, by omega⟩
    obtain ⟨r, e, h1, h2, h3⟩ := ih k (swp l (a + i) (b + i)) (i + 1) (by omega) (by omega) (by omega) (by rw [swp_len]; exact hb) (by rw [swp_len]; exact hl) (by omega)
    refine ⟨r, ?_, by rw [h1, swp_len], h2.trans (swp_perm (by omega) (by omega) (by omega) (by omega)), fun p p0 => ?_⟩
    · rw [slices_swapRangeCmpFunc_int.l0, if_pos (by omega), w64 (x := b + i) (by omega) (by omega), w64 (x := a + i) (by omega) (by omega), w64 (x := i + 1) (by omega) (by omega), if_pos (by omega), if_pos (by omega), if_pos (by omega), if_pos (by omega)]
      exact e
    · have hs : ∀ q : Int, 0 ≤ q → at_ (swp l (a + i) (b + i)) q = if q = b + i then at_ l (a + i) else if q = a + i then at_ l (b + i) else at_ l q := fun q q0 => swp_at (by omega) (by omega) (by omega) (by omega) q0
      rw [h3 p p0]
      by_cases c1 : a + (i + 1) ≤ p ∧ p < a + n
      · rw [if_pos c1, if_pos (by omega), hs _ (by omega), if_neg (by omega), if_neg (by omega)]
      · rw [if_neg c1]
        by_cases c2 : b + (i + 1) ≤ p ∧ p < b + n
        · rw [if_pos c2, if_neg (by omega), if_pos (by omega), hs _ (by omega), if_neg (by omega), if_neg (by omega)]
        · rw [if_neg c2, hs p p0]
          by_cases c3 : p = b + i
          · rw [if_pos c3, if_neg (by omega), if_pos (by omega), show p - (b - a) = a + i by omega]
          · rw [if_neg c3]
            by_cases c4 : p = a + i
            · rw [if_pos c4, if_pos (by omega), show p + (b - a) = b + i by omega]
            · rw [if_neg c4, if_neg (by omega), if_neg (by omega)]
theorem rotl_c (AT : Int → Int → Option Int) {m u : Int} (s : Nat) : ∀ (k : Nat) (l : List Int) (i j : Int), 1 ≤ i → 1 ≤ j → i + j ≤ s → 0 ≤ m - i → m + j ≤ l.length → l.length ≤ 1000 → s + 2000 < k →
    ∃ r, slices_rotateCmpFunc_int.l0 AT k l m u i j = some r ∧ r.length = l.length ∧ r.Perm l ∧ ∀ p : Int, 0 ≤ p → at_ r p = rotF (at_ l) (m - i) m (m + j) p := by
  induction s with
  | zero => intro k l i j hi hj hs; omega
  | succ s ih =>
    intro k l i j hi hj hs h0 h1 hl hk
    obtain ⟨k, rfl⟩ : ∃ m, k = m + 1 := ⟨k - 1, by omega⟩
    rw [slices_rotateCmpFunc_int.l0]
    by_cases c1 : i = j
    · subst c1
      rw [if_pos rfl, w64 (x := m - i) (by omega) (by omega)]
      obtain ⟨r, e, h2, h3, h4⟩ := swapR_l AT (a := m - i) (b := m) (n := i) (by omega) (by omega) i.toNat k l 0 (by omega) (by omega) (by omega) (by omega) hl (by omega)
      unfold slices_swapRangeCmpFunc_int.f
      rw [e, Option.bind_some]
      refine ⟨r, rfl, h2, h3, fun p p0 => ?_⟩
      rw [h4 p p0]; unfold rotF
      by_cases d1 : m - i + 0 ≤ p ∧ p < m - i + i
      · rw [if_pos d1, if_pos (by omega), if_pos (by omega)]
      · rw [if_neg d1]
        by_cases d2 : m + 0 ≤ p ∧ p < m + i
        · rw [if_pos d2, if_pos (by omega), if_neg (by omega)]; congr 1; omega
        · rw [if_neg d2, if_neg (by omega)]
    · rw [if_neg c1]
      by_cases c2 : i > j
      · rw [if_pos c2, w64 (x := m - i) (by omega) (by omega), w64 (x := i - j) (by omega) (by omega)]
        obtain ⟨l1, e, h2, h3, h4⟩ := swapR_l AT (a := m - i) (b := m) (n := j) (by omega) (by omega) j.toNat k l 0 (by omega) (by omega) (by omega) (by omega) hl (by omega)
        unfold slices_swapRangeCmpFunc_int.f
        rw [e, Option.bind_some]
        obtain ⟨r, e2, g2, g3, g4⟩ := ih k l1 (i - j) j (by omega) hj (by omega) (by omega) (by omega) (by omega) (by omega)
        refine ⟨r, e2, g2.trans h2, g3.trans h3, fun p p0 => ?_⟩
        rw [g4 p p0]; unfold rotF
        by_cases d1 : m - (i - j) ≤ p ∧ p < m + j
        · rw [if_pos d1, if_pos (show m - i ≤ p ∧ p < m + j by omega)]
          by_cases d2 : p < m - (i - j) + (m + j - m)
          · rw [if_pos d2, h4 _ (by omega), if_neg (by omega), if_pos (by omega), if_neg (by omega)]; congr 1; omega
          · rw [if_neg d2, h4 _ (by omega), if_neg (by omega), if_neg (by omega), if_neg (by omega)]
        · rw [if_neg d1, h4 p p0]
          by_cases d2 : m - i + 0 ≤ p ∧ p < m - i + j
          · rw [if_pos d2, if_pos (by omega), if_pos (by omega)]
          · rw [if_neg d2, if_neg (by omega), if_neg (by omega)]
      · rw [if_neg c2, w64 (x := m - i) (by omega) (by omega), w64 (x := m + j) (by omega) (by omega), w64 (x := m + j - i) (by omega) (by omega), w64 (x := j - i) (by omega) (by omega)]
        obtain ⟨l1, e, h2, h3, h4⟩ := swapR_l AT (a := m - i) (b := m + j - i) (n := i) (by omega) (by omega) i.toNat k l 0 (by omega) (by omega) (by omega) (by omega) hl (by omega)
        unfold slices_swapRangeCmpFunc_int.f
        rw [e, Option.bind_some]
        obtain ⟨r, e2, g2, g3, g4⟩ := ih k l1 i (j - i) hi (by omega) (by omega) h0 (by omega) (by omega) (by omega)
        refine ⟨r, e2, g2.trans h2, g3.trans h3, fun p p0 => ?_⟩
        rw [g4 p p0]; unfold rotF
        by_cases d1 : m - i ≤ p ∧ p < m + (j - i)
        · rw [if_pos d1, if_pos (show m - i ≤ p ∧ p < m + j by omega)]
          by_cases d2 : p < m - i + (m + (j - i) - m)
          · rw [if_pos d2, h4 _ (by omega), if_neg (by omega), if_neg (by omega), if_pos (by omega)]
          · rw [if_neg d2, h4 _ (by omega), if_pos (by omega), if_pos (by omega)]; congr 1; omega
        · rw [if_neg d1, h4 p p0]
          by_cases d2 : m + j - i + 0 ≤ p ∧ p < m + j - i + i
          · rw [if_neg (by omega), if_pos d2, if_pos (by omega), if_neg (by omega)]; congr 1; omega
          · rw [if_neg (by omega), if_neg d2, if_neg (by omega)]
theorem rot_c (AT : Int → Int → Option Int) {a m b u : Int} {l : List Int} (h0 : 0 ≤ a) (h1 : a < m) (h2 : m < b) (h3 : b ≤ l.length) (hl : l.length ≤ 1000) {k : Nat} (hk : 3100 ≤ k) :
    ∃ r, slices_rotateCmpFunc_int.f AT k l a m b u = some r ∧ r.length = l.length ∧ r.Perm l ∧ ∀ p : Int, 0 ≤ p → at_ r p = rotF (at_ l) a m b p := by
  unfold slices_rotateCmpFunc_int.f
  rw [w64 (x := m - a) (by omega) (by omega), w64 (x := b - m) (by omega) (by omega)]
  obtain ⟨r, e, g1, g2, g3⟩ := rotl_c AT (m := m) (u := u) 1000 k l (m - a) (b - m) (by omega) (by omega) (by omega) (by omega) (by omega) hl (by omega)
  refine ⟨r, e, g1, g2, fun p p0 => ?_⟩
  rw [g3 p p0, show m - (m - a) = a by omega, show m + (b - m) = b by omega]
theorem half_c {x y : Int} (h0 : 0 ≤ x) (h1 : 0 ≤ y) (h2 : x + y ≤ 100000) : wrap64 ((IntKind.u64.wrap (wrap64 (x + y))) / 2) = (x + y) / 2 := by
  rw [w64 (x := x + y) (by omega) (by omega), IntKind.wrap_u64, w64 (by omega) (by omega)]; omega
theorem Two.far {K : Int → Int} {l r : List Int} {a m b c d : Int} (h : Two K l a m b) (hs : Seg l r c d) (h0 : 0 ≤ a) (hm : a ≤ m) (hm2 : m ≤ b) (hf : b ≤ c ∨ d ≤ a) : Two K r a m b :=
  ⟨fun p q p0 p1 p2 => by rw [hs.2.1 p (by omega) (by omega), hs.2.1 q (by omega) (by omega)]; exact h.1 p q p0 p1 p2,
   fun p q p0 p1 p2 => by rw [hs.2.1 p (by omega) (by omega), hs.2.1 q (by omega) (by omega)]; exact h.2.1 p q p0 p1 p2,
   fun p q p0 p1 p2 p3 => by rw [hs.2.1 p (by omega) (by omega), hs.2.1 q (by omega) (by omega)]; exact h.2.2 p q p0 p1 p2 p3⟩
theorem sm_shift (AT : Int → Int → Option Int) {i : Int} (d : Nat) : ∀ (k : Nat) (l : List Int) (c : Int), 0 ≤ c → c < i → i - 1 - c = d → i ≤ l.length → l.length ≤ 1000 → d < k →
    ∃ r, slices_symMergeCmpFunc_int.l1 AT k l i c = some r ∧ r.length = l.length ∧ r.Perm l ∧ ∀ p : Int, 0 ≤ p → at_ r p = rotF (at_ l) c (c + 1) i p := by
  induction d with
  | zero =>
    intro k l c c0 c1 hd hi hl hk
    obtain ⟨k, rfl⟩ : ∃ m, k = m + 1 := ⟨k - 1, by omega⟩
    refine ⟨l, by rw [slices_symMergeCmpFunc_int.l1, w64 (x := i - 1) (by omega) (by omega), if_neg (by omega)], rfl, List.Perm.refl _, fun p p0 => ?_⟩
    unfold rotF
    by_cases e : c ≤ p ∧ p < i
    · rw [if_pos e, if_neg (by omega)]; congr 1; omega
    · rw [if_neg e]
  | succ d ih =>
    intro k l c c0 c1 hd hi hl hk
    obtain ⟨k, rfl⟩ : ∃ m, k = m + 1 := ⟨k - 1, by omega⟩
    obtain ⟨r, e, h1, h2, h3⟩ := ih k (swp l c (c + 1)) (c + 1) (by omega) (by omega) (by omega) (by rw [swp_len]; exact hi) (by rw [swp_len]; exact hl) (by omega)
    refine ⟨r, ?_, by rw [h1, swp_len], h2.trans (swp_perm (by omega) (by omega) (by omega) (by omega)), fun p p0 => ?_⟩
    · rw [slices_symMergeCmpFunc_int.l1, w64 (x := i - 1) (by omega) (by omega), if_pos (by omega), w64 (x := c + 1) (by omega) (by omega), if_pos (by omega), if_pos (by omega), if_pos (by omega), if_pos (by omega)]
      exact e
    · have hs : ∀ q : Int, 0 ≤ q → at_ (swp l c (c + 1)) q = if q = c + 1 then at_ l c else if q = c then at_ l (c + 1) else at_ l q := fun q q0 => swp_at (by omega) (by omega) (by omega) (by omega) q0
      rw [h3 p p0]; unfold rotF
      by_cases d1 : c + 1 ≤ p ∧ p < i
      · rw [if_pos d1, if_pos (show c ≤ p ∧ p < i by omega)]
        by_cases d2 : p < c + 1 + (i - (c + 1 + 1))
        · rw [if_pos d2, if_pos (show p < c + (i - (c + 1)) by omega), hs _ (by omega), if_neg (by omega), if_neg (by omega)]; congr 1; omega
        · rw [if_neg d2, if_neg (show ¬ p < c + (i - (c + 1)) by omega), hs _ (by omega), if_pos (by omega)]; congr 1; omega
      · rw [if_neg d1, hs p p0, if_neg (by omega)]
        by_cases d2 : p = c
        · rw [if_pos d2, if_pos (show c ≤ p ∧ p < i by omega), if_pos (by omega)]; congr 1; omega
        · rw [if_neg d2, if_neg (by omega)]
theorem sm_sink (AT : Int → Int → Option Int) {i : Int} (i0 : 0 ≤ i) (d : Nat) : ∀ (k : Nat) (l : List Int) (c : Int), i ≤ c → c - i = d → c < l.length → l.length ≤ 1000 → d < k →
    ∃ r, slices_symMergeCmpFunc_int.l3 AT k l i c = some r ∧ r.length = l.length ∧ r.Perm l ∧ ∀ p : Int, 0 ≤ p → at_ r p = rotF (at_ l) i c (c + 1) p := by
  induction d with
  | zero =>
    intro k l c c0 hd hi hl hk
    obtain ⟨k, rfl⟩ : ∃ m, k = m + 1 := ⟨k - 1, by omega⟩
    refine ⟨l, by rw [slices_symMergeCmpFunc_int.l3, if_neg (by omega)], rfl, List.Perm.refl _, fun p p0 => ?_⟩
    unfold rotF
    by_cases e : i ≤ p ∧ p < c + 1
    · rw [if_pos e, if_pos (by omega)]; congr 1; omega
    · rw [if_neg e]
  | succ d ih =>
    intro k l c c0 hd hi hl hk
    obtain ⟨k, rfl⟩ : ∃ m, k = m + 1 := ⟨k - 1, by omega⟩
    obtain ⟨r, e, h1, h2, h3⟩ := ih k (swp l c (c - 1)) (c - 1) (by omega) (by omega) (by rw [swp_len]; omega) (by rw [swp_len]; exact hl) (by omega)
    refine ⟨r, ?_, by rw [h1, swp_len], h2.trans (swp_perm (by omega) (by omega) (by omega) (by omega)), fun p p0 => ?_⟩
    · rw [slices_symMergeCmpFunc_int.l3, if_pos (by omega), w64 (x := c - 1) (by omega) (by omega), if_pos (by omega), if_pos (by omega), if_pos (by omega), if_pos (by omega)]
      exact e
    · have hs : ∀ q : Int, 0 ≤ q → at_ (swp l c (c - 1)) q = if q = c - 1 then at_ l c else if q = c then at_ l (c - 1) else at_ l q := fun q q0 => swp_at (by omega) (by omega) (by omega) (by omega) q0
      rw [h3 p p0]; unfold rotF
      by_cases d1 : i ≤ p ∧ p < c - 1 + 1
      · rw [if_pos d1, if_pos (show i ≤ p ∧ p < c + 1 by omega)]
        by_cases d2 : p < i + (c - 1 + 1 - (c - 1))
        · rw [if_pos d2, if_pos (show p < i + (c + 1 - c) by omega), hs _ (by omega), if_pos (by omega)]; congr 1; omega
        · rw [if_neg d2, if_neg (show ¬ p < i + (c + 1 - c) by omega), hs _ (by omega), if_neg (by omega), if_neg (by omega)]; congr 1; omega
      · rw [if_neg d1, hs p p0, if_neg (by omega)]
        by_cases d2 : p = c
        · rw [if_pos d2, if_pos (show i ≤ p ∧ p < c + 1 by omega), if_neg (by omega)]; congr 1; omega
        · rw [if_neg d2, if_neg (by omega)]
theorem sm_find {AT : Int → Int → Option Int} {K : Int → Int} {N : Int} (hA : Cmp AT K N) {a b : Int} {l : List Int} (a0 : 0 ≤ a) (hb : b ≤ l.length) (hl : l.length ≤ 1000) (hN : Nam l N) (hs : Srt K l (a + 1) b) (d : Nat) :
    ∀ (k : Nat) (i j : Int), a + 1 ≤ i → i ≤ j → j ≤ b → j - i ≤ d → (∀ q : Int, a + 1 ≤ q → q < i → K (at_ l q) < K (at_ l a)) → (∀ q : Int, j ≤ q → q < b → ¬ K (at_ l q) < K (at_ l a)) →
    ∃ (k' : Nat) (i' : Int), k ≤ k' ∧ slices_symMergeCmpFunc_int.l0 AT (k + d + 1) l a i j = slices_symMergeCmpFunc_int.l1 AT k' l i' a ∧ a + 1 ≤ i' ∧ i' ≤ b ∧ (∀ q : Int, a + 1 ≤ q → q < i' → K (at_ l q) < K (at_ l a)) ∧ (∀ q : Int, i' ≤ q → q < b → ¬ K (at_ l q) < K (at_ l a)) := by
  have kle : ∀ p q : Int, a + 1 ≤ p → p ≤ q → q < b → K (at_ l p) ≤ K (at_ l q) := fun p q h1 h2 h3 => by
    by_cases e : p = q
    · rw [e]; omega
    · exact bef_le (hs p q h1 (by omega) h3)
  induction d with
  | zero =>
    intro k i j i0 ij jb hd lo hi
    obtain rfl : i = j := by omega
    exact ⟨k, i, Nat.le_refl _, by rw [slices_symMergeCmpFunc_int.l0, if_neg (by omega)], i0, jb, lo, hi⟩
  | succ d ih =>
    intro k i j i0 ij jb hd lo hi
    by_cases c : i < j
    · rw [← Nat.add_assoc, slices_symMergeCmpFunc_int.l0, if_pos c, half_c (by omega) (by omega) (by omega)]
      obtain ⟨v, ev, hv⟩ := hA (at_ l ((i + j) / 2)) (at_ l a) (hN.at (by omega) (by omega)).1 (hN.at (by omega) (by omega)).2 (hN.at (by omega) (by omega)).1 (hN.at (by omega) (by omega)).2
      rw [if_pos (by omega), if_pos (by omega), if_pos a0, if_pos (by omega), rd_at, rd_at, ev, Option.bind_some]
      by_cases c0 : v < 0
      · rw [if_pos c0, w64 (x := (i + j) / 2 + 1) (by omega) (by omega)]
        have hk := hv.mp c0
        exact ih k ((i + j) / 2 + 1) j (by omega) (by omega) jb (by omega) (fun q q0 q1 => by have := kle q ((i + j) / 2) q0 (by omega) (by omega); omega) hi
      · rw [if_neg c0]
        have hk : ¬ _ := fun x => c0 (hv.mpr x)
        exact ih k i ((i + j) / 2) i0 (by omega) (by omega) (by omega) lo (fun q q0 q1 => by have := kle ((i + j) / 2) q (by omega) q0 q1; omega)
    · rw [slices_symMergeCmpFunc_int.l0, if_neg c]
      obtain rfl : i = j := by omega
      exact ⟨k + (d + 1), i, by omega, rfl, i0, jb, lo, hi⟩
theorem sm_find2 {AT : Int → Int → Option Int} {K : Int → Int} {N : Int} (hA : Cmp AT K N) {a m : Int} {l : List Int} (a0 : 0 ≤ a) (hb : m < l.length) (hl : l.length ≤ 1000) (hN : Nam l N) (hs : Srt K l a m) (d : Nat) :
    ∀ (k : Nat) (i j : Int), a ≤ i → i ≤ j → j ≤ m → j - i ≤ d → (∀ q : Int, a ≤ q → q < i → ¬ K (at_ l m) < K (at_ l q)) → (∀ q : Int, j ≤ q → q < m → K (at_ l m) < K (at_ l q)) →
    ∃ (k' : Nat) (i' : Int), k ≤ k' ∧ slices_symMergeCmpFunc_int.l2 AT (k + d + 1) l m i j = slices_symMergeCmpFunc_int.l3 AT k' l i' m ∧ a ≤ i' ∧ i' ≤ m ∧ (∀ q : Int, a ≤ q → q < i' → ¬ K (at_ l m) < K (at_ l q)) ∧ (∀ q : Int, i' ≤ q → q < m → K (at_ l m) < K (at_ l q)) := by
  have kle : ∀ p q : Int, a ≤ p → p ≤ q → q < m → K (at_ l p) ≤ K (at_ l q) := fun p q h1 h2 h3 => by
    by_cases e : p = q
    · rw [e]; omega
    · exact bef_le (hs p q h1 (by omega) h3)
  induction d with
  | zero =>
    intro k i j i0 ij jb hd lo hi
    obtain rfl : i = j := by omega
    exact ⟨k, i, Nat.le_refl _, by rw [slices_symMergeCmpFunc_int.l2, if_neg (by omega)], i0, jb, lo, hi⟩
  | succ d ih =>
    intro k i j i0 ij jb hd lo hi
    by_cases c : i < j
    · rw [← Nat.add_assoc, slices_symMergeCmpFunc_int.l2, if_pos c, half_c (by omega) (by omega) (by omega)]
      obtain ⟨v, ev, hv⟩ := hA (at_ l m) (at_ l ((i + j) / 2)) (hN.at (by omega) (by omega)).1 (hN.at (by omega) (by omega)).2 (hN.at (by omega) (by omega)).1 (hN.at (by omega) (by omega)).2
      rw [if_pos (by omega), if_pos (by omega), if_pos (by omega), if_pos (by omega), rd_at, rd_at, ev, Option.bind_some]
      by_cases c0 : v < 0
      · rw [if_pos c0]
        have hk := hv.mp c0
        exact ih k i ((i + j) / 2) i0 (by omega) (by omega) (by omega) lo (fun q q0 q1 => by have := kle ((i + j) / 2) q (by omega) q0 q1; omega)
      · rw [if_neg c0, w64 (x := (i + j) / 2 + 1) (by omega) (by omega)]
        have hk : ¬ _ := fun x => c0 (hv.mpr x)
        exact ih k ((i + j) / 2 + 1) j (by omega) (by omega) jb (by omega) (fun q q0 q1 => by have := kle q ((i + j) / 2) q0 (by omega) (by omega); omega) hi
    · rw [slices_symMergeCmpFunc_int.l2, if_neg c]
      obtain rfl : i = j := by omega
      exact ⟨k + (d + 1), i, by omega, rfl, i0, jb, lo, hi⟩
theorem sm_cut {AT : Int → Int → Option Int} {K : Int → Int} {N : Int} (hA : Cmp AT K N) {a m b u mid n i0 j0 : Int} {l : List Int} (hl : l.length ≤ 1000) (hN : Nam l N) (n0 : 0 ≤ n) (n1 : n ≤ 2000) (hj : j0 ≤ 1000) (hi0 : 0 ≤ i0)
    (hin : ∀ c : Int, i0 ≤ c → c < j0 → c < l.length ∧ 0 ≤ n - 1 - c ∧ n - 1 - c < l.length) (d : Nat) :
    ∀ (k : Nat) (i j : Int), i0 ≤ i → i ≤ j → j ≤ j0 → j - i ≤ d → (i = i0 ∨ ¬ K (at_ l (n - 1 - (i - 1))) < K (at_ l (i - 1))) → (j = j0 ∨ K (at_ l (n - 1 - j)) < K (at_ l j)) →
    ∃ (k' : Nat) (s : Int), k ≤ k' ∧ slices_symMergeCmpFunc_int.l4 AT (k + d + 1) l a m b u mid n i j (n - 1) = (if s < m then slices_symMergeCmpFunc_int.j6 AT k' l a m b u mid s (wrap64 (n - s)) (decide (m < wrap64 (n - s))) else slices_symMergeCmpFunc_int.j6 AT k' l a m b u mid s (wrap64 (n - s)) false) ∧ i0 ≤ s ∧ s ≤ j0 ∧
      (s = i0 ∨ ¬ K (at_ l (n - 1 - (s - 1))) < K (at_ l (s - 1))) ∧ (s = j0 ∨ K (at_ l (n - 1 - s)) < K (at_ l s)) := by
  induction d with
  | zero =>
    intro k i j i1 ij jb hd lo hi
    obtain rfl : i = j := by omega
    exact ⟨k, i, Nat.le_refl _, by rw [slices_symMergeCmpFunc_int.l4, if_neg (by omega)], i1, jb, lo, hi⟩
  | succ d ih =>
    intro k i j i1 ij jb hd lo hi
    by_cases c : i < j
    · have hh := hin ((i + j) / 2) (by omega) (by omega)
      rw [← Nat.add_assoc, slices_symMergeCmpFunc_int.l4, if_pos c, half_c (by omega) (by omega) (by omega), w64 (x := n - 1 - (i + j) / 2) (by omega) (by omega)]
      have q1 := hN.at (p := n - 1 - (i + j) / 2) (by omega) (by omega)
      have q2 := hN.at (p := (i + j) / 2) (by omega) (by omega)
      obtain ⟨v, ev, hv⟩ := hA (at_ l (n - 1 - (i + j) / 2)) (at_ l ((i + j) / 2)) q1.1 q1.2 q2.1 q2.2
      rw [if_pos (by omega), if_pos (by omega), if_pos (by omega), if_pos (by omega), rd_at, rd_at, ev, Option.bind_some]
      by_cases c0 : v < 0
      · rw [if_pos c0]
        exact ih k i ((i + j) / 2) i1 (by omega) (by omega) (by omega) lo (.inr (hv.mp c0))
      · rw [if_neg c0, w64 (x := (i + j) / 2 + 1) (by omega) (by omega)]
        have hk : ¬ _ := fun x => c0 (hv.mpr x)
        exact ih k ((i + j) / 2 + 1) j (by omega) (by omega) jb (by omega) (.inr (by rw [show (i + j) / 2 + 1 - 1 = (i + j) / 2 by omega]; exact hk)) hi
    · rw [slices_symMergeCmpFunc_int.l4, if_neg c]
      obtain rfl : i = j := by omega
      exact ⟨k + (d + 1), i, by omega, rfl, i1, jb, lo, hi⟩
set_option maxRecDepth 20000 in
theorem merge_c {AT : Int → Int → Option Int} {K : Int → Int} {N : Int} (hA : Cmp AT K N) (S : Nat) : ∀ (k : Nat) (l : List Int) (a m b u : Int), 0 ≤ a → a < m → m < b → b - a ≤ S → b ≤ l.length → l.length ≤ 1000 → Nam l N → Two K l a m b → 1100 * S + 5000 ≤ k →
    ∃ r, slices_symMergeCmpFunc_int.f AT k l a m b u = some r ∧ r.Perm l ∧ Seg l r a b ∧ Srt K r a b := by
  induction S with
  | zero => intro k l a m b u a0 am mb hs; omega
  | succ S ih =>
    intro k l a m b u a0 am mb hs hb hl hN h hk
    obtain ⟨k, rfl⟩ : ∃ q, k = q + 1 := ⟨k - 1, by omega⟩
    rw [slices_symMergeCmpFunc_int.f, w64 (x := m - a) (by omega) (by omega), w64 (x := b - m) (by omega) (by omega)]
    by_cases c1 : m - a = 1
    · obtain rfl : m = a + 1 := by omega
      rw [if_pos c1]
      obtain ⟨q, rfl⟩ : ∃ q, k = q + 1000 + 1 := ⟨k - 1001, by omega⟩
      obtain ⟨k', i, e1, e2, e3, e4, lo, hi⟩ := sm_find hA a0 hb hl hN h.2.1 1000 q (a + 1) b (by omega) (by omega) (by omega) (by omega) (fun x x0 x1 => by omega) (fun x x0 x1 => by omega)
      obtain ⟨r, g1, g2, g3, g4⟩ := sm_shift AT (i := i) (i - 1 - a).toNat k' l a a0 (by omega) (by omega) (by omega) hl (by omega)
      rw [e2, g1]
      exact ⟨r, rfl, g3, (rot_seg a0 (by omega) (by omega) g2 g4).wide a0 (by omega) e4, one_left a0 h e3 e4 lo hi g4⟩
    rw [if_neg c1]
    by_cases c2 : b - m = 1
    · obtain rfl : b = m + 1 := by omega
      rw [if_pos c2]
      obtain ⟨q, rfl⟩ : ∃ q, k = q + 1000 + 1 := ⟨k - 1001, by omega⟩
      obtain ⟨k', i, e1, e2, e3, e4, lo, hi⟩ := sm_find2 hA a0 (by omega) hl hN h.1 1000 q a m (by omega) (by omega) (by omega) (by omega) (fun x x0 x1 => by omega) (fun x x0 x1 => by omega)
      obtain ⟨r, g1, g2, g3, g4⟩ := sm_sink AT (i := i) (by omega) (m - i).toNat k' l m e4 (by omega) (by omega) hl (by omega)
      rw [e2, g1]
      exact ⟨r, rfl, g3, (rot_seg (by omega) e4 (by omega) g2 g4).wide a0 e3 (Int.le_refl _), one_right a0 h e3 e4 lo hi g4⟩
    rw [if_neg c2, half_c (by omega) (by omega) (by omega)]
    generalize hmid : (a + b) / 2 = mid
    have m0 : a < mid ∧ mid < b := by omega
    rw [w64 (x := mid + m) (by omega) (by omega), w64 (x := mid + m - b) (by omega) (by omega)]
    have fin : ∀ (k' : Nat) (s : Int), 1100 * S + 5000 + 10 ≤ k' → a ≤ s → s ≤ m → s ≤ mid → m ≤ mid + m - s → mid + m - s ≤ b → (m < mid + m - s → s < m → K (at_ l (mid + m - s - 1)) < K (at_ l s)) → (a < s → mid + m - s < b → ¬ K (at_ l (mid + m - s)) < K (at_ l (s - 1))) →
        ∃ r, (if s < m then slices_symMergeCmpFunc_int.j6 AT k' l a m b u mid s (wrap64 (mid + m - s)) (decide (m < wrap64 (mid + m - s))) else slices_symMergeCmpFunc_int.j6 AT k' l a m b u mid s (wrap64 (mid + m - s)) false) = some r ∧ r.Perm l ∧ Seg l r a b ∧ Srt K r a b := by
      intro k' s hk' s0 s1 s2 e0 e1 cut1 cut2
      rw [w64 (x := mid + m - s) (by omega) (by omega)]
      obtain ⟨k', rfl⟩ : ∃ q, k' = q + 1 + 1 + 1 := ⟨k' - 3, by omega⟩
      have rest : ∀ (l1 : List Int), l1.Perm l → Seg l l1 a b → (∀ p : Int, 0 ≤ p → at_ l1 p = rotF (at_ l) s m (mid + m - s) p) → ∃ r, slices_symMergeCmpFunc_int.j7 AT (k' + 1 + 1) l1 a b u mid s (mid + m - s) = some r ∧ r.Perm l ∧ Seg l r a b ∧ Srt K r a b := by
        intro l1 hp hsg hr
        obtain ⟨t1, t2, hbf⟩ := halves a0 h s0 s1 e0 e1 cut1 cut2 hr
        have hl1 := hsg.1
        have first : ∃ l2, (l2.Perm l1 ∧ Seg l1 l2 a mid ∧ Srt K l2 a mid) ∧ (if a < s ∧ s < mid then slices_symMergeCmpFunc_int.f AT k' l1 a s mid u = some l2 else l2 = l1) := by
          by_cases c : a < s ∧ s < mid
          · obtain ⟨l2, g1, g2, g3, g4⟩ := ih k' l1 a s mid u a0 c.1 c.2 (by omega) (by omega) (by omega) (hN.perm hp) t1 (by omega)
            exact ⟨l2, ⟨g2, g3, g4⟩, by rw [if_pos c]; exact g1⟩
          · refine ⟨l1, ⟨List.Perm.refl _, Seg.refl _ _ _, ?_⟩, by rw [if_neg c]⟩
            by_cases c3 : s = a
            · rw [← c3]; exact t1.2.1
            · rw [show mid = s by omega]; exact t1.1
        obtain ⟨l2, ⟨p2, g2, o2⟩, f2⟩ := first
        have hl2 := g2.1
        have t2' : Two K l2 mid (mid + m - s) b := Two.far t2 g2 (by omega) (by omega) e1 (by omega)
        have second : ∃ r, (r.Perm l2 ∧ Seg l2 r mid b ∧ Srt K r mid b) ∧ (if mid < mid + m - s ∧ mid + m - s < b then slices_symMergeCmpFunc_int.f AT k' l2 mid (mid + m - s) b u = some r else r = l2) := by
          by_cases c : mid < mid + m - s ∧ mid + m - s < b
          · obtain ⟨r, g1, g3, g4, g5⟩ := ih k' l2 mid (mid + m - s) b u (by omega) c.1 c.2 (by omega) (by omega) (by omega) ((hN.perm hp).perm p2) t2' (by omega)
            exact ⟨r, ⟨g3, g4, g5⟩, by rw [if_pos c]; exact g1⟩
          · refine ⟨l2, ⟨List.Perm.refl _, Seg.refl _ _ _, ?_⟩, by rw [if_neg c]⟩
            by_cases c3 : mid + m - s = mid
            · have := t2'.2.1; rw [c3] at this; exact this
            · have := t2'.1; rw [show mid + m - s = b by omega] at this; exact this
        obtain ⟨r, ⟨p3, g3, o3⟩, f3⟩ := second
        refine ⟨r, ?_, (p3.trans p2).trans hp, hsg.trans ((g2.wide a0 (Int.le_refl _) (by omega)).trans (g3.wide a0 (by omega) (Int.le_refl _))), joined a0 (by omega) (by omega) hbf g2 o2 g3 o3⟩
        have sec : ∀ x : List Int, x = l2 → (if mid < mid + m - s then (if mid + m - s < b then ((slices_symMergeCmpFunc_int.f AT k' x mid (mid + m - s) b u).bind fun t => some t) else some x) else some x) = some r := by
          intro x ex
          rw [ex]
          by_cases d1 : mid < mid + m - s
          · rw [if_pos d1]
            by_cases d2 : mid + m - s < b
            · rw [if_pos d2]; rw [if_pos ⟨d1, d2⟩] at f3; rw [f3]; rfl
            · rw [if_neg d2]; rw [if_neg (fun y => d2 y.2)] at f3; rw [f3]
          · rw [if_neg d1]; rw [if_neg (fun y => d1 y.1)] at f3; rw [f3]
        rw [slices_symMergeCmpFunc_int.j7]
        by_cases d0 : a < s
        · rw [if_pos d0, slices_symMergeCmpFunc_int.j8]
          by_cases d1 : s < mid
          · rw [if_pos (decide_eq_true d1)]; rw [if_pos ⟨d0, d1⟩] at f2; rw [f2, Option.bind_some]; exact sec l2 rfl
          · rw [if_neg (by rw [decide_eq_true_iff]; exact d1)]; rw [if_neg (fun y => d1 y.2)] at f2; exact sec l1 f2.symm
        · rw [if_neg d0, slices_symMergeCmpFunc_int.j8, if_neg (by decide)]; rw [if_neg (fun y => d0 y.1)] at f2; exact sec l1 f2.symm
      by_cases d0 : s < m
      · rw [if_pos d0, slices_symMergeCmpFunc_int.j6]
        by_cases d1 : m < mid + m - s
        · rw [if_pos (decide_eq_true d1)]
          obtain ⟨l1, g1, g2, g3, g4⟩ := rot_c AT (u := u) (by omega) d0 d1 (by omega) hl (k := k' + 1 + 1) (by omega)
          rw [g1, Option.bind_some]
          exact rest l1 g3 ((rot_seg (by omega) (by omega) (by omega) g2 g4).wide a0 (by omega) (by omega)) g4
        · rw [if_neg (by rw [decide_eq_true_iff]; exact d1)]
          refine rest l (List.Perm.refl _) (Seg.refl _ _ _) (fun p p0 => ?_)
          unfold rotF
          by_cases e : s ≤ p ∧ p < mid + m - s
          · rw [if_pos e, if_neg (by omega)]; congr 1; omega
          · rw [if_neg e]
      · rw [if_neg d0, slices_symMergeCmpFunc_int.j6, if_neg (by decide)]
        refine rest l (List.Perm.refl _) (Seg.refl _ _ _) (fun p p0 => ?_)
        unfold rotF
        by_cases e : s ≤ p ∧ p < mid + m - s
        · rw [if_pos e, if_pos (by omega)]; congr 1; omega
        · rw [if_neg e]
    obtain ⟨k, rfl⟩ : ∃ q, k = q + 1000 + 1 + 1 := ⟨k - 1002, by omega⟩
    by_cases c3 : m > mid
    · rw [if_pos c3, slices_symMergeCmpFunc_int.j4, w64 (x := mid + m - 1) (by omega) (by omega)]
      obtain ⟨k', s, e1, e2, s0, s1, lo, hi⟩ := sm_cut hA (a := a) (m := m) (b := b) (u := u) (mid := mid) (n := mid + m) (i0 := mid + m - b) (j0 := mid) hl hN (by omega) (by omega) (by omega) (by omega) (fun c d0 d1 => by omega) 1000 k (mid + m - b) mid (by omega) (by omega) (by omega) (by omega) (.inl rfl) (.inl rfl)
      rw [e2]
      refine fin k' s (by omega) (by omega) (by omega) s1 (by omega) (by omega) (fun d0 d1 => ?_) (fun d0 d1 => ?_)
      · rcases hi with e | e
        · omega
        · rw [show mid + m - s - 1 = mid + m - 1 - s by omega]; exact e
      · rcases lo with e | e
        · omega
        · rw [show mid + m - s = mid + m - 1 - (s - 1) by omega]; exact e
    · rw [if_neg c3, slices_symMergeCmpFunc_int.j4, w64 (x := mid + m - 1) (by omega) (by omega)]
      obtain ⟨k', s, e1, e2, s0, s1, lo, hi⟩ := sm_cut hA (a := a) (m := m) (b := b) (u := u) (mid := mid) (n := mid + m) (i0 := a) (j0 := m) hl hN (by omega) (by omega) (by omega) (by omega) (fun c d0 d1 => by omega) 1000 k a m (by omega) (by omega) (by omega) (by omega) (.inl rfl) (.inl rfl)
      rw [e2]
      refine fin k' s (by omega) s0 s1 (by omega) (by omega) (by omega) (fun d0 d1 => ?_) (fun d0 d1 => ?_)
      · rcases hi with e | e
        · omega
        · rw [show mid + m - s - 1 = mid + m - 1 - s by omega]; exact e
      · rcases lo with e | e
        · omega
        · rw [show mid + m - s = mid + m - 1 - (s - 1) by omega]; exact e
def Blk (K : Int → Int) (l : List Int) (c d : Int) : Prop := Srt K l c d ∧ ∀ p : Int, c ≤ p → p < d → c ≤ at_ l p ∧ at_ l p < d
theorem Blk.far {K : Int → Int} {l r : List Int} {a b c d : Int} (h : Blk K l c d) (hs : Seg l r a b) (h0 : 0 ≤ c) (hf : d ≤ a ∨ b ≤ c) : Blk K r c d :=
  ⟨h.1.far hs h0 hf, fun p p0 p1 => by rw [hs.2.1 p (by omega) (by omega)]; exact h.2 p p0 p1⟩
theorem Blk.two {K : Int → Int} {l : List Int} {a m b : Int} (h1 : Blk K l a m) (h2 : Blk K l m b) : Two K l a m b :=
  ⟨h1.1, h2.1, fun p q p0 p1 q0 q1 => by have := (h1.2 p p0 p1).2; have := (h2.2 q q0 q1).1; omega⟩
theorem Blk.of {K : Int → Int} {l r : List Int} {a m b : Int} (h1 : Blk K l a m) (h2 : Blk K l m b) (am : a ≤ m) (mb : m ≤ b) (hs : Seg l r a b) (ho : Srt K r a b) : Blk K r a b :=
  ⟨ho, fun p p0 p1 => by
    obtain ⟨q, q0, q1, e⟩ := hs.2.2 p p0 p1
    rw [e]
    by_cases c : q < m
    · have := h1.2 q q0 c; omega
    · have := h2.2 q (by omega) q1; omega⟩
theorem dvd_up {s c a : Int} (hs : 0 < s) (h1 : s ∣ c) (h2 : s ∣ a) (h : c < a) : c + s ≤ a := by
  have := Int.le_of_dvd (show 0 < a - c by omega) (Int.dvd_sub h2 h1)
  omega
def Blks (K : Int → Int) (l : List Int) (n s a : Int) : Prop := ∀ c : Int, 0 ≤ c → c < a → s ∣ c → Blk K l c (if c + s ≤ n then c + s else n)
set_option maxRecDepth 20001 in
theorem stab_l2 {AT : Int → Int → Option Int} {K : Int → Int} {N : Int} (hA : Cmp AT K N) {n s u : Int} (s0 : 0 < s) (s1 : s ≤ 1000) (d : Nat) : ∀ (k : Nat) (l : List Int) (a : Int), 0 ≤ a → a ≤ n → n - a ≤ d → (2 * s) ∣ a → (l.length : Int) = n → n ≤ 1000 → Nam l N → 1200000 ≤ k →
    Blks K l n (2 * s) a → (∀ c : Int, a ≤ c → c < n → s ∣ c → Blk K l c (if c + s ≤ n then c + s else n)) →
    ∃ (k' : Nat) (r : List Int), k ≤ k' ∧ slices_stableCmpFunc_int.l2 AT (k + d + 1) l n u s a (a + 2 * s) = slices_stableCmpFunc_int.l1 AT k' r n u (2 * s) ∧ r.Perm l ∧ Blks K r n (2 * s) n := by
  induction d with
  | zero =>
    intro k l a a0 an hd hda hl hn hN hk hb hr
    obtain rfl : a = n := by omega
    refine ⟨k, l, Nat.le_refl _, ?_, List.Perm.refl _, hb⟩
    rw [slices_stableCmpFunc_int.l2, if_neg (by omega), w64 (x := a + s) (by omega) (by omega), if_neg (by omega), w64 (x := s * 2) (by omega) (by omega), Int.mul_comm s 2]
  | succ d ih =>
    intro k l a a0 an hd hda hl hn hN hk hb hr
    have sa : s ∣ a := Int.dvd_trans (Int.dvd_mul_left 2 s) hda
    rw [slices_stableCmpFunc_int.l2, w64 (x := a + s) (by omega) (by omega), w64 (x := 2 * s) (by omega) (by omega), w64 (x := a + 2 * s + 2 * s) (by omega) (by omega), w64 (x := s * 2) (by omega) (by omega)]
    by_cases c1 : a + 2 * s ≤ n
    · rw [if_pos c1]
      have b1 := hr a (by omega) (by omega) sa; rw [if_pos (by omega)] at b1
      have b2 := hr (a + s) (by omega) (by omega) (Int.dvd_add sa (Int.dvd_refl s)); rw [if_pos (by omega), show a + s + s = a + 2 * s by omega] at b2
      obtain ⟨l1, g1, g2, g3, g4⟩ := merge_c hA 1000 (k + d + 1) l a (a + s) (a + 2 * s) u a0 (by omega) (by omega) (by omega) (by omega) (by omega) hN (b1.two b2) (by omega)
      have gl := g3.1
      rw [show k + (d + 1) = k + d + 1 by omega, g1, Option.bind_some]
      obtain ⟨k', r, e1, e2, e3, e4⟩ := ih k l1 (a + 2 * s) (by omega) c1 (by omega) (Int.dvd_add hda (Int.dvd_refl _)) (by omega) hn (hN.perm g2) hk
        (fun c c0 ca hc => by
          by_cases e : c < a
          · have := dvd_up (by omega) hc hda e
            have q := hb c c0 e hc; rw [if_pos (by omega)] at q ⊢
            exact q.far g3 c0 (.inl this)
          · have : c = a := by
              by_cases e2 : a < c
              · have := dvd_up (by omega) hda hc e2; omega
              · omega
            rw [this, if_pos (by omega)]; exact Blk.of b1 b2 (by omega) (by omega) g3 g4)
        (fun c ca cn hc => by
          have q := hr c (by omega) cn hc
          exact q.far g3 (by omega) (.inr ca))
      exact ⟨k', r, e1, e2, e3.trans g2, e4⟩
    · rw [if_neg c1]
      by_cases c2 : a + s < n
      · rw [if_pos c2]
        have b1 := hr a (by omega) (by omega) sa; rw [if_pos (by omega)] at b1
        have b2 := hr (a + s) (by omega) (by omega) (Int.dvd_add sa (Int.dvd_refl s)); rw [if_neg (by omega)] at b2
        obtain ⟨l1, g1, g2, g3, g4⟩ := merge_c hA 1000 (k + d + 1) l a (a + s) n u a0 (by omega) (by omega) (by omega) (by omega) (by omega) hN (b1.two b2) (by omega)
        rw [show k + (d + 1) = k + d + 1 by omega, g1, Option.bind_some, Int.mul_comm s 2]
        refine ⟨k + d + 1, l1, by omega, rfl, g2, fun c c0 ca hc => ?_⟩
        by_cases e : c < a
        · have := dvd_up (by omega) hc hda e
          have q := hb c c0 e hc; rw [if_pos (by omega)] at q ⊢
          exact q.far g3 c0 (.inl this)
        · have : c = a := by
            by_cases e2 : a < c
            · have := dvd_up (by omega) hda hc e2; omega
            · omega
          rw [this, if_neg (by omega)]; exact Blk.of b1 b2 (by omega) (by omega) g3 g4
      · rw [if_neg c2, Int.mul_comm s 2]
        refine ⟨k + (d + 1), l, by omega, rfl, List.Perm.refl _, fun c c0 ca hc => ?_⟩
        by_cases e : c < a
        · exact hb c c0 e hc
        · have : c = a := by
            by_cases e2 : a < c
            · have := dvd_up (by omega) hda hc e2; omega
            · omega
          have q := hr a (Int.le_refl _) (by omega) sa
          rw [this]
          by_cases e3 : a + s ≤ n
          · rw [if_pos e3] at q; rw [if_neg (by omega)]; rw [show a + s = n by omega] at q; exact q
          · rw [if_neg e3] at q; rw [if_neg (by omega)]; exact q
set_option maxRecDepth 20002 in
theorem stab_l1 {AT : Int → Int → Option Int} {K : Int → Int} {N : Int} (hA : Cmp AT K N) {n u : Int} (n0 : 0 < n) (e : Nat) : ∀ (k : Nat) (l : List Int) (s : Int), 0 < s → s ≤ 2000 → n - s ≤ e → (l.length : Int) = n → n ≤ 1000 → Nam l N → 1200000 + 1100 * (e + 1) ≤ k → Blks K l n s n →
    ∃ r, slices_stableCmpFunc_int.l1 AT k l n u s = some r ∧ r.Perm l ∧ Srt K r 0 n := by
  induction e with
  | zero =>
    intro k l s s0 s1 hd hl hn hN hk hb
    obtain ⟨k, rfl⟩ : ∃ m, k = m + 1 := ⟨k - 1, by omega⟩
    refine ⟨l, by rw [slices_stableCmpFunc_int.l1, if_neg (by omega)], List.Perm.refl _, ?_⟩
    have q := (hb 0 (Int.le_refl _) n0 (Int.dvd_zero s)).1
    by_cases c : 0 + s ≤ n
    · rw [if_pos c, show 0 + s = n by omega] at q; exact q
    · rw [if_neg c] at q; exact q
  | succ e ih =>
    intro k l s s0 s1 hd hl hn hN hk hb
    by_cases c : s < n
    · obtain ⟨q, hq, hk'⟩ : ∃ q, k = q + 1000 + 1 + 1 ∧ 1200000 + 1100 * (e + 1) ≤ q := ⟨k - 1002, by omega, by omega⟩
      subst hq
      have hk2 : 1200000 ≤ q := Nat.le_trans (Nat.le_add_right _ _) hk'
      clear hk
      rw [slices_stableCmpFunc_int.l1, if_pos c, w64 (x := 2 * s) (by omega) (by omega)]
      obtain ⟨k', r, e1, e2, e3, e4⟩ := stab_l2 hA (u := u) s0 (by omega) 1000 q l 0 (Int.le_refl _) (by omega) (by omega) (Int.dvd_zero _) hl hn hN hk2 (fun c c0 c1 _ => by omega) (fun c c0 c1 hc => hb c c0 c1 hc)
      rw [Int.zero_add] at e2
      rw [e2]
      obtain ⟨r2, g1, g2, g3⟩ := ih k' r (2 * s) (by omega) (by omega) (by omega) (by rw [e3.length_eq]; exact hl) hn (hN.perm e3) (Nat.le_trans hk' e1) e4
      exact ⟨r2, g1, g2.trans e3, g3⟩
    · obtain ⟨k, rfl⟩ : ∃ m, k = m + 1 := ⟨k - 1, by omega⟩
      refine ⟨l, by rw [slices_stableCmpFunc_int.l1, if_neg c], List.Perm.refl _, ?_⟩
      have q := (hb 0 (Int.le_refl _) n0 (Int.dvd_zero s)).1
      by_cases c : 0 + s ≤ n
      · rw [if_pos c, show 0 + s = n by omega] at q; exact q
      · rw [if_neg c] at q; exact q
set_option maxRecDepth 20003 in
theorem stab_l0 {AT : Int → Int → Option Int} {K : Int → Int} {N : Int} (hA : Cmp AT K N) {n u : Int} (n0 : 0 < n) (d : Nat) : ∀ (k : Nat) (l : List Int) (a : Int), 0 ≤ a → a ≤ n → n - a ≤ d → 20 ∣ a → (l.length : Int) = n → n ≤ 1000 → Nam l N → 2400000 + d ≤ k → Blks K l n 20 a → (∀ p : Int, a ≤ p → p < n → at_ l p = p) →
    ∃ r, slices_stableCmpFunc_int.l0 AT k l n u 20 a (a + 20) = some r ∧ r.Perm l ∧ Srt K r 0 n := by
  have last : ∀ (k : Nat) (l : List Int) (a : Int), 0 ≤ a → a ≤ n → n < a + 20 → 20 ∣ a → (l.length : Int) = n → n ≤ 1000 → Nam l N → 2400000 ≤ k → Blks K l n 20 a → (∀ p : Int, a ≤ p → p < n → at_ l p = p) → ∃ r, slices_stableCmpFunc_int.l0 AT k l n u 20 a (a + 20) = some r ∧ r.Perm l ∧ Srt K r 0 n := by
    intro k l a a0 an hna hda hl hn hN hk hb hp
    obtain ⟨k, rfl⟩ : ∃ m, k = m + 1 := ⟨k - 1, by omega⟩
    rw [slices_stableCmpFunc_int.l0, if_neg (by omega)]
    obtain ⟨l1, g1, g2, g3, g4⟩ := ins_c hA (u := u) a0 an (by omega) (by omega) (by omega) hN hp (k := k) (by omega)
    rw [g1, Option.bind_some]
    obtain ⟨r, e1, e2, e3⟩ := stab_l1 hA (u := u) n0 1000 k l1 20 (by omega) (by omega) (by omega) (by rw [g2.length_eq]; exact hl) hn (hN.perm g2) (by omega) (fun c c0 ca hc => by
      by_cases e : c < a
      · have := dvd_up (by omega) hc hda e
        have q := hb c c0 e hc; rw [if_pos (by omega)] at q ⊢
        exact q.far g3 c0 (.inl this)
      · have : c = a := by
          by_cases e2 : a < c
          · have := dvd_up (by omega) hda hc e2; omega
          · omega
        rw [this, if_neg (by omega)]
        exact ⟨g4, fun p p0 p1 => by
          obtain ⟨q, q0, q1, eq⟩ := g3.2.2 p p0 p1
          rw [eq, hp q q0 q1]; omega⟩)
    exact ⟨r, e1, e2.trans g2, e3⟩
  induction d with
  | zero => intro k l a a0 an hd hda hl hn hN hk hb hp; exact last k l a a0 an (by omega) hda hl hn hN (by omega) hb hp
  | succ d ih =>
    intro k l a a0 an hd hda hl hn hN hk hb hp
    by_cases c1 : a + 20 ≤ n
    · obtain ⟨k, rfl⟩ : ∃ m, k = m + 1 := ⟨k - 1, by omega⟩
      rw [slices_stableCmpFunc_int.l0, if_pos c1]
      obtain ⟨l1, g1, g2, g3, g4⟩ := ins_c hA (u := u) a0 (show a ≤ a + 20 by omega) (by omega) (by omega) (by omega) hN (fun p p0 p1 => hp p p0 (by omega)) (k := k) (by omega)
      rw [g1, Option.bind_some, w64 (x := a + 20 + 20) (by omega) (by omega)]
      obtain ⟨r, e1, e2, e3⟩ := ih k l1 (a + 20) (by omega) c1 (by omega) (Int.dvd_add hda (Int.dvd_refl _)) (by rw [g2.length_eq]; exact hl) hn (hN.perm g2) (by omega)
        (fun c c0 ca hc => by
          by_cases e : c < a
          · have := dvd_up (by omega) hc hda e
            have q := hb c c0 e hc; rw [if_pos (by omega)] at q ⊢
            exact q.far g3 c0 (.inl this)
          · have : c = a := by
              by_cases e2 : a < c
              · have := dvd_up (by omega) hda hc e2; omega
              · omega
            rw [this, if_pos c1]
            exact ⟨g4, fun p p0 p1 => by
              obtain ⟨q, q0, q1, eq⟩ := g3.2.2 p p0 p1
              rw [eq, hp q q0 (by omega)]; omega⟩)
        (fun p p0 p1 => by rw [g3.2.1 p (by omega) (by omega)]; exact hp p (by omega) p1)
      exact ⟨r, e1, e2.trans g2, e3⟩
    · exact last k l a a0 an (by omega) hda hl hn hN (by omega) hb hp
set_option maxRecDepth 20004 in
theorem sort_c {AT : Int → Int → Option Int} {K : Int → Int} {l : List Int} {u : Int} (hA : Cmp AT K l.length) (hl : l.length ≤ 1000) (h0 : 0 < l.length) (h : ∀ p : Int, 0 ≤ p → p < l.length → at_ l p = p) {k : Nat} (hk : 2500000 ≤ k) :
    ∃ r, slices_SortStableFunc_int_int.f AT k l u = some r ∧ r.Perm l ∧ Srt K r 0 l.length := by
  have hN : Nam l l.length := fun v hv => by
    obtain ⟨i, hi, rfl⟩ := List.mem_iff_getElem.mp hv
    have := h i (by omega) (by omega)
    rw [at_nat l i hi] at this; omega
  unfold slices_SortStableFunc_int_int.f slices_stableCmpFunc_int.f
  obtain ⟨r, e1, e2, e3⟩ := stab_l0 hA (n := (l.length : Int)) (u := u) (by omega) 1000 k l 0 (by omega) (by omega) (by omega) (Int.dvd_zero _) rfl (by omega) hN (by omega) (fun c c0 c1 _ => by omega) h
  rw [Int.zero_add] at e1
  rw [e1]; exact ⟨r, rfl, e2, e3⟩
theorem gcd_i (k : Nat) : ∀ (a b : Int), 0 ≤ a → 0 ≤ b → b.toNat < k → impl_gcd.l0 k a b = some (g a b) := by
  induction k with
  | zero => intro a b _ _ h; omega
  | succ k ih =>
    intro a b ha hb hk
    simp only [impl_gcd.l0]
    by_cases h : b = 0
    · rw [if_pos h]; subst h; unfold g; rw [Int.gcd_zero]; simp only [Option.some.injEq]; omega
    · rw [if_neg h, tmod_pos ha]
      have h1 := Int.emod_nonneg a h; have h2 := Int.emod_lt_of_pos a (show 0 < b by omega)
      rw [ih b (a % b) hb h1 (by omega)]
      unfold g; simp only [Option.some.injEq]; unfold Int.gcd; rw [Int.natAbs_emod_of_nonneg ha, Nat.gcd_comm, ← Nat.gcd_rec, Nat.gcd_comm]
theorem row_i {a b : Int} (h : Ok a b) (k : Nat) (hk : 13 ≤ k) : impl_row.f k a b = some (row a b) := by
  unfold impl_row.f impl_gcd.f
  have hg := h.g; have hr := h.row; have hn := h.ar
  rw [area_i h]; simp only [Option.bind_some]
  have := h.2.2
  rw [gcd_i k a b (by have := h.1; omega) this.1 (by omega)]; simp only [Option.bind_some]
  rw [if_neg (by omega), tdiv_pos (by omega)]
  have e : ar a b / g a b = row a b := rfl
  rw [e, w64 (by omega) (by omega)]
theorem pointOf_i (a b n : Int) (k : Nat) (hk : 14 ≤ k) : impl_PointOf.f k a b n = some (if Ok a b ∧ 0 ≤ n ∧ n < ar a b then (n % row a b, n / row a b, true) else (0, 0, false)) := by
  obtain ⟨k, rfl⟩ : ∃ m, k = m + 1 := ⟨k - 1, by omega⟩
  unfold impl_PointOf.f
  rw [isLattice_i]; simp only [Option.bind_some]
  by_cases h : Ok a b
  · have hr := h.row; have hn := h.ar
    by_cases h0 : n < 0
    · simp only [h, decide_true, if_true, h0, impl_PointOf.j0]; rw [if_neg (by omega)]
    · rw [area_i h]
      simp only [h, decide_true, if_true, h0, impl_PointOf.j0, if_false, Option.bind_some, decide_eq_true_eq]
      by_cases h1 : n ≥ ar a b
      · rw [if_pos h1, if_neg (by omega)]
      · rw [if_neg h1, if_pos (by simp; omega), row_i h k (by omega)]; simp only [Option.bind_some]
        have hne : ¬ row a b = 0 := by omega
        simp only [if_neg hne]
        rw [tmod_pos (by omega), tdiv_pos (by omega), w64]
        · have := Int.ediv_nonneg (show 0 ≤ n by omega) (show 0 ≤ row a b by omega); omega
        · have := Int.ediv_le_self (row a b) (show 0 ≤ n by omega); omega
  · simp [h, impl_PointOf.j0]
theorem mod_i {x n : Int} (h0 : 0 < n) (h1 : n ≤ 9223372036854775807) : impl_mod.f x n = some (x % n) := by
  unfold impl_mod.f
  rw [if_neg (by omega)]
  have h2 := Int.emod_nonneg x (show n ≠ 0 by omega)
  have h3 := Int.emod_lt_of_pos x h0
  have e := Int.tmod_eq_emod (a := x) (b := n)
  by_cases hc : 0 ≤ x ∨ n ∣ x
  · rw [if_pos hc] at e
    rw [e, if_neg (by omega)]; simp
  · rw [if_neg hc] at e
    rw [e, if_pos (by omega), w64 (by omega) (by omega)]; simp only [Option.some.injEq]; omega
theorem down_i {x n : Int} (h0 : 0 < n) (h1 : n ≤ 1000000) (hx : -1000000000 ≤ x ∧ x ≤ 1000000000) : impl_down.f x n = some (x / n) := by
  unfold impl_down.f
  rw [mod_i h0 (by omega)]; simp only [Option.bind_some]
  have h2 := Int.emod_nonneg x (show n ≠ 0 by omega)
  have h3 := Int.emod_lt_of_pos x h0
  have e := Int.mul_ediv_add_emod x n
  rw [if_neg (by omega), w64 (x := x - x % n) (by omega) (by omega), show x - x % n = n * (x / n) by omega, Int.mul_tdiv_cancel_left _ (by omega)]
  have e1 : x / n ≤ 1000000000 := by
    apply Int.ediv_le_of_le_mul h0; have : 1000000000 * 1 ≤ 1000000000 * n := Int.mul_le_mul_of_nonneg_left (by omega) (by omega); omega
  have e2 : -1000000000 ≤ x / n := by
    apply Int.le_ediv_of_mul_le h0; have : 1000000000 * 1 ≤ 1000000000 * n := Int.mul_le_mul_of_nonneg_left (by omega) (by omega); omega
  rw [w64 (by omega) (by omega)]
theorem val_w {a b u v p q : Int} (h : Ok a b) (hu : 0 ≤ u ∧ u ≤ 288) (hv : 0 ≤ v ∧ v ≤ 288) (hp : -5000 ≤ p ∧ p ≤ 5000) (hq : -5000 ≤ q ∧ q ≤ 5000) :
    wrap64 ((wrap64 ((wrap64 (u - (wrap64 ((wrap64 (p * a)) - (wrap64 (q * b)))))) * (wrap64 (u - (wrap64 ((wrap64 (p * a)) - (wrap64 (q * b)))))))) + (wrap64 ((wrap64 (v - (wrap64 ((wrap64 (p * b)) + (wrap64 (q * a)))))) * (wrap64 (v - (wrap64 ((wrap64 (p * b)) + (wrap64 (q * a)))))))))
      = val a b u v p q := by
  obtain ⟨h1, h2, h3, h4⟩ := h
  have m1 := mul_bd' hp.1 hp.2 (show 0 ≤ a by omega) h2
  have m2 := mul_bd' hp.1 hp.2 h3 h4
  have m3 := mul_bd' hq.1 hq.2 (show 0 ≤ a by omega) h2
  have m4 := mul_bd' hq.1 hq.2 h3 h4
  rw [w64 (x := p * a) (by omega) (by omega), w64 (x := p * b) (by omega) (by omega), w64 (x := q * a) (by omega) (by omega), w64 (x := q * b) (by omega) (by omega), w64 (x := p * a - q * b) (by omega) (by omega), w64 (x := p * b + q * a) (by omega) (by omega), w64 (x := u - _) (by omega) (by omega), w64 (x := v - _) (by omega) (by omega)]
  have s1 := sq_le_sq (x := (if 0 ≤ u - (p * a - q * b) then u - (p * a - q * b) else -(u - (p * a - q * b)))) (y := 200000) (by split <;> omega) (by split <;> omega)
  have s2 := sq_le_sq (x := (if 0 ≤ v - (p * b + q * a) then v - (p * b + q * a) else -(v - (p * b + q * a)))) (y := 200000) (by split <;> omega) (by split <;> omega)
  have e1 : ∀ x : Int, (if 0 ≤ x then x else -x) * (if 0 ≤ x then x else -x) = x * x := by intro x; split; rfl; exact Int.neg_mul_neg ..
  rw [e1] at s1 s2
  have n1 := sq_nonneg (u - (p * a - q * b)); have n2 := sq_nonneg (v - (p * b + q * a))
  rw [w64 (x := _ * _) (by omega) (by omega), w64 (x := _ * _) (by omega) (by omega), w64 (by omega) (by omega)]; rfl
def rowVals (a b u v p : Int) : Nat → Int → List Int
  | 0, _ => []
  | d + 1, q => val a b u v p q :: rowVals a b u v p d (q + 1)
def allVals (a b u v j : Int) : Nat → Int → List Int
  | 0, _ => []
  | d + 1, p => rowVals a b u v p 6 (j - 2) ++ allVals a b u v j d (p + 1)
theorem rowVals_in {a b u v p s : Int} : ∀ (d : Nat) (q : Int), s ∈ rowVals a b u v p d q → ∃ p q, s = val a b u v p q
  | 0, _, h => by simp [rowVals] at h
  | d + 1, q, h => by
    rcases List.mem_cons.mp h with e | e
    · exact ⟨p, q, e⟩
    · exact rowVals_in d (q + 1) e
theorem rowVals_has {a b u v p q' : Int} : ∀ (d : Nat) (q : Int), q ≤ q' → q' < q + d → val a b u v p q' ∈ rowVals a b u v p d q
  | 0, q, h1, h2 => by omega
  | d + 1, q, h1, h2 => by
    by_cases e : q' = q
    · subst e; simp [rowVals]
    · exact List.mem_cons.mpr (.inr (rowVals_has d (q + 1) (by omega) (by omega)))
theorem allVals_in {a b u v j s : Int} : ∀ (d : Nat) (p : Int), s ∈ allVals a b u v j d p → ∃ p q, s = val a b u v p q
  | 0, _, h => by simp [allVals] at h
  | d + 1, p, h => by
    rcases List.mem_append.mp h with e | e
    · exact rowVals_in _ _ e
    · exact allVals_in d (p + 1) e
theorem allVals_has {a b u v j p' q' : Int} (h1 : j - 2 ≤ q') (h2 : q' < j + 4) : ∀ (d : Nat) (p : Int), p ≤ p' → p' < p + d → val a b u v p' q' ∈ allVals a b u v j d p
  | 0, p, k1, k2 => by omega
  | d + 1, p, k1, k2 => by
    by_cases e : p' = p
    · subst e; exact List.mem_append.mpr (.inl (rowVals_has 6 (j - 2) h1 (by omega)))
    · exact List.mem_append.mpr (.inr (allVals_has h1 h2 d (p + 1) (by omega) (by omega)))
theorem near_row {a b u v i j p : Int} (h : Ok a b) (hu : 0 ≤ u ∧ u ≤ 288) (hv : 0 ≤ v ∧ v ≤ 288) (hp : -5000 ≤ p ∧ p ≤ 5000) (hj : -4000 ≤ j ∧ j ≤ 4000) (d : Nat) : ∀ (k : Nat) (best q : Int), j - 2 ≤ q → j + 4 - q = d →
    impl_NearOf.l1 (k + d + 1) u v i j best p q a b = impl_NearOf.l0 k u v i j ((rowVals a b u v p d q).foldl upd best) (p + 1) a b := by
  induction d with
  | zero =>
    intro k best q h1 hd
    simp only [impl_NearOf.l1, rowVals, List.foldl_nil]
    rw [w64 (x := j + 3) (by omega) (by omega), if_neg (by omega), w64 (x := p + 1) (by omega) (by omega)]
  | succ d ih =>
    intro k best q h1 hd
    rw [show k + (d + 1) + 1 = (k + d + 1) + 1 by omega]
    rw [impl_NearOf.l1]
    rw [w64 (x := j + 3) (by omega) (by omega), if_pos (by omega), val_w h hu hv hp (by omega), w64 (x := q + 1) (by omega) (by omega)]
    have e := fun z => ih k z (q + 1) (by omega) (by omega)
    simp only [e, rowVals, List.foldl_cons, upd]
    repeat' split
    all_goals rfl
theorem near_all {a b u v i j : Int} (h : Ok a b) (hu : 0 ≤ u ∧ u ≤ 288) (hv : 0 ≤ v ∧ v ≤ 288) (hi : -4000 ≤ i ∧ i ≤ 4000) (hj : -4000 ≤ j ∧ j ≤ 4000) (d : Nat) : ∀ (k : Nat) (best p : Int), i - 2 ≤ p → i + 4 - p = d → d * 8 < k →
    impl_NearOf.l0 k u v i j best p a b = some ((allVals a b u v j d p).foldl upd best) := by
  induction d with
  | zero =>
    intro k best p h1 hd hk
    obtain ⟨k, rfl⟩ : ∃ m, k = m + 1 := ⟨k - 1, by omega⟩
    simp only [impl_NearOf.l0]
    rw [w64 (x := i + 3) (by omega) (by omega), if_neg (by omega)]; rfl
  | succ d ih =>
    intro k best p h1 hd hk
    obtain ⟨k, rfl⟩ : ∃ m, k = (m + 6 + 1) + 1 := ⟨k - 8, by omega⟩
    simp only [impl_NearOf.l0]
    rw [w64 (x := i + 3) (by omega) (by omega), if_pos (by omega), w64 (x := j - 2) (by omega) (by omega), near_row h hu hv (by omega) hj 6 k best (j - 2) (by omega) (by omega), ih k _ (p + 1) (by omega) (by omega) (by omega)]
    simp only [allVals, List.foldl_append]
theorem name_uv {a b n : Int} (h : Ok a b) (h0 : 0 ≤ n) (h1 : n < ar a b) : (0 ≤ n % row a b ∧ n % row a b ≤ 288) ∧ (0 ≤ n / row a b ∧ n / row a b ≤ 288) := by
  have hr := h.row; have hn := h.ar
  have e1 := Int.emod_nonneg n (show row a b ≠ 0 by omega); have e2 := Int.emod_lt_of_pos n (show 0 < row a b by omega)
  have e3 := Int.ediv_nonneg h0 (show 0 ≤ row a b by omega); have e4 := Int.ediv_le_self (row a b) h0
  omega
theorem near_i (a b n : Int) (k : Nat) (hk : 400 ≤ k) : impl_NearOf.f k a b n = some (if Ok a b ∧ 0 ≤ n ∧ n < ar a b then near a b (n % row a b) (n / row a b) else -1) := by
  unfold impl_NearOf.f
  rw [pointOf_i a b n k (by omega)]; simp only [Option.bind_some]
  by_cases hc : Ok a b ∧ 0 ≤ n ∧ n < ar a b
  · obtain ⟨h, h0, h1⟩ := hc
    have hc : Ok a b ∧ 0 ≤ n ∧ n < ar a b := ⟨h, h0, h1⟩
    have hn := h.ar; have huv := name_uv h h0 h1
    simp only [if_pos hc, if_true]
    generalize n % row a b = u at *
    generalize n / row a b = v at *
    obtain ⟨hu, hv⟩ := huv
    have m1 := mul_bd hu.1 hu.2 (show 0 ≤ a by have := h.1; omega) h.2.1
    have m2 := mul_bd hu.1 hu.2 h.2.2.1 h.2.2.2
    have m3 := mul_bd hv.1 hv.2 (show 0 ≤ a by have := h.1; omega) h.2.1
    have m4 := mul_bd hv.1 hv.2 h.2.2.1 h.2.2.2
    rw [area_i h]; simp only [Option.bind_some]
    rw [w64 (x := u * a) (by omega) (by omega), w64 (x := v * b) (by omega) (by omega), w64 (x := v * a) (by omega) (by omega), w64 (x := u * b) (by omega) (by omega), w64 (x := u * a + v * b) (by omega) (by omega), w64 (x := v * a - u * b) (by omega) (by omega), down_i (by omega) (by omega) (by omega), down_i (by omega) (by omega) (by omega)]
    simp only [Option.bind_some]
    have d1 := div_bd (x := u * a + v * b) (c := 7000) hn.1 (by omega) (by omega) (by omega)
    have d2 := div_bd (x := v * a - u * b) (c := 4000) hn.1 (by omega) (by omega) (by omega)
    have b0 : 0 ≤ (u * a + v * b) / ar a b := Int.ediv_nonneg (by omega) (by omega)
    have b1 : (u * a + v * b) / ar a b ≤ 4000 := by
      by_cases h2 : 2 ≤ ar a b
      · apply Int.ediv_le_of_le_mul (by omega); omega
      · have : ar a b = 1 := by omega
        have s := h.sq; have : a * a = 1 ∧ b * b = 0 := by unfold ar at this; omega
        have : b = 0 := by rcases Int.mul_eq_zero.mp this.2 with e | e <;> exact e
        subst this; rw [show u * a + v * 0 = u * a by omega]
        apply Int.ediv_le_of_le_mul (by omega); omega
    rw [w64 (x := _ - 2) (by omega) (by omega), near_all h hu hv (by omega) d2 6 k (-1) _ (by omega) (by omega) (by omega)]
    rw [least_near' h.1 _ (fun s hs => allVals_in _ _ hs)]
    intro p q hp hq
    exact allVals_has (by omega) (by omega) _ _ (by omega) (by omega)
  · simp only [if_neg hc]; rfl
def cb (K : Int → Int) (i : Int) : Nat → Int → Int
  | 0, _ => 0
  | d + 1, j => (if befB K j i then 1 else 0) + cb K i d (j + 1)
theorem cb_bd (K : Int → Int) (i : Int) : ∀ (d : Nat) (j : Int), 0 ≤ cb K i d j ∧ cb K i d j ≤ d := by
  intro d
  induction d with
  | zero => intro j; exact ⟨by simp [cb], by simp [cb]⟩
  | succ d ih => intro j; have := ih (j + 1); rw [cb]; split <;> omega
theorem cb_count (K : Int → Int) (i : Int) : ∀ (d : Nat) (j : Int), ((tab (fun x => x) d j).countP (fun y => befB K y i) : Int) = cb K i d j := by
  intro d
  induction d with
  | zero => intro j; rfl
  | succ d ih => intro j; rw [tab, List.countP_cons, cb, ← ih (j + 1)]; split <;> simp <;> omega
def plc (K : Int → Int) (n : Nat) : List Int := tab (fun i => cb K i n 0) n 0
def nr (a b n : Int) : Int := Lat.near a b (n % Lat.row a b) (n / Lat.row a b)
def nrs (a b : Int) : List Int := tab (nr a b) (Lat.ar a b).toNat 0
theorem nrs_len (a b : Int) : (nrs a b).length = (Lat.ar a b).toNat := tab_length _ _ _
theorem nr_bd {a b : Int} (h : Ok a b) (n : Int) : 0 ≤ nr a b n ∧ nr a b n ≤ 1000000 := by
  have hn := h.ar
  have key : ∀ p : Int, 0 ≤ Lat.near1 (Lat.ar a b) p ∧ Lat.near1 (Lat.ar a b) p ≤ 288 := fun p => by
    have h1 := Int.emod_nonneg p (show Lat.ar a b ≠ 0 by omega); have h2 := Int.emod_lt_of_pos p (show 0 < Lat.ar a b by omega)
    unfold Lat.near1; split <;> omega
  have sq : ∀ p : Int, 0 ≤ Lat.near1 (Lat.ar a b) p * Lat.near1 (Lat.ar a b) p ∧ Lat.near1 (Lat.ar a b) p * Lat.near1 (Lat.ar a b) p ≤ 288 * 288 := fun p => Pic.mul_bd (key p).1 (key p).2 (key p).1 (key p).2
  unfold nr Lat.near Lat.near2
  have s1 := sq (n % Lat.row a b * a + n / Lat.row a b * b); have s2 := sq (n / Lat.row a b * a - n % Lat.row a b * b)
  refine ⟨Int.ediv_nonneg (by omega) (by omega), ?_⟩
  have := Int.ediv_le_self (Lat.ar a b) (show 0 ≤ Lat.near1 (Lat.ar a b) (n % Lat.row a b * a + n / Lat.row a b * b) * Lat.near1 (Lat.ar a b) (n % Lat.row a b * a + n / Lat.row a b * b) + Lat.near1 (Lat.ar a b) (n / Lat.row a b * a - n % Lat.row a b * b) * Lat.near1 (Lat.ar a b) (n / Lat.row a b * a - n % Lat.row a b * b) by omega)
  omega
def spotL (a b : Int) : List Int := if Ok a b then plc (at_ (nrs a b)) (nrs a b).length else []
theorem spot_out {K : Int → Int} {r : List Int} (hs : Srt K r 0 r.length) (hl : r.length ≤ 1000) (hN : Nam r r.length) (d : Nat) : ∀ (k : Nat) (o : List Int) (i : Int), 0 ≤ i → (r.length : Int) - i = d → o.length = r.length → d < k →
    ∃ R, impl_SpotRanks.l1 k o r r.length i = some R ∧ R.length = r.length ∧ (∀ q : Int, i ≤ q → q < r.length → at_ R (at_ r q) = q) ∧ (∀ x : Int, 0 ≤ x → (∀ q : Int, i ≤ q → q < r.length → at_ r q ≠ x) → at_ R x = at_ o x) := by
  induction d with
  | zero =>
    intro k o i i0 hd ho hk
    obtain ⟨k, rfl⟩ : ∃ m, k = m + 1 := ⟨k - 1, by omega⟩
    exact ⟨o, by rw [impl_SpotRanks.l1, if_neg (by omega)], ho, fun q q0 q1 => by omega, fun x x0 _ => rfl⟩
  | succ d ih =>
    intro k o i i0 hd ho hk
    obtain ⟨k, rfl⟩ : ∃ m, k = m + 1 := ⟨k - 1, by omega⟩
    have hv := hN.at (p := i) i0 (by omega)
    obtain ⟨R, e, h1, h2, h3⟩ := ih k (o.set (at_ r i).toNat i) (i + 1) (by omega) (by omega) (by rw [List.length_set]; exact ho) (by omega)
    refine ⟨R, ?_, h1, fun q q0 q1 => ?_, fun x x0 hx => ?_⟩
    · rw [impl_SpotRanks.l1, if_pos (by omega), if_pos i0, if_pos (by omega), rd_at, if_pos hv.1, if_pos (by omega), w64 (x := i + 1) (by omega) (by omega)]; exact e
    · by_cases c : q = i
      · subst c
        rw [h3 (at_ r q) hv.1 (fun s s0 s1 es => by have := hs q s (by omega) (by omega) s1; rw [es] at this; exact bef_irrefl _ this), at_set hv.1 (by omega) hv.1, if_pos rfl]
      · exact h2 q (by omega) q1
    · rw [h3 x x0 (fun q q0 q1 => hx q (by omega) q1), at_set hv.1 (by omega) x0, if_neg (fun e2 => hx i (by omega) (by omega) e2.symm)]
theorem spotl_i {a b : Int} (h : Ok a b) (d : Nat) : ∀ (k : Nat) (o p : List Int) (i : Int), 0 ≤ i → Lat.ar a b - i = d → (o.length : Int) = i → (p.length : Int) = i → d + 2600000 ≤ k → o ++ tab (fun x => x) d i = tab (fun x => x) (Lat.ar a b).toNat 0 → p ++ tab (nr a b) d i = nrs a b →
    impl_SpotRanks.l0 k o (Lat.ar a b) i a b p = some (plc (at_ (nrs a b)) (nrs a b).length) := by
  have hn := h.ar
  induction d with
  | zero =>
    intro k o p i i0 hd ho hp hk he hf
    obtain ⟨k, rfl⟩ : ∃ m, k = m + 1 := ⟨k - 1, by omega⟩
    rw [tab, List.append_nil] at he hf
    have hnl := nrs_len a b
    subst he; subst hf
    rw [impl_SpotRanks.l0, if_neg (by omega)]
    have at_id : ∀ q : Int, 0 ≤ q → q < (tab (fun x => x) (Lat.ar a b).toNat 0).length → at_ (tab (fun x => x) (Lat.ar a b).toNat 0) q = q := fun q q0 q1 => by rw [tab_length] at q1; exact tab_val _ q0 q1
    have hA : Cmp (fun x y => impl_SpotRanks_1.f x y (nrs a b)) (at_ (nrs a b)) (tab (fun x => x) (Lat.ar a b).toNat 0).length := by
      intro x y x0 x1 y0 y1
      rw [tab_length] at x1 y1
      have b1 : at_ (nrs a b) x = nr a b x := tab_val _ x0 (by omega)
      have b2 : at_ (nrs a b) y = nr a b y := tab_val _ y0 (by omega)
      have c1 := nr_bd h x; have c2 := nr_bd h y
      refine ⟨nr a b x - nr a b y, ?_, by rw [b1, b2]; omega⟩
      show impl_SpotRanks_1.f x y (nrs a b) = _
      unfold impl_SpotRanks_1.f
      rw [if_pos x0, if_pos (by omega), if_pos y0, if_pos (by omega), rd_at, rd_at, b1, b2, w64 (by omega) (by omega)]
    obtain ⟨r, e1, e2, e3⟩ := sort_c (u := 0) hA (by rw [tab_length]; omega) (by rw [tab_length]; omega) at_id (k := k) (by omega)
    have rl : r.length = (Lat.ar a b).toNat := by rw [e2.length_eq, tab_length]
    have hN : Nam r r.length := fun v hv => by
      obtain ⟨i, hi, rfl⟩ := List.mem_iff_getElem.mp (e2.mem_iff.mp hv)
      rw [← at_nat _ i hi, at_id i (by omega) (by omega)]; rw [tab_length] at hi; omega
    rw [tab_length] at e3
    have hs : Srt (at_ (nrs a b)) r 0 r.length := by rw [rl]; exact e3
    unfold impl_SpotRanks_1.sort.f
    rw [e1, Option.bind_some, if_pos (by omega), if_pos (by rw [tab_length]; omega)]
    obtain ⟨R, g1, g2, g3, g4⟩ := spot_out hs (by omega) hN r.length k (List.replicate ((tab (fun x => x) (Lat.ar a b).toNat 0).length : Int).toNat 0) 0 (by omega) (by omega) (by rw [List.length_replicate, tab_length]; omega) (by omega)
    rw [show ((tab (fun x => x) (Lat.ar a b).toNat 0).length : Int) = r.length by rw [tab_length, rl]] at g1 ⊢
    rw [g1]
    congr 1
    unfold plc
    refine list_ext (by rw [g2, tab_length, rl, hnl]) fun x x0 x1 => ?_
    rw [tab_val _ x0 (by omega)]
    have hx : x ∈ r := e2.mem_iff.mpr (by have := at_mem (l := tab (fun x => x) (Lat.ar a b).toNat 0) x0 (by rw [tab_length]; omega); rw [at_id x x0 (by rw [tab_length]; omega)] at this; exact this)
    obtain ⟨p, hp, ep⟩ := List.mem_iff_getElem.mp hx
    have c1 := count_srt r p hs hp
    have c2 := g3 p (by omega) (by omega)
    rw [at_nat r p hp, ep] at c2
    rw [c2, ← cb_count, hnl, ← e2.countP_eq, ← ep, c1]
  | succ d ih =>
    intro k o p i i0 hd ho hp hk he hf
    obtain ⟨k, rfl⟩ : ∃ m, k = m + 1 := ⟨k - 1, by omega⟩
    have hnr : impl_NearOf.f k a b i = some (nr a b i) := by rw [near_i a b i k (by omega), if_pos ⟨h, i0, by omega⟩]; rfl
    rw [impl_SpotRanks.l0, if_pos (by omega), if_pos (by omega), hnr, Option.bind_some, if_pos (by omega), w64 (x := i + 1) (by omega) (by omega)]
    exact ih k _ _ (i + 1) (by omega) (by omega) (by rw [List.length_append]; simp only [List.length_cons, List.length_nil]; omega) (by rw [List.length_append]; simp only [List.length_cons, List.length_nil]; omega) (by omega) (by rw [← he, tab, List.append_assoc]; rfl) (by rw [← hf, tab, List.append_assoc]; rfl)
theorem spot_i (a b : Int) {k : Nat} (hk : 2700000 ≤ k) : impl_SpotRanks.f k a b = some (spotL a b) := by
  unfold impl_SpotRanks.f spotL
  rw [isLattice_i, Option.bind_some]
  by_cases h : Ok a b
  · have hn := h.ar
    rw [if_pos (decide_eq_true h), if_pos h, area_i h, Option.bind_some, spotl_i h (Lat.ar a b).toNat k [] [] 0 (by omega) (by omega) rfl rfl (by omega) rfl rfl]
  · rw [if_neg (by rw [decide_eq_true_iff]; exact h), if_neg h]
theorem plc_r (K : Int → Int) (n : Nat) (hn : n ≤ 1000) : ∃ r : List Int, r.length = n ∧ r.Perm (tab (fun x => x) n 0) ∧ Srt K r 0 n ∧ ∀ q : Int, 0 ≤ q → q < n → (0 ≤ at_ r q ∧ at_ r q < n) ∧ at_ (plc K n) (at_ r q) = q := by
  by_cases h0 : n = 0
  · subst h0; exact ⟨[], rfl, List.Perm.nil, fun p q h1 h2 h3 => by omega, fun q h1 h2 => by omega⟩
  · have at_id : ∀ q : Int, 0 ≤ q → q < (tab (fun x => x) n 0).length → at_ (tab (fun x => x) n 0) q = q := fun q q0 q1 => by rw [tab_length] at q1; exact tab_val _ q0 q1
    obtain ⟨r, e1, e2, e3⟩ := sort_c (AT := fun x y => some (K x - K y)) (K := K) (u := 0) (l := tab (fun x => x) n 0) (fun x y _ _ _ _ => ⟨K x - K y, rfl, by omega⟩) (by rw [tab_length]; omega) (by rw [tab_length]; omega) at_id (k := 2500000) (by omega)
    have rl : r.length = n := by rw [e2.length_eq, tab_length]
    rw [tab_length] at e3
    refine ⟨r, rl, e2, e3, fun q q0 q1 => ?_⟩
    obtain ⟨p, rfl⟩ : ∃ p : Nat, q = p := ⟨q.toNat, by omega⟩
    have hp : p < r.length := by omega
    have hb : 0 ≤ at_ r p ∧ at_ r p < n := by
      have := e2.mem_iff.mp (at_mem (l := r) (i := p) (by omega) (by omega))
      obtain ⟨i, hi, e⟩ := List.mem_iff_getElem.mp this
      rw [← at_nat _ i hi, at_id i (by omega) (by omega)] at e; rw [tab_length] at hi; omega
    refine ⟨hb, ?_⟩
    unfold plc
    rw [tab_val _ hb.1 hb.2, ← cb_count, ← e2.countP_eq, at_nat r p hp, count_srt r p (by rw [rl]; exact e3) hp]
theorem tot_perm {l m : List Int} (h : l.Perm m) : tot l = tot m := by
  induction h with
  | nil => rfl
  | cons x _ ih => rw [tot, tot, ih]
  | swap x y l => simp only [tot]; omega
  | trans _ _ ih1 ih2 => exact ih1.trans ih2
theorem tot_map (G : Int → Int) (l : List Int) : tot (l.map G) = S1 (fun q => G (at_ l q)) l.length := by
  rw [tot_S1, List.length_map]
  exact S1_congr fun i i0 i1 => by
    obtain ⟨p, rfl⟩ : ∃ p : Nat, i = p := ⟨i.toNat, by omega⟩
    rw [at_nat _ p (by rw [List.length_map]; omega), at_nat _ p (by omega), List.getElem_map]
theorem S1_perm {r : List Int} {n : Nat} (hp : r.Perm (tab (fun x => x) n 0)) (G : Int → Int) : S1 (fun q => G (at_ r q)) n = S1 G n := by
  have hl : r.length = n := by rw [hp.length_eq, tab_length]
  have e := tot_perm (hp.map G)
  rw [tot_map, tot_map, hl, tab_length] at e
  rw [e]
  exact S1_congr fun i i0 i1 => by rw [tab_val _ i0 i1]
theorem S1_low {lev : Int} (h : 0 ≤ lev) : ∀ n : Nat, S1 (fun q => if q < lev then 1 else 0) n = if lev ≤ n then lev else n := by
  intro n
  induction n with
  | zero => rw [S1]; split <;> omega
  | succ n ih => rw [S1, ih]; split <;> split <;> split <;> omega
theorem plc_sum (K : Int → Int) {n : Nat} (hn : n ≤ 1000) {lev : Int} (h0 : 0 ≤ lev) (h1 : lev ≤ n) : S1 (fun k => if at_ (plc K n) k < lev then 1 else 0) n = lev := by
  obtain ⟨r, rl, hp, hs, hq⟩ := plc_r K n hn
  rw [← S1_perm hp, S1_congr (h := fun q => if q < lev then 1 else 0) (fun q q0 q1 => by simp only [(hq q q0 q1).2]), S1_low h0, if_pos h1]
theorem size_i (W H : Int) : impl_sized.f W H = some (decide (Sz W H)) := by
  unfold impl_sized.f
  by_cases h : 1 ≤ W ∧ W ≤ 64 ∧ 1 ≤ H ∧ H ≤ 64
  · have := mul_bd (c := 64) (d := 64) (show 0 ≤ W by omega) h.2.1 (show 0 ≤ H by omega) h.2.2.2
    rw [if_pos (by omega), if_pos (by omega), if_pos (by omega), if_pos (by omega), w64 (by omega) (by omega)]
    exact dec_dd (by unfold Sz; omega)
  · repeat' split
    all_goals first | exact dec_ff (by unfold Sz; omega) | (exfalso; omega)
theorem gridO_tab {W H : Int} {AT : Int → Int → Option Int} {F : Int → Int} (hW : 1 ≤ W) (hH : 0 ≤ H) (h : ∀ x y, 0 ≤ x → x < W → 0 ≤ y → y < H → AT x y = some (F (y * W + x))) : Ext.gridO W H AT = some (tab F (W * H).toNat 0) := by
  rw [Ext.gridO_of (g := fun x y => F (y * W + x)) hW hH h]
  simp only [Option.some.injEq]
  unfold Ext.grid Ext.pref
  rw [← tab_range]
  apply List.map_congr_left
  intro i _
  show F ((i : Int) / W * W + (i : Int) % W) = _
  rw [xy_of]
theorem drawn_some {W H : Int} (hs : Sz W H) {AT : Int → Int → Option Int} {F : Int → Int} (h : ∀ x y, 0 ≤ x → x < W → 0 ≤ y → y < H → AT x y = some (F (y * W + x))) :
    (if 1 ≤ W ∧ W ≤ 1024 ∧ 0 ≤ H ∧ H ≤ 1024 ∧ W * H ≤ 1024 then (Ext.gridO W H AT).map fun l => (W, H, l) else none) = some (W, H, tab F (W * H).toNat 0) := by
  have hW := hs.1; have hW2 := hs.2.1; have hH := hs.2.2.1; have hH2 := hs.2.2.2.1; have ha := hs.area
  rw [if_pos (by omega), gridO_tab hW (by omega) h]; rfl
theorem idx_w {W H x y : Int} (hs : Sz W H) (x0 : 0 ≤ x) (x1 : x < W) (y0 : 0 ≤ y) (y1 : y < H) : wrap64 (wrap64 (y * W) + x) = y * W + x ∧ 0 ≤ y * W + x ∧ y * W + x < W * H ∧ (y * W + x) % W = x ∧ (y * W + x) / W = y := by
  have hi := xy_idx x0 x1 y0 y1
  have hW := hs.1; have hW2 := hs.2.1; have hH2 := hs.2.2.2.1; have ha := hs.area
  have q := mul_bd (c := 64) (d := 64) y0 (by omega) (show 0 ≤ W by omega) hW2
  refine ⟨by rw [w64 (x := y * W) (by omega) (by omega), w64 (by omega) (by omega)], hi.1, hi.2, ?_, ?_⟩
  · rw [Int.add_comm, Int.add_mul_emod_self_right, Int.emod_eq_of_lt x0 x1]
  · rw [Int.add_comm, Int.add_mul_ediv_right _ _ (by omega), Int.ediv_eq_zero_of_lt x0 x1, Int.zero_add]
theorem one_i (b : Bool) : impl_one.f b = some (if b = true then 1 else 0) := by unfold impl_one.f; split <;> rfl
theorem holds_i {a b : Int} (h : Ok a b) (x y : Int) : impl_holds.f a b x y = some (decide (hold a b x y)) := by
  have hn := h.ar
  have hx0 := Int.emod_nonneg x (show ar a b ≠ 0 by omega); have hx1 := Int.emod_lt_of_pos x (show 0 < ar a b by omega)
  have hy0 := Int.emod_nonneg y (show ar a b ≠ 0 by omega); have hy1 := Int.emod_lt_of_pos y (show 0 < ar a b by omega)
  obtain ⟨h1, h2, h3, h4⟩ := h
  have m1 := mul_bd (c := 288) (d := 12) hx0 (by omega) (show 0 ≤ a by omega) h2
  have m2 := mul_bd (c := 288) (d := 12) hx0 (by omega) h3 h4
  have m3 := mul_bd (c := 288) (d := 12) hy0 (by omega) (show 0 ≤ a by omega) h2
  have m4 := mul_bd (c := 288) (d := 12) hy0 (by omega) h3 h4
  unfold impl_holds.f
  rw [area_i ⟨h1, h2, h3, h4⟩]; simp only [Option.bind_some]
  rw [mod_i (by omega) (by omega), mod_i (by omega) (by omega)]; simp only [Option.bind_some]
  have hne : ¬ ar a b = 0 := by omega
  simp only [if_neg hne]
  rw [w64 (x := x % _ * a) (by omega) (by omega), w64 (x := y % _ * b) (by omega) (by omega), w64 (x := y % _ * a) (by omega) (by omega), w64 (x := x % _ * b) (by omega) (by omega), w64 (by omega) (by omega), w64 (by omega) (by omega), mod_i (by omega) (by omega)]
  simp only [Option.bind_some, tmod_dvd]
  have key : hold a b x y ↔ hold a b (x % ar a b) (y % ar a b) := by
    have := hold_shift a b (x % ar a b) (y % ar a b) (x / ar a b) (y / ar a b)
    rwa [Int.emod_add_mul_ediv, Int.emod_add_mul_ediv] at this
  rw [show decide (hold a b x y) = decide (hold a b (x % ar a b) (y % ar a b)) from decide_eq_decide.mpr key]
  unfold hold
  split
  · rename_i hd; simp only [Option.some.injEq, hd, true_and]
    rw [Bool.eq_iff_iff, beq_iff_eq, decide_eq_true_iff, Int.dvd_iff_emod_eq_zero]
  · rename_i hd; simp only [hd, false_and, decide_false]
theorem namel_i {a b : Int} (h : Ok a b) {x y : Int} (hx : -1000000 ≤ x ∧ x ≤ 1000000) (hy : -1000000 ≤ y ∧ y ≤ 1000000) (d : Nat) : ∀ (k : Nat) (j : Int), 0 ≤ j → ar a b - j = d → d + 14 ≤ k →
    impl_name.l0 k x y (ar a b) j a b = some (scan a b x y d j) := by
  have hr := h.row; have hn := h.ar
  induction d with
  | zero =>
    intro k j h1 hd hk
    obtain ⟨k, rfl⟩ : ∃ m, k = m + 1 := ⟨k - 1, by omega⟩
    simp only [impl_name.l0]; rw [if_neg (by omega)]; rfl
  | succ d ih =>
    intro k j h1 hd hk
    obtain ⟨k, rfl⟩ : ∃ m, k = m + 1 := ⟨k - 1, by omega⟩
    have e1 := Int.emod_nonneg j (show row a b ≠ 0 by omega); have e2 := Int.emod_lt_of_pos j (show 0 < row a b by omega)
    have e3 := Int.ediv_nonneg h1 (show 0 ≤ row a b by omega); have e4 := Int.ediv_le_self (row a b) h1
    have hne : ¬ row a b = 0 := by omega
    simp only [impl_name.l0]
    rw [if_pos (by omega), row_i h k (by omega)]; simp only [Option.bind_some, if_neg hne]
    rw [tmod_pos h1, tdiv_pos h1, w64 (x := j / row a b) (by omega) (by omega), w64 (by omega) (by omega), w64 (by omega) (by omega), w64 (by omega) (by omega), holds_i h, ih k (j + 1) (by omega) (by omega) (by omega)]
    simp only [Option.bind_some, decide_eq_true_eq]
    rw [scan]; split <;> rfl
theorem name_i {a b : Int} (h : Ok a b) {x y : Int} (hx : -1000000 ≤ x ∧ x ≤ 1000000) (hy : -1000000 ≤ y ∧ y ≤ 1000000) (k : Nat) (hk : 400 ≤ k) : impl_name.f k a b x y = some (nm a b x y) := by
  have hn := h.ar
  unfold impl_name.f
  rw [area_i h]; simp only [Option.bind_some]
  rw [namel_i h hx hy (ar a b).toNat k 0 (by omega) (by omega) (by omega)]; rfl
def spk (a b W i : Int) : Int := at_ (spotL a b) (Lat.nm a b (i % W) (i / W))
def spF (a b lev W i : Int) : Int := if spk a b W i < lev then 1 else 0
def spOk (a b lev W H : Int) : Prop := Ok a b ∧ (0 ≤ lev ∧ lev ≤ Lat.ar a b) ∧ Sz W H
instance (a b lev W H : Int) : Decidable (spOk a b lev W H) := inferInstanceAs (Decidable (_ ∧ _))
def spotP (a b lev W H : Int) : Int × Int × List Int × Bool := if spOk a b lev W H then (W, H, tab (spF a b lev W) (W * H).toNat 0, true) else (0, 0, [], false)
theorem spotL_full {a b : Int} (h : Ok a b) : ((spotL a b).length : Int) = Lat.ar a b := by
  have hn := h.ar
  unfold spotL; rw [if_pos h]; unfold plc; rw [tab_length, nrs_len]; omega
theorem nm_bd {a b : Int} (h : Ok a b) (x y : Int) : 0 ≤ Lat.nm a b x y ∧ Lat.nm a b x y < Lat.ar a b := ⟨(Lat.nm_spec h.1 h.2.2.1 x y).1, (Lat.nm_spec h.1 h.2.2.1 x y).2.1⟩
theorem nm_row {a b : Int} (h : Ok a b) (y : Int) : ∃ u0 : Int, ∀ x, Lat.nm a b x y = y % Lat.g a b * Lat.row a b + (x + u0) % Lat.row a b := by
  have ha := h.1; have hb := h.2.2.1; have hr := h.row; have hg := h.g
  obtain ⟨u, v, u0, u1, v0, v1, e⟩ := Lat.named ha hb 0 y
  have hv : v = y % Lat.g a b := by
    obtain ⟨c, hc⟩ := Lat.hold_y ha e
    have : y = v + Lat.g a b * c := by omega
    rw [this, Int.add_mul_emod_self_left, Int.emod_eq_of_lt v0 v1]
  refine ⟨u, fun x => ?_⟩
  rw [← hv]
  have hm0 := Int.emod_nonneg (x + u) (show Lat.row a b ≠ 0 by omega); have hm1 := Int.emod_lt_of_pos (x + u) (show 0 < Lat.row a b by omega)
  have hl := Lat.name_lt hm0 hm1 v0 v1
  have hs := Lat.split_name (v := v) hm0 hm1
  refine Lat.nm_unique ha hb hl.1 hl.2 ?_
  rw [hs.1, hs.2]
  have k2 : Lat.hold a b (Lat.row a b * ((x + u) / Lat.row a b)) 0 := (Lat.hold_right ha _).mpr ⟨_, rfl⟩
  have := Lat.hold_add e k2
  rwa [show 0 - u + Lat.row a b * ((x + u) / Lat.row a b) = x - (x + u) % Lat.row a b by have := Int.mul_ediv_add_emod (x + u) (Lat.row a b); omega, Int.add_zero] at this
theorem g_dvd_row {a b : Int} (h : Ok a b) : Lat.g a b ∣ Lat.row a b := by
  have hg := h.g
  obtain ⟨a', ha'⟩ : Lat.g a b ∣ a := Int.gcd_dvd_left ..
  obtain ⟨b', hb'⟩ : Lat.g a b ∣ b := Int.gcd_dvd_right ..
  have e : Lat.g a b * Lat.row a b = Lat.g a b * (Lat.g a b * (a' * a' + b' * b')) := by
    rw [Lat.row_mul]
    generalize Lat.g a b = z at *
    subst ha' hb'
    unfold Lat.ar; grind
  exact ⟨_, Int.eq_of_mul_eq_mul_left (by omega) e⟩
theorem sq_sum {a b : Int} (h : Ok a b) (G : Int → Int) : S1 (fun i => G (Lat.nm a b (i % Lat.row a b) (i / Lat.row a b))) (Lat.row a b * Lat.row a b).toNat = Lat.row a b / Lat.g a b * S1 G (Lat.ar a b).toNat := by
  have hr := h.row; have hg := h.g
  obtain ⟨c, hc⟩ := g_dvd_row h
  have hm := Lat.row_mul' (a := a) (b := b)
  have key : ∀ y : Int, S1 (fun x => G (Lat.nm a b x y)) (Lat.row a b).toNat = S1 (fun u => G (y % Lat.g a b * Lat.row a b + u)) (Lat.row a b).toNat := fun y => by
    obtain ⟨u0, e⟩ := nm_row h y
    have s1 := S1_ring (g := fun z => G (y % Lat.g a b * Lat.row a b + z % Lat.row a b)) (n := (Lat.row a b).toNat) (fun x => by rw [Int.toNat_of_nonneg (by omega), Int.add_emod_right]) u0
    rw [S1_congr (h := fun x => G (y % Lat.g a b * Lat.row a b + (x + u0) % Lat.row a b)) (fun x _ _ => by rw [e x]), s1]
    exact S1_congr fun x x0 x1 => by rw [Int.emod_eq_of_lt x0 (by omega)]
  obtain ⟨w, hw⟩ : ∃ w : Nat, Lat.row a b = w := ⟨(Lat.row a b).toNat, by omega⟩
  obtain ⟨g, hgn⟩ : ∃ g : Nat, Lat.g a b = g := ⟨(Lat.g a b).toNat, by omega⟩
  have hc0 : 0 ≤ c := by
    by_cases z : c < 0
    · have : Lat.g a b * c < 0 := Int.mul_neg_of_pos_of_neg (by omega) z
      omega
    · omega
  obtain ⟨d, hd⟩ : ∃ d : Nat, c = d := ⟨c.toNat, by omega⟩
  rw [hw, hgn] at key hc hm
  subst hd
  rw [Int.toNat_natCast] at key
  have e1 : w = g * d := by have : (w : Int) = ((g * d : Nat) : Int) := by rw [hc]; rfl
                            omega
  rw [hw, hgn, ← hm, show ((w : Int) * w).toNat = w * w by rw [← Int.natCast_mul, Int.toNat_natCast], show ((w : Int) * g).toNat = w * g by rw [← Int.natCast_mul, Int.toNat_natCast], S1_grid (fun x y => G (Lat.nm a b x y)) (by omega) w]
  rw [S1_congr (h := fun y => S1 (fun u => G (y % g * w + u)) w) (fun y _ _ => key y)]
  have e2 := S1_grid (fun v _ => S1 (fun u => G (v * w + u)) w) (W := g) (by omega) d
  rw [← e1] at e2
  rw [e2, S1_const]
  have e3 := S1_grid (fun u v => G (v * w + u)) (W := w) (by omega) g
  rw [← e3, show (w : Int) / g = d by rw [hc]; exact Int.mul_ediv_cancel_left _ (by omega)]
  congr 1
  exact S1_congr fun i _ _ => by rw [xy_of]
theorem spotp_i (a b lev W H : Int) {k : Nat} (hk : 2800000 ≤ k) : impl_SpotPlate.f k a b lev W H = some (spotP a b lev W H) := by
  obtain ⟨k, rfl⟩ : ∃ m, k = m + 1 := ⟨k - 1, by omega⟩
  unfold impl_SpotPlate.f spotP
  rw [isLattice_i, Option.bind_some]
  by_cases h : Ok a b
  · rw [if_pos (decide_eq_true h)]
    by_cases h1 : lev < 0
    · rw [if_pos h1, impl_SpotPlate.j0, if_pos rfl, if_neg (c := spOk a b lev W H) (fun z => by have := z.2.1.1; omega)]
    · rw [if_neg h1, area_i h, Option.bind_some]
      by_cases h2 : lev > Lat.ar a b
      · rw [if_pos h2, impl_SpotPlate.j0, if_pos rfl, if_neg (c := spOk a b lev W H) (fun z => by have := z.2.1.2; omega)]
      · rw [if_neg h2, size_i, Option.bind_some, impl_SpotPlate.j0]
        by_cases hs : Sz W H
        · rw [if_neg (by rw [decide_eq_true hs]; decide), spot_i a b (by omega), Option.bind_some, if_pos (c := spOk a b lev W H) ⟨h, ⟨by omega, by omega⟩, hs⟩]
          unfold impl_SpotPlate_1.drawn.f
          have hW := hs.1; have hW2 := hs.2.1; have hH2 := hs.2.2.2.1
          rw [drawn_some hs (F := spF a b lev W) (fun x y x0 x1 y0 y1 => ?_)]
          · rfl
          · have hb := nm_bd h x y
            have hi := idx_w hs x0 x1 y0 y1
            unfold impl_SpotPlate_1.f
            rw [name_i h (by omega) (by omega) k (by omega), Option.bind_some, if_pos hb.1, if_pos (by rw [spotL_full h]; exact hb.2), one_i, Option.bind_some, rd_at]
            unfold spF spk
            rw [hi.2.2.2.1, hi.2.2.2.2]
            simp only [decide_eq_true_eq]
        · rw [if_pos (by rw [decide_eq_false hs]; rfl), if_neg (c := spOk a b lev W H) (fun z => hs z.2.2)]
  · rw [if_neg (by rw [decide_eq_true_iff]; exact h), impl_SpotPlate.j0, if_pos rfl, if_neg (c := spOk a b lev W H) (fun z => h z.1)]
theorem sq_spots {a b : Int} (h : Ok a b) {lev : Int} (h0 : 0 ≤ lev) (h1 : lev ≤ Lat.ar a b) : S1 (spF a b lev (Lat.row a b)) (Lat.row a b * Lat.row a b).toNat = Lat.row a b / Lat.g a b * lev := by
  have hn := h.ar; have hf := nrs_len a b
  have e := sq_sum h (fun k => if at_ (spotL a b) k < lev then 1 else 0)
  rw [show spF a b lev (Lat.row a b) = fun i => if at_ (spotL a b) (Lat.nm a b (i % Lat.row a b) (i / Lat.row a b)) < lev then 1 else 0 from rfl, e]
  congr 1
  unfold spotL
  rw [if_pos h, ← hf]
  exact plc_sum _ (by omega) h0 (by omega)
theorem sq_count {a b : Int} (h : Ok a b) : Lat.row a b * Lat.row a b / Lat.ar a b = Lat.row a b / Lat.g a b := by
  have hr := h.row
  rw [← Lat.row_mul', Int.mul_ediv_mul_of_pos _ _ (by omega)]
theorem periodl_i {a b : Int} (h : Ok a b) (d : Nat) : ∀ (k : Nat) (j : Int), 1 ≤ j → j ≤ row a b → row a b - j = d → d < k → impl_PeriodOf.l0 k j a b = some (row a b) := by
  have hr := h.row
  induction d with
  | zero =>
    intro k j h1 h2 hd hk
    obtain ⟨k, rfl⟩ : ∃ m, k = m + 1 := ⟨k - 1, by omega⟩
    obtain rfl : j = row a b := by omega
    simp only [impl_PeriodOf.l0]
    rw [holds_i h]; simp only [Option.bind_some]
    rw [if_pos (decide_eq_true ((hold_right h.1 _).mpr (Int.dvd_refl _)))]
  | succ d ih =>
    intro k j h1 h2 hd hk
    obtain ⟨k, rfl⟩ : ∃ m, k = m + 1 := ⟨k - 1, by omega⟩
    simp only [impl_PeriodOf.l0]
    rw [holds_i h]; simp only [Option.bind_some]
    rw [if_neg, w64 (by omega) (by omega), ih k (j + 1) (by omega) (by omega) (by omega) (by omega)]
    rw [decide_eq_true_iff, hold_right h.1]
    intro hd; have := Int.le_of_dvd (by omega) hd; omega
theorem period_i (a b : Int) (k : Nat) (hk : 289 ≤ k) : impl_PeriodOf.f k a b = some (if Ok a b then row a b else 0) := by
  unfold impl_PeriodOf.f
  rw [isLattice_i]; simp only [Option.bind_some]
  by_cases h : Ok a b
  · have hr := h.row
    rw [if_pos (by simp [h]), if_pos h, periodl_i h (row a b - 1).toNat k 1 (by omega) (by omega) (by omega) (by omega)]
  · simp [h]
theorem celled_i (W H : Int) : impl_celled.f W H = some (decide (Cel W H)) := by
  unfold impl_celled.f
  by_cases h : 1 ≤ W ∧ W ≤ 256 ∧ 1 ≤ H ∧ H ≤ 256
  · have := mul_bd (c := 256) (d := 256) (show 0 ≤ W by omega) h.2.1 (show 0 ≤ H by omega) h.2.2.2
    rw [if_pos (by omega), if_pos (by omega), if_pos (by omega), if_pos (by omega), w64 (by omega) (by omega)]
    exact dec_dd (by unfold Cel; omega)
  · repeat' split
    all_goals first | exact dec_ff (by unfold Cel; omega) | (exfalso; omega)
def celL (a b : Int) : List Int := tab (spk a b (Lat.row a b)) (Lat.row a b * Lat.row a b).toNat 0
def smOk (a b : Int) : Prop := Ok a b ∧ Cel (Lat.row a b) (Lat.row a b)
instance (a b : Int) : Decidable (smOk a b) := inferInstanceAs (Decidable (_ ∧ _))
def spotM (a b : Int) : Int × Int × List Int × Bool := if smOk a b then (Lat.row a b, Lat.row a b, plc (at_ (celL a b)) (celL a b).length, true) else (0, 0, [], false)
theorem celL_len {a b : Int} (h : smOk a b) : ((celL a b).length : Int) = Lat.row a b * Lat.row a b ∧ 1 ≤ Lat.row a b * Lat.row a b ∧ Lat.row a b * Lat.row a b ≤ 256 := by
  have ha := h.2.area
  unfold celL; rw [tab_length]; omega
theorem celL_at {a b : Int} (h : smOk a b) {i : Int} (i0 : 0 ≤ i) (i1 : i < (celL a b).length) : at_ (celL a b) i = spk a b (Lat.row a b) i := by
  have := celL_len h
  unfold celL; exact tab_val _ i0 (by omega)
theorem spk_bd {a b : Int} (h : Ok a b) (W i : Int) : 0 ≤ spk a b W i ∧ spk a b W i ≤ 288 := by
  have hn := h.ar; have hb := nm_bd h (i % W) (i / W); have hf := nrs_len a b
  unfold spk spotL
  rw [if_pos h]; unfold plc
  rw [tab_val _ hb.1 (by omega)]
  have := cb_bd (at_ (nrs a b)) (Lat.nm a b (i % W) (i / W)) (nrs a b).length 0
  omega
theorem outm (w n : Int) (r : List Int) : ∀ (k : Nat) (i : Int) (o : List Int), impl_SpotMatrix.l1 k r n i w w o = (impl_SpotRanks.l1 k o r n i).map fun R => (w, w, R, true) := by
  intro k
  induction k with
  | zero => intro i o; rfl
  | succ k ih =>
    intro i o
    rw [impl_SpotMatrix.l1, impl_SpotRanks.l1]
    repeat' split
    all_goals first | rfl | exact ih _ _
theorem places_i {F : Int → Int → Option Int} {l : List Int} (hl : l.length ≤ 1000) (h0 : 0 < l.length) (hA : Cmp F (at_ l) l.length) {k : Nat} (hk : 2500000 ≤ k) :
    ∃ r, slices_SortStableFunc_int_int.f F k (tab (fun x => x) l.length 0) 0 = some r ∧ r.length = l.length ∧ impl_SpotRanks.l1 k (List.replicate l.length 0) r l.length 0 = some (plc (at_ l) l.length) := by
  have at_id : ∀ q : Int, 0 ≤ q → q < (tab (fun x => x) l.length 0).length → at_ (tab (fun x => x) l.length 0) q = q := fun q q0 q1 => by rw [tab_length] at q1; exact tab_val _ q0 q1
  obtain ⟨r, e1, e2, e3⟩ := sort_c (u := 0) (l := tab (fun x => x) l.length 0) (by rw [tab_length]; exact hA) (by rw [tab_length]; omega) (by rw [tab_length]; omega) at_id (k := k) (by omega)
  have rl : r.length = l.length := by rw [e2.length_eq, tab_length]
  have hN : Nam r r.length := fun v hv => by
    obtain ⟨i, hi, rfl⟩ := List.mem_iff_getElem.mp (e2.mem_iff.mp hv)
    rw [← at_nat _ i hi, at_id i (by omega) (by omega)]; rw [tab_length] at hi; omega
  rw [tab_length] at e3
  have hs : Srt (at_ l) r 0 r.length := by rw [rl]; exact e3
  refine ⟨r, e1, rl, ?_⟩
  obtain ⟨R, g1, g2, g3, g4⟩ := spot_out hs (by omega) hN r.length k (List.replicate l.length 0) 0 (by omega) (by omega) (by rw [List.length_replicate]; omega) (by omega)
  rw [rl] at g1
  rw [g1]
  congr 1
  unfold plc
  refine list_ext (by rw [g2, tab_length, rl]) fun x x0 x1 => ?_
  rw [tab_val _ x0 (by omega)]
  have hx : x ∈ r := e2.mem_iff.mpr (by have := at_mem (l := tab (fun x => x) l.length 0) x0 (by rw [tab_length]; omega); rw [at_id x x0 (by rw [tab_length]; omega)] at this; exact this)
  obtain ⟨p, hp, ep⟩ := List.mem_iff_getElem.mp hx
  have c1 := count_srt r p hs hp
  have c2 := g3 p (by omega) (by omega)
  rw [at_nat r p hp, ep] at c2
  rw [c2, ← cb_count, ← e2.countP_eq, ← ep, c1]
theorem spotml_i {a b : Int} (h : smOk a b) (d : Nat) : ∀ (k : Nat) (o p : List Int) (i : Int), 0 ≤ i → Lat.row a b * Lat.row a b - i = d → (o.length : Int) = i → (p.length : Int) = i → d + 2600000 ≤ k → o ++ tab (fun x => x) d i = tab (fun x => x) (celL a b).length 0 → p ++ tab (spk a b (Lat.row a b)) d i = celL a b →
    impl_SpotMatrix.l0 k (Lat.row a b) (spotL a b) o (Lat.row a b * Lat.row a b) i a b p = some (Lat.row a b, Lat.row a b, plc (at_ (celL a b)) (celL a b).length, true) := by
  have hc := celL_len h; have hn := h.1.ar; have hr := h.1.row
  induction d with
  | zero =>
    intro k o p i i0 hd ho hp hk he hf
    obtain ⟨k, rfl⟩ : ∃ m, k = m + 1 := ⟨k - 1, by omega⟩
    rw [tab, List.append_nil] at he hf
    subst he; subst hf
    rw [impl_SpotMatrix.l0, if_neg (by omega)]
    have hA : Cmp (fun x y => impl_SpotMatrix_1.f x y (celL a b)) (at_ (celL a b)) (celL a b).length := by
      intro x y x0 x1 y0 y1
      have b1 := celL_at h x0 x1; have b2 := celL_at h y0 y1
      have c1 := spk_bd h.1 (Lat.row a b) x; have c2 := spk_bd h.1 (Lat.row a b) y
      refine ⟨at_ (celL a b) x - at_ (celL a b) y, ?_, by omega⟩
      show impl_SpotMatrix_1.f x y (celL a b) = _
      unfold impl_SpotMatrix_1.f
      rw [if_pos x0, if_pos x1, if_pos y0, if_pos y1, rd_at, rd_at, w64 (by omega) (by omega)]
    obtain ⟨r, e1, e2, e3⟩ := places_i (by omega) (by omega) hA (k := k) (by omega)
    unfold impl_SpotMatrix_1.sort.f
    rw [e1, Option.bind_some, if_pos (by omega), if_pos (by rw [tab_length]; omega), outm, tab_length, Int.toNat_natCast, e3]; rfl
  | succ d ih =>
    intro k o p i i0 hd ho hp hk he hf
    obtain ⟨k, rfl⟩ : ∃ m, k = m + 1 := ⟨k - 1, by omega⟩
    have hb := nm_bd h.1 (i % Lat.row a b) (i / Lat.row a b)
    have e1 := Int.emod_nonneg i (show Lat.row a b ≠ 0 by omega); have e2 := Int.emod_lt_of_pos i (show 0 < Lat.row a b by omega)
    have e3 := Int.ediv_nonneg i0 (show 0 ≤ Lat.row a b by omega); have e4 := Int.ediv_le_self (Lat.row a b) i0
    rw [impl_SpotMatrix.l0, if_pos (by omega), if_pos (by omega), if_neg (by omega), tmod_pos i0, tdiv_pos i0, w64 (x := i / Lat.row a b) (by omega) (by omega), name_i h.1 (by omega) (by omega) k (by omega), Option.bind_some, if_pos hb.1, if_pos (by rw [spotL_full h.1]; exact hb.2), if_pos (by omega), w64 (x := i + 1) (by omega) (by omega), rd_at]
    exact ih k _ _ (i + 1) (by omega) (by omega) (by rw [List.length_append]; simp only [List.length_cons, List.length_nil]; omega) (by rw [List.length_append]; simp only [List.length_cons, List.length_nil]; omega) (by omega) (by rw [← he, tab, List.append_assoc]; rfl) (by rw [← hf, tab, List.append_assoc]; rfl)
theorem spotm_i (a b : Int) {k : Nat} (hk : 2800000 ≤ k) : impl_SpotMatrix.f k a b = some (spotM a b) := by
  obtain ⟨k, rfl⟩ : ∃ m, k = m + 1 := ⟨k - 1, by omega⟩
  unfold impl_SpotMatrix.f spotM
  rw [period_i a b _ (by omega), Option.bind_some, isLattice_i, Option.bind_some]
  by_cases h : Ok a b
  · rw [if_pos h, if_pos (decide_eq_true h), celled_i, Option.bind_some, impl_SpotMatrix.j0]
    by_cases h2 : Cel (Lat.row a b) (Lat.row a b)
    · have hc := celL_len (a := a) (b := b) ⟨h, h2⟩
      rw [if_neg (by rw [decide_eq_true h2]; decide), spot_i a b (by omega), Option.bind_some, if_pos (c := smOk a b) ⟨h, h2⟩, w64 (x := Lat.row a b * Lat.row a b) (by omega) (by omega)]
      exact spotml_i ⟨h, h2⟩ (Lat.row a b * Lat.row a b).toNat k [] [] 0 (by omega) (by omega) rfl rfl (by omega) (by rw [show (celL a b).length = (Lat.row a b * Lat.row a b).toNat by omega]; rfl) rfl
    · rw [if_pos (by rw [decide_eq_false h2]; rfl), if_neg (c := smOk a b) (fun z => h2 z.2)]
  · rw [if_neg h, if_neg (by rw [decide_eq_true_iff]; exact h), impl_SpotMatrix.j0, if_pos rfl, if_neg (c := smOk a b) (fun z => h z.1)]
theorem nwB_eq (n : Int) : ∀ (l seen : List Int), Ext.nwB n l seen = decide (newL n l seen) := by
  intro l
  induction l with
  | nil => intro seen; rw [Ext.nwB, decide_eq_true (show newL n [] seen from trivial)]
  | cons v l ih =>
    intro seen
    rw [Ext.nwB, ih]
    by_cases h : (0 ≤ v ∧ v < n) ∧ v ∉ seen
    · rw [if_pos h]; exact decide_eq_decide.mpr ⟨fun z => ⟨h.1, h.2, z⟩, fun z => z.2.2⟩
    · rw [if_neg h, decide_eq_false (fun z => h ⟨z.1, z.2.1⟩)]
theorem mtx_i {W H : Int} {l : List Int} (hl : l.length ≤ 1048576) : impl_IsMatrix.f W H l = some (decide (Mtx W H l)) := by
  unfold impl_IsMatrix.f
  rw [if_pos (by omega)]
  simp only [Option.some.injEq]
  unfold Ext.mtxB
  have e : Ext.celB W H = true ↔ Cel W H := by unfold Ext.celB Cel; exact decide_eq_true_iff
  by_cases h : Ext.celB W H = true ∧ (l.length : Int) = W * H
  · rw [if_pos h, nwB_eq]; exact decide_eq_decide.mpr ⟨fun z => ⟨e.mp h.1, h.2, z⟩, fun z => z.2.2⟩
  · rw [if_neg h, decide_eq_false (fun z => h ⟨e.mpr z.1, z.2.1⟩)]
theorem ints_l (l : List Int) (hl : l.length ≤ 1048576) (d : Nat) : ∀ (k : Nat) (j : Int), 0 ≤ j → j ≤ l.length → (l.length : Int) - j = d → d < k → laws_ints.l0 k l l l.length j = some true := by
  induction d with
  | zero =>
    intro k j j0 j1 hd hk
    obtain ⟨k, rfl⟩ : ∃ m, k = m + 1 := ⟨k - 1, by omega⟩
    rw [laws_ints.l0, if_neg (by omega)]
  | succ d ih =>
    intro k j j0 j1 hd hk
    obtain ⟨k, rfl⟩ : ∃ m, k = m + 1 := ⟨k - 1, by omega⟩
    rw [laws_ints.l0, if_pos (by omega), if_pos j0, if_pos (by omega), if_pos (by omega), if_pos rfl, w64 (by omega) (by omega)]
    exact ih k (j + 1) (by omega) (by omega) (by omega) (by omega)
theorem ints_c (l : List Int) (hl : l.length ≤ 1048576) {k : Nat} (hk : 1100000 ≤ k) : laws_ints.f k l l = some true := by
  unfold laws_ints.f; rw [if_pos rfl, ints_l l hl l.length k 0 (by omega) (by omega) (by omega) (by omega)]
theorem same_c (a b : Int) (l : List Int) (hl : l.length ≤ 1048576) {k : Nat} (hk : 1100000 ≤ k) : laws_same.f k a b l a b l = some true := by
  unfold laws_same.f; rw [if_pos rfl, if_pos rfl, ints_c l hl hk]; rfl
theorem rank_at {W H : Int} {M : List Int} (h : Mtx W H M) {x y : Int} (x0 : 0 ≤ x) (x1 : x < W) (y0 : 0 ≤ y) (y1 : y < H) : impl_rank.f W H M x y = some (at_ M (y * W + x)) := by
  have hc := h.1; have hW := hc.1; have hW2 := hc.2.1; have hH := hc.2.2.1; have hH2 := hc.2.2.2.1; have ha := hc.area; have hl := h.2.1
  have hi := xy_idx x0 x1 y0 y1
  have q := mul_bd (c := 256) (d := 256) y0 (by omega) (show 0 ≤ W by omega) hW2
  unfold impl_rank.f
  rw [mod_i (by omega) (by omega), Option.bind_some, mod_i (by omega) (by omega), Option.bind_some, Int.emod_eq_of_lt x0 x1, Int.emod_eq_of_lt y0 y1, w64 (x := y * W) (by omega) (by omega), w64 (by omega) (by omega), if_pos hi.1, if_pos (by omega), rd_at]
theorem cells_i {W H : Int} {M : List Int} (h : Mtx W H M) (hs : Sz W H) {r : Int} (r0 : 0 ≤ r) (r1 : r ≤ M.length) : impl_CellsBelow.f W H M r = some (W, H, cellsB M r) := by
  have ha := h.1.area; have hl := h.2.1
  unfold impl_CellsBelow.f
  rw [mtx_i (by omega), Option.bind_some, if_pos (decide_eq_true h), if_neg (by omega), if_neg (by omega), size_i, Option.bind_some, if_pos (decide_eq_true hs)]
  unfold impl_CellsBelow_1.drawn.f
  rw [drawn_some hs (F := fun i => if at_ M i < r then 1 else 0) (fun x y x0 x1 y0 y1 => ?_)]
  · unfold cellsB
    rw [show M.length = (W * H).toNat by omega]; rfl
  · unfold impl_CellsBelow_1.f
    rw [rank_at h x0 x1 y0 y1, Option.bind_some, one_i, Option.bind_some]
    simp only [decide_eq_true_eq]
theorem row16 (xs : List Int) (hl : xs.length ≤ 140737488351232) (k : Nat) (hk : 4001 ≤ k) : ∃ a b, spec_MakeLattice.f k xs = some (a, b) ∧ Ok a b ∧ Lat.row a b ≤ 16 := by
  obtain ⟨h, e⟩ := new_c xs k hk
  unfold spec_MakeLattice.f
  rw [e]; simp only [Option.bind_some]
  obtain ⟨r, i', h', e, r0, r1, i0, i1⟩ := below_c xs hl 0 h 16 (by omega) (by omega) (by omega) (by omega)
  change ∃ a b, (spec_l01Below.f xs 0 h (16 : Int)).bind _ = some (a, b) ∧ _
  rw [e]; simp only [Option.bind_some]
  rw [if_pos r0]
  refine ⟨_, _, if_pos (by exact r1), ?_⟩
  have : r = 0 ∨ r = 1 ∨ r = 2 ∨ r = 3 ∨ r = 4 ∨ r = 5 ∨ r = 6 ∨ r = 7 ∨ r = 8 ∨ r = 9 ∨ r = 10 ∨ r = 11 ∨ r = 12 ∨ r = 13 ∨ r = 14 ∨ r = 15 := by omega
  rcases this with rfl | rfl | rfl | rfl | rfl | rfl | rfl | rfl | rfl | rfl | rfl | rfl | rfl | rfl | rfl | rfl <;> decide
theorem spots_i {a b lev : Int} (h : Ok a b) (hr : Lat.row a b ≤ 16) (h0 : 0 ≤ lev) (h1 : lev ≤ Lat.ar a b) {k : Nat} (hk : 2800000 ≤ k) : Sz (Lat.row a b) (Lat.row a b) ∧ impl_SpotPlate.f k a b lev (Lat.row a b) (Lat.row a b) = some (Lat.row a b, Lat.row a b, tab (spF a b lev (Lat.row a b)) (Lat.row a b * Lat.row a b).toNat 0, true) := by
  have hw := h.row
  have q := Pic.mul_bd (c := 16) (d := 16) (show 0 ≤ Lat.row a b by omega) hr (show 0 ≤ Lat.row a b by omega) hr
  have hs : Sz (Lat.row a b) (Lat.row a b) := ⟨by omega, by omega, by omega, by omega, by omega⟩
  refine ⟨hs, ?_⟩
  rw [spotp_i a b lev _ _ hk]; unfold spotP; rw [if_pos (c := spOk a b lev (Lat.row a b) (Lat.row a b)) ⟨h, ⟨h0, h1⟩, hs⟩]
theorem S1_ind_bd {p : Int → Prop} [DecidablePred p] : ∀ n : Nat, 0 ≤ S1 (fun i => if p i then 1 else 0) n ∧ S1 (fun i => if p i then 1 else 0) n ≤ n := by
  intro n
  induction n with
  | zero => exact ⟨by simp [S1], by simp [S1]⟩
  | succ n ih => rw [S1]; split <;> omega
theorem at_names {n : Nat} {r : List Int} (hp : r.Perm (tab (fun x => x) n 0)) {i : Int} (i0 : 0 ≤ i) (i1 : i < n) : ∃ p : Nat, p < n ∧ at_ r p = i := by
  have hl : r.length = n := by rw [hp.length_eq, tab_length]
  have hx : i ∈ r := hp.mem_iff.mpr (by have := at_mem (l := tab (fun x => x) n 0) i0 (by rw [tab_length]; omega); rwa [tab_val _ i0 i1] at this)
  obtain ⟨p, hp, ep⟩ := List.mem_iff_getElem.mp hx
  exact ⟨p, by omega, by rw [at_nat r p hp]; exact ep⟩
theorem plc_lev (K : Int → Int) {n : Nat} (hn : n ≤ 1000) {lev T : Int} (hT : S1 (fun i => if K i < lev then 1 else 0) n = T) {i : Int} (i0 : 0 ≤ i) (i1 : i < n) : at_ (plc K n) i < T ↔ K i < lev := by
  obtain ⟨r, rl, hp, hs, hq⟩ := plc_r K n hn
  obtain ⟨p, p1, rfl⟩ := at_names hp i0 i1
  rw [(hq p (by omega) (by omega)).2]
  have mono : ∀ u v : Int, 0 ≤ u → u ≤ v → v < n → K (at_ r u) ≤ K (at_ r v) := fun u v u0 uv v1 => by
    by_cases e : u = v
    · rw [e]; exact Int.le_refl _
    · exact bef_le (hs u v u0 (by omega) v1)
  have e := S1_perm hp (fun i => if K i < lev then 1 else 0)
  rw [hT] at e
  constructor
  · intro h
    by_cases c : K (at_ r p) < lev
    · exact c
    · exfalso
      have e2 := S1_app (fun q => if K (at_ r q) < lev then 1 else 0) p (n - p)
      rw [show p + (n - p) = n by omega] at e2
      rw [S1_congr (g := fun i => if K (at_ r (↑p + i)) < lev then 1 else 0) (h := fun _ => 0) (fun q q0 q1 => if_neg (by have := mono p (p + q) (by omega) (by omega) (by omega); omega)), S1_const] at e2
      have b := S1_ind_bd (p := fun q => K (at_ r q) < lev) p
      omega
  · intro h
    have e2 := S1_app (fun q => if K (at_ r q) < lev then 1 else 0) (p + 1) (n - p - 1)
    rw [show p + 1 + (n - p - 1) = n by omega] at e2
    rw [S1_congr (g := fun i => if K (at_ r i) < lev then 1 else 0) (h := fun _ => 1) (n := p + 1) (fun q q0 q1 => if_pos (by have := mono q p (by omega) (by omega) (by omega); omega)), S1_const] at e2
    have b := S1_ind_bd (p := fun q => K (at_ r (((p + 1 : Nat) : Int) + q)) < lev) (n - p - 1)
    omega
theorem plc_new (K : Int → Int) {n : Nat} (hn : n ≤ 1000) : newL n (plc K n) [] := by
  obtain ⟨r, rl, hp, hs, hq⟩ := plc_r K n hn
  have hl : (plc K n).length = n := by unfold plc; rw [tab_length]
  have := newL_of (n := n) (L := plc K n) (fun i i0 i1 => by
      obtain ⟨p, p1, rfl⟩ := at_names hp i0 (by omega)
      rw [(hq p (by omega) (by omega)).2]; omega)
    (fun i j i0 i1 j0 j1 e => by
      obtain ⟨p, p1, rfl⟩ := at_names hp i0 (by omega)
      obtain ⟨q, q1, rfl⟩ := at_names hp j0 (by omega)
      rw [(hq p (by omega) (by omega)).2, (hq q (by omega) (by omega)).2] at e
      rw [e]) n 0 [] (by omega) (by omega) (fun v hv => by simp at hv)
  exact this
theorem celL_sum {a b : Int} (h : smOk a b) {lev : Int} (h0 : 0 ≤ lev) (h1 : lev ≤ Lat.ar a b) : S1 (fun i => if at_ (celL a b) i < lev then 1 else 0) (celL a b).length = lev * (Lat.row a b / Lat.g a b) := by
  have hc := celL_len h
  have e := sq_spots h.1 h0 h1
  rw [Int.mul_comm, ← e, show (Lat.row a b * Lat.row a b).toNat = (celL a b).length by omega]
  exact S1_congr fun i i0 i1 => by rw [celL_at h i0 i1]; rfl
theorem spot_cells {a b : Int} (h : smOk a b) {lev : Int} (h0 : 0 ≤ lev) (h1 : lev ≤ Lat.ar a b) : cellsB (plc (at_ (celL a b)) (celL a b).length) (lev * (Lat.row a b / Lat.g a b)) = tab (spF a b lev (Lat.row a b)) (Lat.row a b * Lat.row a b).toNat 0 := by
  have hc := celL_len h
  have hl : (plc (at_ (celL a b)) (celL a b).length).length = (celL a b).length := by unfold plc; rw [tab_length]
  unfold cellsB
  rw [hl, show (Lat.row a b * Lat.row a b).toNat = (celL a b).length by omega]
  refine tab_congr fun i i0 i1 => ?_
  have := plc_lev (at_ (celL a b)) (by omega) (celL_sum h h0 h1) i0 i1
  rw [celL_at h i0 i1] at this
  unfold spF
  by_cases c : spk a b (Lat.row a b) i < lev
  · rw [if_pos c, if_pos (this.mpr c)]
  · rw [if_neg c, if_neg (fun z => c (this.mp z))]
theorem pure_FnSpotMatrix (l0 : List Int) (h0 : l0.length ≤ maxLen) (hl : l0.length * 1 ≤ 140737488351232) (hw : ∀ x ∈ l0, (Lit.int .u8 x).wf = true) : ∃ k, laws_FnSpotMatrix.f k l0 = some true := by
  obtain ⟨m, hm⟩ : ∃ m : Nat, 4000000 ≤ m := ⟨4000000, Nat.le_refl _⟩
  refine ⟨m + 8, ?_⟩
  unfold laws_FnSpotMatrix.f
  by_cases h : (l0.length : Int) > 1048576
  · rw [if_pos h]
  · rw [if_neg h]
    obtain ⟨a, b, e, ok, h16⟩ := row16 l0 (by omega) (m + 8) (by omega)
    have hn := ok.ar; have hg := ok.g; have hr := ok.row
    obtain ⟨v1, e1, v10, v11⟩ := at_c l0 (by omega) hw 1 (by omega) (by omega)
    have m0 := Int.emod_nonneg v1 (show Lat.ar a b + 1 ≠ 0 by omega); have m1 := Int.emod_lt_of_pos v1 (show 0 < Lat.ar a b + 1 by omega)
    have q := Pic.mul_bd (c := 16) (d := 16) (show 0 ≤ Lat.row a b by omega) h16 (show 0 ≤ Lat.row a b by omega) h16
    have hs : smOk a b := ⟨ok, by omega, by omega, by omega, by omega, by omega⟩
    have hc := celL_len hs
    have hpl : (plc (at_ (celL a b)) (celL a b).length).length = (celL a b).length := by unfold plc; rw [tab_length]
    have hM : Mtx (Lat.row a b) (Lat.row a b) (plc (at_ (celL a b)) (celL a b).length) := ⟨hs.2, by omega, by rw [hpl]; exact plc_new _ (by omega)⟩
    rw [e]; simp only [Option.bind_some]
    rw [areaOf_s, if_pos ok, Option.bind_some, period_s a b _ (by omega), if_pos ok, Option.bind_some, spotm_i a b (by omega), Option.bind_some]
    unfold spotM
    rw [if_pos hs]
    simp only
    rw [if_pos trivial, if_pos trivial, if_pos trivial, mtx_i (by omega), Option.bind_some, decide_eq_true hM, laws_FnSpotMatrix.j0, if_neg (by decide), e1, Option.bind_some, w64 (x := Lat.ar a b + 1) (by omega) (by omega), if_neg (by omega), tmod_pos v10]
    generalize v1 % (Lat.ar a b + 1) = x at *
    have s1 := spots_i ok h16 (lev := x) (by omega) (by omega) (k := m + 7) (by omega)
    rw [s1.2, Option.bind_some]
    simp only
    have c0 := Int.ediv_nonneg (show 0 ≤ Lat.row a b by omega) (show 0 ≤ Lat.g a b by omega)
    have c1 := Int.ediv_le_self (Lat.g a b) (show 0 ≤ Lat.row a b by omega)
    have c2 := Pic.mul_bd (c := 300) (d := 16) (show 0 ≤ x by omega) (by omega) c0 (by omega)
    have tot_ := celL_sum hs (lev := x) (by omega) (by omega)
    have tb := S1_ind_bd (p := fun i => at_ (celL a b) i < x) (celL a b).length
    rw [if_pos trivial, if_neg (by omega), w64 (x := Lat.row a b * Lat.row a b) (by omega) (by omega), tdiv_pos (by omega), sq_count ok, w64 (x := Lat.row a b / Lat.g a b) (by omega) (by omega), w64 (x := x * (Lat.row a b / Lat.g a b)) (by omega) (by omega), cells_i hM s1.1 (by omega) (by omega), Option.bind_some, spot_cells hs (by omega) (by omega)]
    simp only
    rw [same_c _ _ _ (by rw [tab_length]; omega) (by omega)]; rfl
end Go.Proofs.Ytkkcedkiohefmaa.PFnSpotMatrix
