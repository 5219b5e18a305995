/- What the functions that laws.FnRanked reaches compute, and that the law is true: over numbers alone. -/
import Derived.Test.YtheihidfbalioaaPFnRankedx
import Derived.Test.YtheihidfbalioaaPic2
import Derived.Laws.Strings
namespace Go.Proofs.Ytheihidfbalioaa.PFnRanked
open Go.RowKit Go.Proofs.YtheihidfbalioaaW.PrintWords Go.Proofs.YtheihidfbalioaaW.PrintLast Go.Proofs.YtheihidfbalioaaW.PrintMore
set_option linter.unusedVariables false
set_option linter.unusedSimpArgs false
set_option linter.unusedSimpArgs false
open Pic
theorem w64 {x : Int} (h1 : -9223372036854775808 ≤ x) (h2 : x ≤ 9223372036854775807) : wrap64 x = x := by unfold wrap64; omega
theorem rd_at (l : List Int) (i : Int) : rd l i = at_ l i := rfl
theorem tmod_pos {n x : Int} (h : 0 ≤ x) : Int.tmod x n = x % n := Int.tmod_eq_emod_of_nonneg h
theorem tdiv_pos {n x : Int} (h : 0 ≤ x) : Int.tdiv x n = x / n := Int.tdiv_eq_ediv_of_nonneg h
theorem dec_ff {p : Prop} [Decidable p] (h : ¬ p) : some false = some (decide p) := by rw [decide_eq_false h]
theorem dec_dd {p q : Prop} [Decidable p] [Decidable q] (h : p ↔ q) : some (decide p) = some (decide q) := by rw [decide_eq_decide.mpr h]
theorem mn_eq (a b : Int) : mn a b = if b < a then b else a := rfl
theorem up_wide {W H : Int} {l : List Int} (h : Up W H l 1) : Up W H l 255 := ⟨h.1, h.2.1, fun v hv => ⟨(h.2.2 v hv).1, by have := (h.2.2 v hv).2; omega⟩⟩
theorem mk_neg (n : Nat) : ¬ ((1 : Int) + n < 0) := by omega
theorem and255 (n : Int) : Go.bits .and .i64 n 255 = n % 256 := by
  have h255 : (BitVec.ofInt 64 255).toNat = 2 ^ 8 - 1 := by decide
  have key : (BitVec.ofInt 64 n &&& BitVec.ofInt 64 255).toNat = (n % ((2 ^ 64 : Nat) : Int)).toNat % 2 ^ 8 := by
    rw [BitVec.toNat_and, BitVec.toNat_ofInt, h255, Nat.and_two_pow_sub_one_eq_mod]
  show IntKind.i64.wrap ((BitVec.ofInt 64 n &&& BitVec.ofInt 64 255).toNat : Nat) = n % 256
  rw [key, IntKind.wrap_i64]
  omega
theorem newl_c (xs : List Int) (d : Nat) : ∀ (k : Nat) (h i : Int), 0 ≤ i → i ≤ 4000 → 4000 - i = d → d < k → ∃ h', spec_l01New.l0 k xs h i = some (xs, 0, h') := by
  induction d with
  | zero =>
    intro k h i h0 h1 hd hk
    obtain ⟨k, rfl⟩ : ∃ m, k = m + 1 := ⟨k - 1, by omega⟩
    simp only [spec_l01New.l0]
    have : ¬ i < 4000 := by omega
    simp only [if_neg this]
    split <;> exact ⟨_, rfl⟩
  | succ d ih =>
    intro k h i h0 h1 hd hk
    obtain ⟨k, rfl⟩ : ∃ m, k = m + 1 := ⟨k - 1, by omega⟩
    rw [spec_l01New.l0]
    by_cases hlt : i < (xs.length : Int)
    · rw [if_pos hlt, if_pos (by omega), if_pos h0, w64 (x := i + 1) (by omega) (by omega)]
      exact ih k _ (i + 1) (by omega) (by omega) (by omega) (by omega)
    · rw [if_neg hlt]; exact ⟨_, rfl⟩
theorem new_c (xs : List Int) (k : Nat) (hk : 4001 ≤ k) : ∃ h, spec_l01New.f k xs = some (xs, 0, h) :=
  newl_c xs 4000 k _ 0 (by omega) (by omega) (by omega) (by omega)
theorem empty_s {W H : Int} (h : Sz W H) : spec_l1Empty.f W H = some (W, H, List.replicate (W * H).toNat 0) := by
  have := h.area
  unfold spec_l1Empty.f
  rw [w64 (by omega) (by omega), if_pos (by omega), if_pos (by omega)]
theorem byte_c (xs : List Int) (hl : xs.length ≤ 140737488351232) (i h : Int) (h0 : 0 ≤ i) (h1 : i ≤ xs.length) : ∃ r i' h', spec_l01Byte.f xs i h = some (r, i', h') ∧ 0 ≤ r ∧ r ≤ 255 ∧ 0 ≤ i' ∧ i' ≤ xs.length := by
  unfold spec_l01Byte.f
  simp only [and255]
  by_cases hlt : i < (xs.length : Int)
  · rw [if_pos hlt, if_pos h0, w64 (x := i + 1) (by omega) (by omega)]
    exact ⟨_, _, _, rfl, Int.emod_nonneg _ (by omega), by have := Int.emod_lt_of_pos (wrap64 ((wrap64 ((Go.bits .xor .i64 ((wrap64 ((wrap64 (h * 6364136223846793005)) + 1442695040888963407)) / 8589934592) ((wrap64 ((wrap64 (h * 6364136223846793005)) + 1442695040888963407)) / 35184372088832)) % 256)) + wrap64 (rd xs i))) (show (0 : Int) < 256 by omega); omega, by omega, by omega⟩
  · rw [if_neg hlt]
    exact ⟨_, _, _, rfl, Int.emod_nonneg _ (by omega), by have := Int.emod_lt_of_pos (Go.bits .xor .i64 ((wrap64 ((wrap64 (h * 6364136223846793005)) + 1442695040888963407)) / 8589934592) ((wrap64 ((wrap64 (h * 6364136223846793005)) + 1442695040888963407)) / 35184372088832)) (show (0 : Int) < 256 by omega); omega, h0, h1⟩
theorem below_c (xs : List Int) (hl : xs.length ≤ 140737488351232) (i h n : Int) (h0 : 0 ≤ i) (h1 : i ≤ xs.length) (hn : 1 ≤ n) (hn2 : n ≤ 256) : ∃ r i' h', spec_l01Below.f xs i h n = some (r, i', h') ∧ 0 ≤ r ∧ r < n ∧ 0 ≤ i' ∧ i' ≤ xs.length := by
  unfold spec_l01Below.f
  rw [if_neg (by omega), if_pos hn2]
  obtain ⟨r, i', h', e, r0, r1, i0, i1⟩ := byte_c xs hl i h h0 h1
  rw [e]; simp only [Option.bind_some]
  rw [if_neg (by omega)]
  have := Int.emod_nonneg r (show n ≠ 0 by omega); have := Int.emod_lt_of_pos r (show 0 < n by omega)
  refine ⟨_, _, _, rfl, ?_, ?_, i0, i1⟩ <;> rw [tmod_pos r0] <;> omega
theorem once_c (xs : List Int) (hl : xs.length ≤ 140737488351232) (i h n : Int) (h0 : 0 ≤ i) (h1 : i ≤ xs.length) (hn : 1 ≤ n) (hn2 : n ≤ 256) : ∃ b i' h', spec_l01Once.f xs i h n = some (b, i', h') ∧ 0 ≤ i' ∧ i' ≤ xs.length := by
  obtain ⟨r, i', h', e, r0, r1, i0, i1⟩ := below_c xs hl i h n h0 h1 hn hn2
  unfold spec_l01Once.f
  rw [e]; exact ⟨_, _, _, rfl, i0, i1⟩
theorem mkl_c (xs : List Int) (hl : xs.length ≤ 140737488351232) {W H : Int} (hs : Sz W H) (q : Int) (q0 : 0 ≤ q) (q1 : q ≤ 3) (d : Nat) : ∀ (k : Nat) (j i h : Int) (M : List Int), 0 ≤ i → i ≤ xs.length → 0 ≤ j → Up W H M 1 → W * H - j = d → d < k →
    ∃ l, spec_MakePlate.l0 k q (W * H) j xs i h W H M = some (W, H, l) ∧ Up W H l 1 := by
  have ha := hs.area
  induction d with
  | zero =>
    intro k j i h M i0 i1 j0 hu hd hk
    obtain ⟨k, rfl⟩ : ∃ m, k = m + 1 := ⟨k - 1, by omega⟩
    rw [spec_MakePlate.l0, if_neg (by omega)]; exact ⟨M, rfl, hu⟩
  | succ d ih =>
    intro k j i h M i0 i1 j0 hu hd hk
    obtain ⟨k, rfl⟩ : ∃ m, k = m + 1 := ⟨k - 1, by omega⟩
    have hln := hu.2.1
    have fin : ∀ r i' h' : Int, 0 ≤ r → r < 2 → 0 ≤ i' → i' ≤ xs.length → ∃ l, (if 0 ≤ j then (if j < (M.length : Int) then spec_MakePlate.l0 k q (W * H) (wrap64 (j + 1)) xs i' h' W H (M.set j.toNat r) else none) else none) = some (W, H, l) ∧ Up W H l 1 := by
      intro r i' h' r0 r1 a0 a1
      rw [if_pos j0, if_pos (by omega), w64 (by omega) (by omega)]
      exact ih k (j + 1) i' h' _ a0 a1 (by omega) (hu.set ⟨r0, by omega⟩) (by omega) (by omega)
    have stay : ∀ i' h' : Int, 0 ≤ i' → i' ≤ xs.length → ∃ l, spec_MakePlate.l0 k q (W * H) (wrap64 (j + 1)) xs i' h' W H M = some (W, H, l) ∧ Up W H l 1 := by
      intro i' h' a0 a1
      rw [w64 (by omega) (by omega)]
      exact ih k (j + 1) i' h' _ a0 a1 (by omega) hu (by omega) (by omega)
    rw [spec_MakePlate.l0, if_pos (by omega)]
    by_cases q2 : 1 < q
    · rw [if_neg (by omega), if_neg (by omega), if_pos (by omega)]
      obtain ⟨r, i', h', e, r0, r1, a0, a1⟩ := below_c xs hl i h 2 i0 i1 (by omega) (by omega)
      rw [e]; exact fin r i' h' r0 r1 a0 a1
    · obtain ⟨b, i', h', e, a0, a1⟩ := once_c xs hl i h 4 i0 i1 (by omega) (by omega)
      obtain ⟨r, i2, h2, e2, r0, r1, c0, c1⟩ := below_c xs hl i' h' 2 a0 a1 (by omega) (by omega)
      by_cases q3 : q = 0
      · rw [if_pos q3, e, Option.bind_some]
        simp only
        by_cases hb : b = true
        · rw [if_pos hb, e2]; exact fin r i2 h2 r0 r1 c0 c1
        · rw [if_neg hb, if_neg (by omega), if_neg (by omega)]; exact stay i' h' a0 a1
      · rw [if_neg q3, if_pos (by omega), e, Option.bind_some]
        simp only
        by_cases hb : b = true
        · rw [if_pos hb, if_neg (by omega)]; exact stay i' h' a0 a1
        · rw [if_neg hb, e2]; exact fin r i2 h2 r0 r1 c0 c1
theorem plate_c (xs : List Int) (hl : xs.length ≤ 140737488351232) (m : Int) (hm : 1 ≤ m) (hm2 : m ≤ 12) {k : Nat} (hk : 5000 ≤ k) : ∃ W H l, spec_MakePlate.f k xs m = some (W, H, l) ∧ W ≤ m ∧ H ≤ m ∧ Up W H l 1 := by
  obtain ⟨h, e⟩ := new_c xs k (by omega)
  have hx : mx 1 (mn m 12) = m := by unfold mx mn; repeat' split
                                     all_goals omega
  unfold spec_MakePlate.f
  rw [e, hx]; simp only [Option.bind_some]
  obtain ⟨a, i1, h1, e1, a0, a1, p0, p1⟩ := below_c xs hl 0 h m (by omega) (by omega) hm (by omega)
  rw [e1]; simp only [Option.bind_some]
  obtain ⟨b, i2, h2, e2, b0, b1, p2, p3⟩ := below_c xs hl i1 h1 m p0 p1 hm (by omega)
  rw [e2]; simp only [Option.bind_some]
  have hs : Sz (1 + a) (1 + b) := ⟨by omega, by omega, by omega, by omega, by have := mul_bd (c := 12) (d := 12) (show 0 ≤ 1 + a by omega) (by omega) (show 0 ≤ 1 + b by omega) (by omega); omega⟩
  have ha := hs.area
  obtain ⟨q, i3, h3, e3, q0, q1, p4, p5⟩ := below_c xs hl i2 h2 4 p2 p3 (by omega) (by omega)
  rw [w64 (x := 1 + a) (by omega) (by omega), w64 (x := 1 + b) (by omega) (by omega), empty_s hs, Option.bind_some, e3]; simp only [Option.bind_some]
  have hu : Up (1 + a) (1 + b) (List.replicate ((1 + a) * (1 + b)).toNat 0) 1 := ⟨hs, by rw [List.length_replicate]; omega, fun v hv => by rw [(List.mem_replicate.mp hv).2]; exact ⟨by omega, by omega⟩⟩
  have hl2 := hu.2.1
  rw [hl2]
  obtain ⟨l, hl3, hu3⟩ := mkl_c xs hl hs q q0 (by omega) ((1 + a) * (1 + b)).toNat k 0 i3 h3 _ p4 p5 (by omega) hu (by omega) (by omega)
  exact ⟨1 + a, 1 + b, l, hl3, by omega, by omega, hu3⟩
theorem totl_c (l : List Int) (hl : l.length ≤ 1048576) {m : Int} (hA : All m l) (hm : m ≤ 1048576) (d : Nat) : ∀ (k : Nat) (s j : Int), 0 ≤ j → j ≤ l.length → (l.length : Int) - j = d → 0 ≤ s → s ≤ j * m → d < k → laws_total.l0 k s l l.length j = some (s + tot (l.drop j.toNat)) := by
  induction d with
  | zero =>
    intro k s j j0 j1 hd s0 s1 hk
    obtain ⟨k, rfl⟩ : ∃ m, k = m + 1 := ⟨k - 1, by omega⟩
    rw [laws_total.l0, if_neg (by omega), drop_end l (by omega)]; simp [tot]
  | succ d ih =>
    intro k s j j0 j1 hd s0 s1 hk
    obtain ⟨k, rfl⟩ : ∃ m, k = m + 1 := ⟨k - 1, by omega⟩
    have hv : 0 ≤ at_ l j ∧ at_ l j ≤ m := hA _ (at_mem j0 (by omega))
    have hb := mul_bd (c := 1048576) (d := 1048576) j0 (by omega) (show 0 ≤ m by omega) hm
    have e : (j + 1) * m = j * m + m := by rw [Int.add_mul, Int.one_mul]
    rw [laws_total.l0, if_pos (by omega), if_pos j0, if_pos (by omega), rd_at, w64 (x := s + _) (by omega) (by omega), w64 (x := j + 1) (by omega) (by omega), ih k _ (j + 1) (by omega) (by omega) (by omega) (by omega) (by omega) (by omega), drop_at l j0 (by omega), tot, Int.add_assoc]
theorem tot_c {l : List Int} (hl : l.length ≤ 1048576) {m : Int} (hA : All m l) (hm : m ≤ 1048576) {k : Nat} (hk : 1100000 ≤ k) : laws_total.f k l = some (tot l) := by
  unfold laws_total.f
  rw [totl_c l hl hA hm l.length k 0 0 (by omega) (by omega) (by omega) (by omega) (by omega) (by omega), Int.zero_add]; rfl
theorem ints_l (l : List Int) (hl : l.length ≤ 1048576) (d : Nat) : ∀ (k : Nat) (j : Int), 0 ≤ j → j ≤ l.length → (l.length : Int) - j = d → d < k → laws_ints.l0 k l l l.length j = some true := by
  induction d with
  | zero =>
    intro k j j0 j1 hd hk
    obtain ⟨k, rfl⟩ : ∃ m, k = m + 1 := ⟨k - 1, by omega⟩
    rw [laws_ints.l0, if_neg (by omega)]
  | succ d ih =>
    intro k j j0 j1 hd hk
    obtain ⟨k, rfl⟩ : ∃ m, k = m + 1 := ⟨k - 1, by omega⟩
    rw [laws_ints.l0, if_pos (by omega), if_pos j0, if_pos (by omega), if_pos (by omega), if_pos rfl, w64 (by omega) (by omega)]
    exact ih k (j + 1) (by omega) (by omega) (by omega) (by omega)
theorem ints_c (l : List Int) (hl : l.length ≤ 1048576) {k : Nat} (hk : 1100000 ≤ k) : laws_ints.f k l l = some true := by
  unfold laws_ints.f; rw [if_pos rfl, ints_l l hl l.length k 0 (by omega) (by omega) (by omega) (by omega)]
theorem same_c (a b : Int) (l : List Int) (hl : l.length ≤ 1048576) {k : Nat} (hk : 1100000 ≤ k) : laws_same.f k a b l a b l = some true := by
  unfold laws_same.f; rw [if_pos rfl, if_pos rfl, ints_c l hl hk]; rfl
theorem within_i {l : List Int} (hl : l.length ≤ 1048576) (m : Int) : impl_within.f l m = some (decide (All m l)) := by
  unfold impl_within.f
  rw [if_pos (by omega)]; simp only [Option.some.injEq]
  rw [Bool.eq_iff_iff, List.all_eq_true, decide_eq_true_iff]
  exact ⟨fun h v hv => of_decide_eq_true (h v hv), fun h v hv => decide_eq_true (h v hv)⟩
theorem size_i (W H : Int) : impl_sized.f W H = some (decide (Sz W H)) := by
  unfold impl_sized.f
  by_cases h : 1 ≤ W ∧ W ≤ 64 ∧ 1 ≤ H ∧ H ≤ 64
  · have := mul_bd (c := 64) (d := 64) (show 0 ≤ W by omega) h.2.1 (show 0 ≤ H by omega) h.2.2.2
    rw [if_pos (by omega), if_pos (by omega), if_pos (by omega), if_pos (by omega), w64 (by omega) (by omega)]
    exact dec_dd (by unfold Sz; omega)
  · repeat' split
    all_goals first | exact dec_ff (by unfold Sz; omega) | (exfalso; omega)
theorem pict_i {W H : Int} {l : List Int} (hl : l.length ≤ 1048576) : impl_IsPicture.f W H l = some (decide (Up W H l 255)) := by
  unfold impl_IsPicture.f
  rw [size_i, Option.bind_some]
  by_cases h : Sz W H
  · have := h.area
    rw [if_pos (decide_eq_true h), w64 (by omega) (by omega), within_i hl]
    by_cases e : (l.length : Int) = W * H
    · rw [if_pos e]; exact dec_dd ⟨fun x => ⟨h, e, x⟩, fun x => x.2.2⟩
    · rw [if_neg e]; exact dec_ff (fun x => e x.2.1)
  · rw [if_neg (by rw [decide_eq_true_iff]; exact h)]; exact dec_ff (fun x => h x.1)
theorem plate_i {W H : Int} {l : List Int} (hl : l.length ≤ 1048576) : impl_IsPlate.f W H l = some (decide (Up W H l 1)) := by
  unfold impl_IsPlate.f
  rw [pict_i hl, Option.bind_some, within_i hl]
  by_cases h : Up W H l 255
  · rw [if_pos (decide_eq_true h)]; exact dec_dd ⟨fun x => ⟨h.1, h.2.1, x⟩, fun x => x.2.2⟩
  · rw [if_neg (by rw [decide_eq_true_iff]; exact h)]; exact dec_ff (fun x => h ⟨x.1, x.2.1, fun v hv => ⟨(x.2.2 v hv).1, by have := (x.2.2 v hv).2; omega⟩⟩)
theorem field_i {W H : Int} {l : List Int} (hl : l.length ≤ 1048576) : impl_IsField.f W H l = some (decide (Fld W H l)) := by
  unfold impl_IsField.f; rw [plate_i hl, Option.bind_some]
  by_cases h : Up W H l 1
  · rw [if_pos (decide_eq_true h)]; exact dec_dd ⟨fun x => ⟨h, x⟩, fun x => x.2⟩
  · rw [if_neg (by rw [decide_eq_true_iff]; exact h)]; exact dec_ff (fun x => h x.1)
theorem mod_i {x n : Int} (h0 : 0 < n) (h1 : n ≤ 9223372036854775807) : impl_mod.f x n = some (x % n) := by
  unfold impl_mod.f
  rw [if_neg (by omega)]
  have h2 := Int.emod_nonneg x (show n ≠ 0 by omega)
  have h3 := Int.emod_lt_of_pos x h0
  have e := Int.tmod_eq_emod (a := x) (b := n)
  by_cases hc : 0 ≤ x ∨ n ∣ x
  · rw [if_pos hc] at e
    rw [e, if_neg (by omega)]; simp
  · rw [if_neg hc] at e
    rw [e, if_pos (by omega), w64 (by omega) (by omega)]; simp only [Option.some.injEq]; omega
theorem far_i {W H i k : Int} (h : Sz W H) (l : List Int) (i0 : 0 ≤ i) (i1 : i ≤ 100000) (k0 : 0 ≤ k) (k1 : k ≤ 100000) : impl_farness.f W H l i k = some (far W H i k) := by
  unfold impl_farness.f
  have hW := h.1; have hW2 := h.2.1; have hH := h.2.2.1; have hH2 := h.2.2.2.1
  have a1 := Int.emod_nonneg i (show W ≠ 0 by omega); have a2 := Int.emod_lt_of_pos i (show 0 < W by omega)
  have b1 := Int.emod_nonneg k (show W ≠ 0 by omega); have b2 := Int.emod_lt_of_pos k (show 0 < W by omega)
  have c1 := Int.ediv_nonneg i0 (show 0 ≤ W by omega); have c2 := Int.ediv_le_self W i0
  have d1 := Int.ediv_nonneg k0 (show 0 ≤ W by omega); have d2 := Int.ediv_le_self W k0
  have p := rnd_bd (d := i % W - k % W) hW; have q := rnd_bd (d := i / W - k / W) hH
  have hp := mul_bd (c := 64) (d := 64) p.1 (by omega) p.1 (by omega)
  have hq := mul_bd (c := 64) (d := 64) q.1 (by omega) q.1 (by omega)
  have e1 := Int.emod_nonneg (i % W - k % W) (show W ≠ 0 by omega); have e2 := Int.emod_lt_of_pos (i % W - k % W) (show 0 < W by omega)
  have f1 := Int.emod_nonneg (i / W - k / W) (show H ≠ 0 by omega); have f2 := Int.emod_lt_of_pos (i / W - k / W) (show 0 < H by omega)
  rw [if_neg (by omega), tmod_pos i0, tmod_pos k0, tdiv_pos i0, tdiv_pos k0, w64 (x := i / W) (by omega) (by omega), w64 (x := k / W) (by omega) (by omega), w64 (x := i % W - k % W) (by omega) (by omega), w64 (x := i / W - k / W) (by omega) (by omega), mod_i (by omega) (by omega), Option.bind_some, mod_i (by omega) (by omega), Option.bind_some]
  rw [w64 (x := W - _) (by omega) (by omega), w64 (x := H - _) (by omega) (by omega), mn_eq, mn_eq]
  change some (wrap64 (wrap64 (rnd (i % W - k % W) W * rnd (i % W - k % W) W) + wrap64 (rnd (i / W - k / W) H * rnd (i / W - k / W) H))) = _
  rw [w64 (x := rnd (i % W - k % W) W * _) (by omega) (by omega), w64 (x := rnd (i / W - k / W) H * _) (by omega) (by omega), w64 (by omega) (by omega)]; rfl
theorem weight_i {W H i k : Int} (h : Sz W H) (l : List Int) (i0 : 0 ≤ i) (i1 : i ≤ 100000) (k0 : 0 ≤ k) (k1 : k ≤ 100000) : impl_pair.f W H l i k = some (weight W H i k) := by
  unfold impl_pair.f
  have hb := far_bd h i k; have hw := weight_bd h i k
  rw [far_i h l i0 i1 k0 k1, Option.bind_some, w64 (by omega) (by omega), if_neg (by omega), tdiv_pos (by omega)]
  have e : 4096 / (1 + far W H i k) = weight W H i k := rfl
  rw [e, w64 (by omega) (by omega)]
theorem crowdl_i {W H : Int} {l : List Int} (h : Fld W H l) {i : Int} (i0 : 0 ≤ i) (i1 : i ≤ 100000) (d : Nat) : ∀ (k : Nat) (s j : Int), 0 ≤ j → j ≤ l.length → 0 ≤ s → s ≤ 4096 * j → (l.length : Int) - j = d → d < k →
    impl_crowd.l0 k i s l l.length j W H l = some (s + crowdL W H i (l.drop j.toNat) j) := by
  have hl := h.len
  induction d with
  | zero =>
    intro k s j j0 j1 s0 s1 hd hk
    obtain ⟨k, rfl⟩ : ∃ m, k = m + 1 := ⟨k - 1, by omega⟩
    rw [impl_crowd.l0, if_neg (by omega), drop_end l (by omega)]; simp [crowdL]
  | succ d ih =>
    intro k s j j0 j1 s0 s1 hd hk
    obtain ⟨k, rfl⟩ : ∃ m, k = m + 1 := ⟨k - 1, by omega⟩
    have hw := weight_bd h.1.1 i j
    rw [impl_crowd.l0, if_pos (by omega), if_pos j0, if_pos (by omega), drop_at l j0 (by omega), weight_i h.1.1 l i0 i1 j0 (by omega), Option.bind_some, w64 (x := s + _) (by omega) (by omega), w64 (x := j + 1) (by omega) (by omega), ih k _ (j + 1) (by omega) (by omega) (by omega) (by omega) (by omega) (by omega), ih k _ (j + 1) (by omega) (by omega) (by omega) (by omega) (by omega) (by omega), rd_at, crowdL]
    split <;> (simp only [Option.some.injEq]; omega)
theorem crowd_i {W H : Int} {l : List Int} (h : Fld W H l) {i : Int} (i0 : 0 ≤ i) (i1 : i ≤ 100000) {k : Nat} (hk : 300 ≤ k) : impl_crowd.f k W H l i = some (crowd W H l i) := by
  have hl := h.len
  unfold impl_crowd.f
  rw [crowdl_i h i0 i1 l.length k 0 0 (by omega) (by omega) (by omega) (by omega) (by omega) (by omega), Int.zero_add]; rfl
theorem tight_l {W H : Int} {l : List Int} (h : Fld W H l) (d : Nat) : ∀ (k : Nat) (best most j : Int), 0 ≤ j → j ≤ l.length → (l.length : Int) - j = d → d + 300 < k →
    impl_TightestDot.l0 k best most l l.length j W H l = some (bestL (fun j => 1 * crowd W H l j) 1 (l.drop j.toNat) j best most) := by
  have hl := h.len
  induction d with
  | zero =>
    intro k best most j j0 j1 hd hk
    obtain ⟨k, rfl⟩ : ∃ m, k = m + 1 := ⟨k - 1, by omega⟩
    rw [impl_TightestDot.l0, if_neg (by omega), drop_end l (by omega)]; rfl
  | succ d ih =>
    intro k best most j j0 j1 hd hk
    obtain ⟨k, rfl⟩ : ∃ m, k = m + 1 := ⟨k - 1, by omega⟩
    rw [impl_TightestDot.l0, if_pos (by omega), if_pos j0, if_pos (by omega), drop_at l j0 (by omega), crowd_i h j0 (by omega) (by omega), Option.bind_some, w64 (x := j + 1) (by omega) (by omega), ih k _ _ (j + 1) (by omega) (by omega) (by omega) (by omega), ih k _ _ (j + 1) (by omega) (by omega) (by omega) (by omega), rd_at, bestL]
    simp only [Int.one_mul]
    by_cases e : at_ l j = 1
    · rw [if_pos e, if_pos e]
      by_cases e2 : best < 0
      · rw [if_pos e2, if_pos (.inl e2)]
      · rw [if_neg e2]
        by_cases e3 : crowd W H l j > most
        · rw [if_pos e3, if_pos (.inr e3)]
        · rw [if_neg e3, if_neg (by omega)]
    · rw [if_neg e, if_neg e]
theorem tight_i {W H : Int} {l : List Int} (hl : l.length ≤ 1048576) {k : Nat} (hk : 1100000 ≤ k) : impl_TightestDot.f k W H l = some (if Fld W H l then ptight W H l else -1) := by
  unfold impl_TightestDot.f
  rw [field_i hl]; simp only [Option.bind_some]
  by_cases h : Fld W H l
  · have := h.len
    rw [if_pos (decide_eq_true h), if_pos h, tight_l h l.length k (-1) 0 0 (by omega) (by omega) (by omega) (by omega)]; rfl
  · rw [if_neg (by rw [decide_eq_true_iff]; exact h), if_neg h]
theorem void_l {W H : Int} {l : List Int} (h : Fld W H l) (d : Nat) : ∀ (k : Nat) (best most j : Int), 0 ≤ j → j ≤ l.length → (l.length : Int) - j = d → d + 300 < k →
    impl_WidestVoid.l0 k best most l l.length j W H l = some (bestL (fun j => -1 * crowd W H l j) 0 (l.drop j.toNat) j best (-1 * most)) := by
  have hl := h.len
  induction d with
  | zero =>
    intro k best most j j0 j1 hd hk
    obtain ⟨k, rfl⟩ : ∃ m, k = m + 1 := ⟨k - 1, by omega⟩
    rw [impl_WidestVoid.l0, if_neg (by omega), drop_end l (by omega)]; rfl
  | succ d ih =>
    intro k best most j j0 j1 hd hk
    obtain ⟨k, rfl⟩ : ∃ m, k = m + 1 := ⟨k - 1, by omega⟩
    rw [impl_WidestVoid.l0, if_pos (by omega), if_pos j0, if_pos (by omega), drop_at l j0 (by omega), crowd_i h j0 (by omega) (by omega), Option.bind_some, w64 (x := j + 1) (by omega) (by omega), ih k _ _ (j + 1) (by omega) (by omega) (by omega) (by omega), ih k _ _ (j + 1) (by omega) (by omega) (by omega) (by omega), rd_at, bestL]
    by_cases e : at_ l j = 0
    · rw [if_pos e, if_pos e]
      by_cases e2 : best < 0
      · rw [if_pos e2, if_pos (.inl e2)]
      · rw [if_neg e2]
        by_cases e3 : crowd W H l j < most
        · rw [if_pos e3, if_pos (.inr (by omega))]
        · rw [if_neg e3, if_neg (by omega)]
    · rw [if_neg e, if_neg e]
theorem void_i {W H : Int} {l : List Int} (hl : l.length ≤ 1048576) {k : Nat} (hk : 1100000 ≤ k) : impl_WidestVoid.f k W H l = some (if Fld W H l then pvoid W H l else -1) := by
  unfold impl_WidestVoid.f
  rw [field_i hl]; simp only [Option.bind_some]
  by_cases h : Fld W H l
  · have := h.len
    rw [if_pos (decide_eq_true h), if_pos h, void_l h l.length k (-1) 0 0 (by omega) (by omega) (by omega) (by omega)]; rfl
  · rw [if_neg (by rw [decide_eq_true_iff]; exact h), if_neg h]
theorem suml_i {l : List Int} (hl : l.length ≤ 1048576) (hA : All 1 l) (d : Nat) : ∀ (k : Nat) (s j : Int), 0 ≤ j → j ≤ l.length → 0 ≤ s → s ≤ j → (l.length : Int) - j = d → d < k → impl_SumInk.l0 k s l l.length j = some (s + cnt 1 (l.drop j.toNat)) := by
  induction d with
  | zero =>
    intro k s j j0 j1 s0 s1 hd hk
    obtain ⟨k, rfl⟩ : ∃ m, k = m + 1 := ⟨k - 1, by omega⟩
    rw [impl_SumInk.l0, if_neg (by omega), drop_end l (by omega)]; simp [cnt]
  | succ d ih =>
    intro k s j j0 j1 s0 s1 hd hk
    obtain ⟨k, rfl⟩ : ∃ m, k = m + 1 := ⟨k - 1, by omega⟩
    have ha : 0 ≤ at_ l j ∧ at_ l j ≤ 1 := hA _ (at_mem j0 (by omega))
    rw [impl_SumInk.l0, if_pos (by omega), if_pos j0, if_pos (by omega), drop_at l j0 (by omega), rd_at, w64 (x := s + _) (by omega) (by omega), w64 (x := j + 1) (by omega) (by omega), ih k _ (j + 1) (by omega) (by omega) (by omega) (by omega) (by omega) (by omega), cnt]
    split <;> (simp only [Option.some.injEq]; omega)
theorem sum_i {W H : Int} {l : List Int} (h : Up W H l 1) {k : Nat} (hk : 1100000 ≤ k) : impl_SumInk.f k W H l = some ((cnt 1 l : Nat) : Int) := by
  have := h.1.area; have := h.2.1
  unfold impl_SumInk.f
  rw [pict_i (by omega), Option.bind_some, if_pos (decide_eq_true ⟨h.1, h.2.1, fun v hv => ⟨(h.2.2 v hv).1, by have := (h.2.2 v hv).2; omega⟩⟩), suml_i (by omega) h.2.2 l.length k 0 0 (by omega) (by omega) (by omega) (by omega) (by omega) (by omega), Int.zero_add]; rfl
-- nothing on slices_Clone_int_int
theorem copied_i (W H : Int) {l : List Int} (hl : l.length ≤ 1048576) : impl_copied.f W H l = some (W, H, l) := by
  unfold impl_copied.f slices_Clone_int_int.f; rw [if_pos (by omega), Option.bind_some]
theorem rankb_i {W H : Int} {l : List Int} (hl : Fld W H l) (d : Nat) : ∀ (k : Nat) (n : Int) (F M : List Int), Fld W H F → 0 ≤ n → cnt 0 F = d → (l.length : Int) - n = d → M.length = l.length → d + 1100000 < k →
    impl_RankField.l1 k n W H l W H M W H F = some (W, H, rankB W H d n F M, true) := by
  have hll := hl.len
  induction d with
  | zero =>
    intro k n F M h n0 hc hd hM hk
    obtain ⟨k, rfl⟩ : ∃ m, k = m + 1 := ⟨k - 1, by omega⟩
    rw [impl_RankField.l1, if_neg (by omega)]; rfl
  | succ d ih =>
    intro k n F M h n0 hc hd hM hk
    obtain ⟨k, rfl⟩ : ∃ m, k = m + 1 := ⟨k - 1, by omega⟩
    have hF := h.len
    have h0 := void_has (W := W) (H := H) (cnt_pos (v := 0) (l := F) (by omega))
    have h1 := (void_in W H F).resolve_left (by omega)
    have h2 := cnt_at (u := 1) h1.1 h1.2.1 h1.2.2 (by omega)
    rw [impl_RankField.l1, if_pos (by omega), void_i (by omega) (by omega), Option.bind_some, if_pos h, if_pos h1.1, if_pos h1.2.1, if_pos (by omega), w64 (by omega) (by omega)]
    exact ih k (n + 1) _ _ (h.set ⟨by omega, by omega⟩) (by omega) (by omega) (by omega) (by rw [List.length_set]; exact hM) (by omega)
theorem ranka_i {W H : Int} {l : List Int} (hl : Fld W H l) (c : Int) (hcc : c = cnt 1 l) (d : Nat) : ∀ (k : Nat) (x : Int) (F M : List Int), Fld W H F → x + 1 = d → cnt 1 F = d → M.length = l.length → d + 1200000 < k →
    impl_RankField.l0 k c x W H l W H M W H F = some (W, H, rankB W H (cnt 0 l) (cnt 1 l) l (rankA W H d F M), true) := by
  have hll := hl.len
  have hcn := cnt_two hl.1.2.2
  induction d with
  | zero =>
    intro k x F M h hx hc hM hk
    obtain ⟨k, rfl⟩ : ∃ m, k = m + 1 := ⟨k - 1, by omega⟩
    rw [impl_RankField.l0, if_neg (by omega), copied_i W H (by omega), Option.bind_some]
    subst hcc
    exact rankb_i hl (cnt 0 l) k (cnt 1 l) l M hl (by omega) rfl (by omega) hM (by omega)
  | succ d ih =>
    intro k x F M h hx hc hM hk
    obtain ⟨k, rfl⟩ : ∃ m, k = m + 1 := ⟨k - 1, by omega⟩
    have hF := h.len
    have hcf := cnt_le 1 F
    have h0 := tight_has (W := W) (H := H) (cnt_pos (v := 1) (l := F) (by omega))
    have h1 := (tight_in W H F).resolve_left (by omega)
    have h2 := cnt_at (u := 0) h1.1 h1.2.1 h1.2.2 (by omega)
    rw [impl_RankField.l0, if_pos (by omega), tight_i (by omega) (by omega), Option.bind_some, if_pos h, if_pos h1.1, if_pos h1.2.1, if_pos (by omega), w64 (by omega) (by omega), ih k (x - 1) _ _ (h.set ⟨by omega, by omega⟩) (by omega) (by omega) (by rw [List.length_set]; exact hM) (by omega)]
    rw [rankA, show x = (d : Int) by omega]
theorem rank_i {W H : Int} {l : List Int} (hl : l.length ≤ 1048576) {k : Nat} (hk : 1300000 < k) : impl_RankField.f k W H l = some (prank W H l) := by
  unfold impl_RankField.f prank
  rw [field_i hl, Option.bind_some]
  by_cases h : Fld W H l
  · have := h.len
    have hc := cnt_le 1 l
    rw [if_pos (decide_eq_true h), if_pos (by omega), if_pos (by omega), sum_i h.1 (by omega), Option.bind_some, copied_i W H hl, Option.bind_some, w64 (by omega) (by omega), if_pos h]
    exact ranka_i h _ rfl (cnt 1 l) k _ l _ h (by omega) rfl (by simp) (by omega)
  · rw [if_neg (by rw [decide_eq_true_iff]; exact h), if_neg h]
-- nothing on impl_celled
theorem seen_set {S : List Bool} {seen : List Int} (hS : ∀ i : Int, 0 ≤ i → i < S.length → (rdOf false S i = true ↔ i ∈ seen)) {v : Int} (h0 : 0 ≤ v) (h1 : v < S.length) : ∀ i : Int, 0 ≤ i → i < (S.set v.toNat true).length → (rdOf false (S.set v.toNat true) i = true ↔ i ∈ v :: seen) := by
  intro i i0 i1
  rw [List.length_set] at i1
  have := hS i i0 i1
  unfold rdOf at this ⊢
  rw [List.getD_eq_getElem?_getD, List.getElem?_set]
  by_cases e : v.toNat = i.toNat
  · rw [if_pos e, if_pos (by omega)]
    have : i = v := by omega
    simp [this]
  · rw [if_neg e, ← List.getD_eq_getElem?_getD, this, List.mem_cons]
    constructor
    · exact fun h => .inr h
    · intro h; rcases h with h | h
      · omega
      · exact h
theorem nwB_eq (n : Int) : ∀ (l seen : List Int), Ext.nwB n l seen = decide (newL n l seen) := by
  intro l
  induction l with
  | nil => intro seen; rw [Ext.nwB, decide_eq_true (show newL n [] seen from trivial)]
  | cons v l ih =>
    intro seen
    rw [Ext.nwB, ih]
    by_cases h : (0 ≤ v ∧ v < n) ∧ v ∉ seen
    · rw [if_pos h]; exact decide_eq_decide.mpr ⟨fun z => ⟨h.1, h.2, z⟩, fun z => z.2.2⟩
    · rw [if_neg h, decide_eq_false (fun z => h ⟨z.1, z.2.1⟩)]
theorem mtx_i {W H : Int} {l : List Int} (hl : l.length ≤ 1048576) : impl_IsMatrix.f W H l = some (decide (Mtx W H l)) := by
  unfold impl_IsMatrix.f
  rw [if_pos (by omega)]
  simp only [Option.some.injEq]
  unfold Ext.mtxB
  have e : Ext.celB W H = true ↔ Cel W H := by unfold Ext.celB Cel; exact decide_eq_true_iff
  by_cases h : Ext.celB W H = true ∧ (l.length : Int) = W * H
  · rw [if_pos h, nwB_eq]; exact decide_eq_decide.mpr ⟨fun z => ⟨e.mp h.1, h.2, z⟩, fun z => z.2.2⟩
  · rw [if_neg h, decide_eq_false (fun z => h ⟨e.mpr z.1, z.2.1⟩)]
theorem mtx_el {n : Int} {L : List Int} : ∀ {l seen : List Int}, newL n l seen → ∀ v ∈ l, 0 ≤ v ∧ v < n := by
  intro l
  induction l with
  | nil => intro seen _ v hv; simp at hv
  | cons x l ih =>
    intro seen h v hv
    rcases List.mem_cons.mp hv with e | e
    · subst e; exact h.1
    · exact ih h.2.2 v e
theorem gridO_tab {W H : Int} {AT : Int → Int → Option Int} {F : Int → Int} (hW : 1 ≤ W) (hH : 0 ≤ H) (h : ∀ x y, 0 ≤ x → x < W → 0 ≤ y → y < H → AT x y = some (F (y * W + x))) : Ext.gridO W H AT = some (tab F (W * H).toNat 0) := by
  rw [Ext.gridO_of (g := fun x y => F (y * W + x)) hW hH h]
  simp only [Option.some.injEq]
  unfold Ext.grid Ext.pref
  rw [← tab_range]
  apply List.map_congr_left
  intro i _
  show F ((i : Int) / W * W + (i : Int) % W) = _
  rw [xy_of]
theorem drawn_some {W H : Int} (hs : Sz W H) {AT : Int → Int → Option Int} {F : Int → Int} (h : ∀ x y, 0 ≤ x → x < W → 0 ≤ y → y < H → AT x y = some (F (y * W + x))) :
    (if 1 ≤ W ∧ W ≤ 1024 ∧ 0 ≤ H ∧ H ≤ 1024 ∧ W * H ≤ 1024 then (Ext.gridO W H AT).map fun l => (W, H, l) else none) = some (W, H, tab F (W * H).toNat 0) := by
  have hW := hs.1; have hW2 := hs.2.1; have hH := hs.2.2.1; have hH2 := hs.2.2.2.1; have ha := hs.area
  rw [if_pos (by omega), gridO_tab hW (by omega) h]; rfl
theorem idx_w {W H x y : Int} (hs : Sz W H) (x0 : 0 ≤ x) (x1 : x < W) (y0 : 0 ≤ y) (y1 : y < H) : wrap64 (wrap64 (y * W) + x) = y * W + x ∧ 0 ≤ y * W + x ∧ y * W + x < W * H ∧ (y * W + x) % W = x ∧ (y * W + x) / W = y := by
  have hi := xy_idx x0 x1 y0 y1
  have hW := hs.1; have hW2 := hs.2.1; have hH2 := hs.2.2.2.1; have ha := hs.area
  have q := mul_bd (c := 64) (d := 64) y0 (by omega) (show 0 ≤ W by omega) hW2
  refine ⟨by rw [w64 (x := y * W) (by omega) (by omega), w64 (by omega) (by omega)], hi.1, hi.2, ?_, ?_⟩
  · rw [Int.add_comm, Int.add_mul_emod_self_right, Int.emod_eq_of_lt x0 x1]
  · rw [Int.add_comm, Int.add_mul_ediv_right _ _ (by omega), Int.ediv_eq_zero_of_lt x0 x1, Int.zero_add]
theorem one_i (b : Bool) : impl_one.f b = some (if b = true then 1 else 0) := by unfold impl_one.f; split <;> rfl
theorem rank_at {W H : Int} {M : List Int} (h : Mtx W H M) {x y : Int} (x0 : 0 ≤ x) (x1 : x < W) (y0 : 0 ≤ y) (y1 : y < H) : impl_rank.f W H M x y = some (at_ M (y * W + x)) := by
  have hc := h.1; have hW := hc.1; have hW2 := hc.2.1; have hH := hc.2.2.1; have hH2 := hc.2.2.2.1; have ha := hc.area; have hl := h.2.1
  have hi := xy_idx x0 x1 y0 y1
  have q := mul_bd (c := 256) (d := 256) y0 (by omega) (show 0 ≤ W by omega) hW2
  unfold impl_rank.f
  rw [mod_i (by omega) (by omega), Option.bind_some, mod_i (by omega) (by omega), Option.bind_some, Int.emod_eq_of_lt x0 x1, Int.emod_eq_of_lt y0 y1, w64 (x := y * W) (by omega) (by omega), w64 (by omega) (by omega), if_pos hi.1, if_pos (by omega), rd_at]
-- nothing on impl_CellsBelow_1
-- nothing on impl_CellsBelow_1.drawn
theorem cells_i {W H : Int} {M : List Int} (h : Mtx W H M) (hs : Sz W H) {r : Int} (r0 : 0 ≤ r) (r1 : r ≤ M.length) : impl_CellsBelow.f W H M r = some (W, H, cellsB M r) := by
  have ha := h.1.area; have hl := h.2.1
  unfold impl_CellsBelow.f
  rw [mtx_i (by omega), Option.bind_some, if_pos (decide_eq_true h), if_neg (by omega), if_neg (by omega), size_i, Option.bind_some, if_pos (decide_eq_true hs)]
  unfold impl_CellsBelow_1.drawn.f
  rw [drawn_some hs (F := fun i => if at_ M i < r then 1 else 0) (fun x y x0 x1 y0 y1 => ?_)]
  · unfold cellsB
    rw [show M.length = (W * H).toNat by omega]; rfl
  · unfold impl_CellsBelow_1.f
    rw [rank_at h x0 x1 y0 y1, Option.bind_some, one_i, Option.bind_some]
    simp only [decide_eq_true_eq]
theorem ranked_cells {W H : Int} {l : List Int} (h : Fld W H l) : cellsB (rankF W H l) (tot l) = l := by
  have hr := rankF_len W H l
  conv => rhs; rw [← tab_self l]
  unfold cellsB
  rw [hr]
  apply tab_congr
  intro i i0 i1
  have hp := rank_places h i0 i1
  have hv := all_at h.1.2.2 i0 i1
  unfold In at hv
  by_cases e : at_ l i = 1
  · rw [if_pos (hp.1 e).2.1, e]
  · have := hp.2 (by omega)
    rw [if_neg (by omega)]; omega
theorem pure_FnRanked (l0 : List Int) (h0 : l0.length ≤ maxLen) (hl : l0.length * 1 ≤ 140737488351232) (hw : ∀ x ∈ l0, (Lit.int .u8 x).wf = true) : ∃ k, laws_FnRanked.f k l0 = some true := by
  obtain ⟨m, hm⟩ : ∃ m : Nat, 4000000 ≤ m := ⟨4000000, Nat.le_refl _⟩
  refine ⟨m + 8, ?_⟩
  unfold laws_FnRanked.f
  by_cases h : (l0.length : Int) > 1048576
  · rw [if_pos h]
  · rw [if_neg h]
    obtain ⟨W, H, l, e, hW, hH, hu⟩ := plate_c l0 (by omega) 5 (by omega) (by omega) (k := m + 8) (by omega)
    rw [e]; simp only [Option.bind_some]
    have hb := mul_bd (c := 5) (d := 5) (show 0 ≤ W by have := hu.1.1; omega) hW (show 0 ≤ H by have := hu.1.2.2.1; omega) hH
    have hln := hu.2.1
    have hf : Fld W H l := ⟨hu, by omega⟩
    have hr := rankF_len W H l
    have ht := tot_bd hu.2.2
    have hp : prank W H l = (W, H, rankF W H l, true) := by unfold prank; rw [if_pos hf]
    rw [rank_i (by omega) (by omega), Option.bind_some, hp]
    simp only
    rw [if_pos trivial, mtx_i (by omega), Option.bind_some, if_pos (decide_eq_true (rank_mtx hf)), if_pos trivial, if_pos trivial, tot_c (by omega) hu.2.2 (by omega) (by omega), Option.bind_some, cells_i (rank_mtx hf) hf.1.1 ht.1 (by omega), Option.bind_some, ranked_cells hf]
    simp only
    rw [same_c W H l (by omega) (by omega)]; rfl

end Go.Proofs.Ytheihidfbalioaa.PFnRanked
