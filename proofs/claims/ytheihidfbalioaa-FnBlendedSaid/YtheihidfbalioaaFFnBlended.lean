/- What the functions that laws.FnBlended reaches compute, and that the law is true: over numbers alone. -/
import Derived.Test.YtheihidfbalioaaPFnBlendedx
import Derived.Test.YtheihidfbalioaaPic2
import Derived.Laws.Strings
namespace Go.Proofs.Ytheihidfbalioaa.PFnBlended
open Go.RowKit Go.Proofs.YtheihidfbalioaaW.PrintWords Go.Proofs.YtheihidfbalioaaW.PrintLast Go.Proofs.YtheihidfbalioaaW.PrintMore
set_option linter.unusedVariables false
set_option linter.unusedSimpArgs false
set_option linter.unusedSimpArgs false
open Pic
theorem w64 {x : Int} (h1 : -9223372036854775808 ≤ x) (h2 : x ≤ 9223372036854775807) : wrap64 x = x := by unfold wrap64; omega
theorem rd_at (l : List Int) (i : Int) : rd l i = at_ l i := rfl
theorem tmod_pos {n x : Int} (h : 0 ≤ x) : Int.tmod x n = x % n := Int.tmod_eq_emod_of_nonneg h
theorem tdiv_pos {n x : Int} (h : 0 ≤ x) : Int.tdiv x n = x / n := Int.tdiv_eq_ediv_of_nonneg h
theorem dec_ff {p : Prop} [Decidable p] (h : ¬ p) : some false = some (decide p) := by rw [decide_eq_false h]
theorem dec_dd {p q : Prop} [Decidable p] [Decidable q] (h : p ↔ q) : some (decide p) = some (decide q) := by rw [decide_eq_decide.mpr h]
theorem mn_eq (a b : Int) : mn a b = if b < a then b else a := rfl
theorem up_wide {W H : Int} {l : List Int} (h : Up W H l 1) : Up W H l 255 := ⟨h.1, h.2.1, fun v hv => ⟨(h.2.2 v hv).1, by have := (h.2.2 v hv).2; omega⟩⟩
theorem mk_neg (n : Nat) : ¬ ((1 : Int) + n < 0) := by omega
theorem drop_p (l : List S25) {i : Int} (h0 : 0 ≤ i) (h : i < l.length) : l.drop i.toNat = rd_T25 l i :: l.drop (i + 1).toNat := by
  have hj : i.toNat < l.length := by omega
  have e : rd_T25 l i = l[i.toNat] := by unfold rd_T25; rw [List.getD_eq_getElem?_getD, List.getElem?_eq_getElem hj, Option.getD_some]
  rw [List.drop_eq_getElem_cons hj, e, show (i + 1).toNat = i.toNat + 1 by omega]
theorem mem_p {l : List S25} {i : Int} (h0 : 0 ≤ i) (h : i < l.length) : rd_T25 l i ∈ l := by
  have : rd_T25 l i ∈ l.drop i.toNat := by rw [drop_p l h0 h]; exact List.mem_cons_self
  exact List.mem_of_mem_drop this
theorem and255 (n : Int) : Go.bits .and .i64 n 255 = n % 256 := by
  have h255 : (BitVec.ofInt 64 255).toNat = 2 ^ 8 - 1 := by decide
  have key : (BitVec.ofInt 64 n &&& BitVec.ofInt 64 255).toNat = (n % ((2 ^ 64 : Nat) : Int)).toNat % 2 ^ 8 := by
    rw [BitVec.toNat_and, BitVec.toNat_ofInt, h255, Nat.and_two_pow_sub_one_eq_mod]
  show IntKind.i64.wrap ((BitVec.ofInt 64 n &&& BitVec.ofInt 64 255).toNat : Nat) = n % 256
  rw [key, IntKind.wrap_i64]
  omega
theorem newl_c (xs : List Int) (d : Nat) : ∀ (k : Nat) (h i : Int), 0 ≤ i → i ≤ 4000 → 4000 - i = d → d < k → ∃ h', spec_l01New.l0 k xs h i = some (xs, 0, h') := by
  induction d with
  | zero =>
    intro k h i h0 h1 hd hk
    obtain ⟨k, rfl⟩ : ∃ m, k = m + 1 := ⟨k - 1, by omega⟩
    simp only [spec_l01New.l0]
    have : ¬ i < 4000 := by omega
    simp only [if_neg this]
    split <;> exact ⟨_, rfl⟩
  | succ d ih =>
    intro k h i h0 h1 hd hk
    obtain ⟨k, rfl⟩ : ∃ m, k = m + 1 := ⟨k - 1, by omega⟩
    rw [spec_l01New.l0]
    by_cases hlt : i < (xs.length : Int)
    · rw [if_pos hlt, if_pos (by omega), if_pos h0, w64 (x := i + 1) (by omega) (by omega)]
      exact ih k _ (i + 1) (by omega) (by omega) (by omega) (by omega)
    · rw [if_neg hlt]; exact ⟨_, rfl⟩
theorem new_c (xs : List Int) (k : Nat) (hk : 4001 ≤ k) : ∃ h, spec_l01New.f k xs = some (xs, 0, h) :=
  newl_c xs 4000 k _ 0 (by omega) (by omega) (by omega) (by omega)
theorem empty_s {W H : Int} (h : Sz W H) : spec_l1Empty.f W H = some (W, H, List.replicate (W * H).toNat 0) := by
  have := h.area
  unfold spec_l1Empty.f
  rw [w64 (by omega) (by omega), if_pos (by omega), if_pos (by omega)]
theorem byte_c (xs : List Int) (hl : xs.length ≤ 140737488351232) (i h : Int) (h0 : 0 ≤ i) (h1 : i ≤ xs.length) : ∃ r i' h', spec_l01Byte.f xs i h = some (r, i', h') ∧ 0 ≤ r ∧ r ≤ 255 ∧ 0 ≤ i' ∧ i' ≤ xs.length := by
  unfold spec_l01Byte.f
  simp only [and255]
  by_cases hlt : i < (xs.length : Int)
  · rw [if_pos hlt, if_pos h0, w64 (x := i + 1) (by omega) (by omega)]
    exact ⟨_, _, _, rfl, Int.emod_nonneg _ (by omega), by have := Int.emod_lt_of_pos (wrap64 ((wrap64 ((Go.bits .xor .i64 ((wrap64 ((wrap64 (h * 6364136223846793005)) + 1442695040888963407)) / 8589934592) ((wrap64 ((wrap64 (h * 6364136223846793005)) + 1442695040888963407)) / 35184372088832)) % 256)) + wrap64 (rd xs i))) (show (0 : Int) < 256 by omega); omega, by omega, by omega⟩
  · rw [if_neg hlt]
    exact ⟨_, _, _, rfl, Int.emod_nonneg _ (by omega), by have := Int.emod_lt_of_pos (Go.bits .xor .i64 ((wrap64 ((wrap64 (h * 6364136223846793005)) + 1442695040888963407)) / 8589934592) ((wrap64 ((wrap64 (h * 6364136223846793005)) + 1442695040888963407)) / 35184372088832)) (show (0 : Int) < 256 by omega); omega, h0, h1⟩
theorem below_c (xs : List Int) (hl : xs.length ≤ 140737488351232) (i h n : Int) (h0 : 0 ≤ i) (h1 : i ≤ xs.length) (hn : 1 ≤ n) (hn2 : n ≤ 256) : ∃ r i' h', spec_l01Below.f xs i h n = some (r, i', h') ∧ 0 ≤ r ∧ r < n ∧ 0 ≤ i' ∧ i' ≤ xs.length := by
  unfold spec_l01Below.f
  rw [if_neg (by omega), if_pos hn2]
  obtain ⟨r, i', h', e, r0, r1, i0, i1⟩ := byte_c xs hl i h h0 h1
  rw [e]; simp only [Option.bind_some]
  rw [if_neg (by omega)]
  have := Int.emod_nonneg r (show n ≠ 0 by omega); have := Int.emod_lt_of_pos r (show 0 < n by omega)
  refine ⟨_, _, _, rfl, ?_, ?_, i0, i1⟩ <;> rw [tmod_pos r0] <;> omega
theorem once_c (xs : List Int) (hl : xs.length ≤ 140737488351232) (i h n : Int) (h0 : 0 ≤ i) (h1 : i ≤ xs.length) (hn : 1 ≤ n) (hn2 : n ≤ 256) : ∃ b i' h', spec_l01Once.f xs i h n = some (b, i', h') ∧ 0 ≤ i' ∧ i' ≤ xs.length := by
  obtain ⟨r, i', h', e, r0, r1, i0, i1⟩ := below_c xs hl i h n h0 h1 hn hn2
  unfold spec_l01Once.f
  rw [e]; exact ⟨_, _, _, rfl, i0, i1⟩
theorem mkl_c (xs : List Int) (hl : xs.length ≤ 140737488351232) {W H : Int} (hs : Sz W H) (q : Int) (q0 : 0 ≤ q) (q1 : q ≤ 3) (d : Nat) : ∀ (k : Nat) (j i h : Int) (M : List Int), 0 ≤ i → i ≤ xs.length → 0 ≤ j → Up W H M 1 → W * H - j = d → d < k →
    ∃ l, spec_MakePlate.l0 k q (W * H) j xs i h W H M = some (W, H, l) ∧ Up W H l 1 := by
  have ha := hs.area
  induction d with
  | zero =>
    intro k j i h M i0 i1 j0 hu hd hk
    obtain ⟨k, rfl⟩ : ∃ m, k = m + 1 := ⟨k - 1, by omega⟩
    rw [spec_MakePlate.l0, if_neg (by omega)]; exact ⟨M, rfl, hu⟩
  | succ d ih =>
    intro k j i h M i0 i1 j0 hu hd hk
    obtain ⟨k, rfl⟩ : ∃ m, k = m + 1 := ⟨k - 1, by omega⟩
    have hln := hu.2.1
    have fin : ∀ r i' h' : Int, 0 ≤ r → r < 2 → 0 ≤ i' → i' ≤ xs.length → ∃ l, (if 0 ≤ j then (if j < (M.length : Int) then spec_MakePlate.l0 k q (W * H) (wrap64 (j + 1)) xs i' h' W H (M.set j.toNat r) else none) else none) = some (W, H, l) ∧ Up W H l 1 := by
      intro r i' h' r0 r1 a0 a1
      rw [if_pos j0, if_pos (by omega), w64 (by omega) (by omega)]
      exact ih k (j + 1) i' h' _ a0 a1 (by omega) (hu.set ⟨r0, by omega⟩) (by omega) (by omega)
    have stay : ∀ i' h' : Int, 0 ≤ i' → i' ≤ xs.length → ∃ l, spec_MakePlate.l0 k q (W * H) (wrap64 (j + 1)) xs i' h' W H M = some (W, H, l) ∧ Up W H l 1 := by
      intro i' h' a0 a1
      rw [w64 (by omega) (by omega)]
      exact ih k (j + 1) i' h' _ a0 a1 (by omega) hu (by omega) (by omega)
    rw [spec_MakePlate.l0, if_pos (by omega)]
    by_cases q2 : 1 < q
    · rw [if_neg (by omega), if_neg (by omega), if_pos (by omega)]
      obtain ⟨r, i', h', e, r0, r1, a0, a1⟩ := below_c xs hl i h 2 i0 i1 (by omega) (by omega)
      rw [e]; exact fin r i' h' r0 r1 a0 a1
    · obtain ⟨b, i', h', e, a0, a1⟩ := once_c xs hl i h 4 i0 i1 (by omega) (by omega)
      obtain ⟨r, i2, h2, e2, r0, r1, c0, c1⟩ := below_c xs hl i' h' 2 a0 a1 (by omega) (by omega)
      by_cases q3 : q = 0
      · rw [if_pos q3, e, Option.bind_some]
        simp only
        by_cases hb : b = true
        · rw [if_pos hb, e2]; exact fin r i2 h2 r0 r1 c0 c1
        · rw [if_neg hb, if_neg (by omega), if_neg (by omega)]; exact stay i' h' a0 a1
      · rw [if_neg q3, if_pos (by omega), e, Option.bind_some]
        simp only
        by_cases hb : b = true
        · rw [if_pos hb, if_neg (by omega)]; exact stay i' h' a0 a1
        · rw [if_neg hb, e2]; exact fin r i2 h2 r0 r1 c0 c1
theorem plate_c (xs : List Int) (hl : xs.length ≤ 140737488351232) (m : Int) (hm : 1 ≤ m) (hm2 : m ≤ 12) {k : Nat} (hk : 5000 ≤ k) : ∃ W H l, spec_MakePlate.f k xs m = some (W, H, l) ∧ W ≤ m ∧ H ≤ m ∧ Up W H l 1 := by
  obtain ⟨h, e⟩ := new_c xs k (by omega)
  have hx : mx 1 (mn m 12) = m := by unfold mx mn; repeat' split
                                     all_goals omega
  unfold spec_MakePlate.f
  rw [e, hx]; simp only [Option.bind_some]
  obtain ⟨a, i1, h1, e1, a0, a1, p0, p1⟩ := below_c xs hl 0 h m (by omega) (by omega) hm (by omega)
  rw [e1]; simp only [Option.bind_some]
  obtain ⟨b, i2, h2, e2, b0, b1, p2, p3⟩ := below_c xs hl i1 h1 m p0 p1 hm (by omega)
  rw [e2]; simp only [Option.bind_some]
  have hs : Sz (1 + a) (1 + b) := ⟨by omega, by omega, by omega, by omega, by have := mul_bd (c := 12) (d := 12) (show 0 ≤ 1 + a by omega) (by omega) (show 0 ≤ 1 + b by omega) (by omega); omega⟩
  have ha := hs.area
  obtain ⟨q, i3, h3, e3, q0, q1, p4, p5⟩ := below_c xs hl i2 h2 4 p2 p3 (by omega) (by omega)
  rw [w64 (x := 1 + a) (by omega) (by omega), w64 (x := 1 + b) (by omega) (by omega), empty_s hs, Option.bind_some, e3]; simp only [Option.bind_some]
  have hu : Up (1 + a) (1 + b) (List.replicate ((1 + a) * (1 + b)).toNat 0) 1 := ⟨hs, by rw [List.length_replicate]; omega, fun v hv => by rw [(List.mem_replicate.mp hv).2]; exact ⟨by omega, by omega⟩⟩
  have hl2 := hu.2.1
  rw [hl2]
  obtain ⟨l, hl3, hu3⟩ := mkl_c xs hl hs q q0 (by omega) ((1 + a) * (1 + b)).toNat k 0 i3 h3 _ p4 p5 (by omega) hu (by omega) (by omega)
  exact ⟨1 + a, 1 + b, l, hl3, by omega, by omega, hu3⟩
theorem at_c (xs : List Int) (hl : xs.length ≤ 140737488351232) (hw : ∀ x ∈ xs, (Lit.int .u8 x).wf = true) (i : Int) (h0 : 0 ≤ i) (h1 : i ≤ 1000) : ∃ v, laws_at.f xs i = some v ∧ 0 ≤ v ∧ v ≤ 255 := by
  unfold laws_at.f
  by_cases hlt : i < (xs.length : Int)
  · rw [if_pos hlt, if_pos h0]
    have hm : rd xs i ∈ xs := by
      have : i.toNat < xs.length := by omega
      unfold rd; rw [List.getD_eq_getElem?_getD, List.getElem?_eq_getElem this, Option.getD_some]; exact List.getElem_mem this
    have hb : 0 ≤ rd xs i ∧ rd xs i ≤ 255 := by
      have h := hw _ hm
      simp only [Lit.wf, Bool.and_eq_true, decide_eq_true_eq] at h
      exact h
    exact ⟨_, rfl, by rw [w64 (by omega) (by omega)]; exact hb.1, by rw [w64 (by omega) (by omega)]; exact hb.2⟩
  · rw [if_neg hlt]
    refine ⟨_, rfl, ?_⟩
    rw [w64 (x := i * 37) (by omega) (by omega), w64 (x := _ * 11) (by omega) (by omega), w64 (by omega) (by omega), tmod_pos (by omega)]
    omega
theorem totl_c (l : List Int) (hl : l.length ≤ 1048576) {m : Int} (hA : All m l) (hm : m ≤ 1048576) (d : Nat) : ∀ (k : Nat) (s j : Int), 0 ≤ j → j ≤ l.length → (l.length : Int) - j = d → 0 ≤ s → s ≤ j * m → d < k → laws_total.l0 k s l l.length j = some (s + tot (l.drop j.toNat)) := by
  induction d with
  | zero =>
    intro k s j j0 j1 hd s0 s1 hk
    obtain ⟨k, rfl⟩ : ∃ m, k = m + 1 := ⟨k - 1, by omega⟩
    rw [laws_total.l0, if_neg (by omega), drop_end l (by omega)]; simp [tot]
  | succ d ih =>
    intro k s j j0 j1 hd s0 s1 hk
    obtain ⟨k, rfl⟩ : ∃ m, k = m + 1 := ⟨k - 1, by omega⟩
    have hv : 0 ≤ at_ l j ∧ at_ l j ≤ m := hA _ (at_mem j0 (by omega))
    have hb := mul_bd (c := 1048576) (d := 1048576) j0 (by omega) (show 0 ≤ m by omega) hm
    have e : (j + 1) * m = j * m + m := by rw [Int.add_mul, Int.one_mul]
    rw [laws_total.l0, if_pos (by omega), if_pos j0, if_pos (by omega), rd_at, w64 (x := s + _) (by omega) (by omega), w64 (x := j + 1) (by omega) (by omega), ih k _ (j + 1) (by omega) (by omega) (by omega) (by omega) (by omega) (by omega), drop_at l j0 (by omega), tot, Int.add_assoc]
theorem tot_c {l : List Int} (hl : l.length ≤ 1048576) {m : Int} (hA : All m l) (hm : m ≤ 1048576) {k : Nat} (hk : 1100000 ≤ k) : laws_total.f k l = some (tot l) := by
  unfold laws_total.f
  rw [totl_c l hl hA hm l.length k 0 0 (by omega) (by omega) (by omega) (by omega) (by omega) (by omega), Int.zero_add]; rfl
theorem likel_c (xs : List Int) (hl : xs.length ≤ 140737488351232) {W H : Int} (hs : Sz W H) (d : Nat) : ∀ (k : Nat) (j i h : Int) (M : List Int), 0 ≤ i → i ≤ xs.length → 0 ≤ j → Up W H M 1 → W * H - j = d → d < k →
    ∃ l, spec_MakeLike.l0 k (W * H) j xs i h W H M = some (W, H, l) ∧ Up W H l 1 := by
  have ha := hs.area
  induction d with
  | zero =>
    intro k j i h M i0 i1 j0 hu hd hk
    obtain ⟨k, rfl⟩ : ∃ m, k = m + 1 := ⟨k - 1, by omega⟩
    rw [spec_MakeLike.l0, if_neg (by omega)]; exact ⟨M, rfl, hu⟩
  | succ d ih =>
    intro k j i h M i0 i1 j0 hu hd hk
    obtain ⟨k, rfl⟩ : ∃ m, k = m + 1 := ⟨k - 1, by omega⟩
    have hln := hu.2.1
    obtain ⟨r, i', h', e, r0, r1, a0, a1⟩ := below_c xs hl i h 2 i0 i1 (by omega) (by omega)
    rw [spec_MakeLike.l0, if_pos (by omega), e, Option.bind_some]
    simp only
    rw [if_pos j0, if_pos (by omega), w64 (by omega) (by omega)]
    exact ih k (j + 1) i' h' _ a0 a1 (by omega) (hu.set ⟨r0, by omega⟩) (by omega) (by omega)
theorem like_c (xs : List Int) (hl : xs.length ≤ 140737488351232) {W H : Int} (hs : Sz W H) (m : List Int) {k : Nat} (hk : 5000 ≤ k) : ∃ l, spec_MakeLike.f k xs W H m = some (W, H, l) ∧ Up W H l 1 := by
  obtain ⟨h, e⟩ := new_c xs k (by omega)
  have ha := hs.area
  unfold spec_MakeLike.f
  rw [e, Option.bind_some, empty_s hs, Option.bind_some]
  have hu : Up W H (List.replicate (W * H).toNat 0) 1 := ⟨hs, by rw [List.length_replicate]; omega, fun v hv => by rw [(List.mem_replicate.mp hv).2]; exact ⟨by omega, by omega⟩⟩
  have hl2 := hu.2.1
  simp only
  rw [hl2]
  exact likel_c xs hl hs (W * H).toNat k 0 0 h _ (by omega) (by omega) (by omega) hu (by omega) (by omega)
theorem freshl_c (xs : List Int) (a : Int) (d : Nat) : ∀ (k : Nat) (o : List Int) (i : Int), 0 ≤ i → i ≤ 600 → 600 - i = d → (o.length : Int) = i + 1 → d < k → ∃ ys, laws_fresh.l0 k xs a o i = some ys ∧ ys.length ≤ 700 := by
  induction d with
  | zero =>
    intro k o i i0 i1 hd ho hk
    obtain ⟨k, rfl⟩ : ∃ m, k = m + 1 := ⟨k - 1, by omega⟩
    have h6 : ¬ i < 600 := by omega
    rw [laws_fresh.l0]
    by_cases h : i < (xs.length : Int)
    · rw [if_pos h, if_neg h6]; exact ⟨o, rfl, by omega⟩
    · rw [if_neg h]; exact ⟨o, rfl, by omega⟩
  | succ d ih =>
    intro k o i i0 i1 hd ho hk
    obtain ⟨k, rfl⟩ : ∃ m, k = m + 1 := ⟨k - 1, by omega⟩
    rw [laws_fresh.l0]
    by_cases h : i < (xs.length : Int)
    · rw [if_pos h, if_pos (by omega), if_pos i0, if_pos (by omega), w64 (x := i + 1) (by omega) (by omega)]
      exact ih k _ (i + 1) (by omega) (by omega) (by omega) (by rw [List.length_append]; simp; omega) (by omega)
    · rw [if_neg h]; exact ⟨o, rfl, by omega⟩
theorem fresh_c (xs : List Int) (a : Int) {k : Nat} (hk : 1000 ≤ k) : ∃ ys, laws_fresh.f k xs a = some ys ∧ ys.length ≤ 700 := by
  unfold laws_fresh.f
  exact freshl_c xs a 600 k _ 0 (by omega) (by omega) (by omega) (by simp) (by omega)
theorem within_i {l : List Int} (hl : l.length ≤ 1048576) (m : Int) : impl_within.f l m = some (decide (All m l)) := by
  unfold impl_within.f
  rw [if_pos (by omega)]; simp only [Option.some.injEq]
  rw [Bool.eq_iff_iff, List.all_eq_true, decide_eq_true_iff]
  exact ⟨fun h v hv => of_decide_eq_true (h v hv), fun h v hv => decide_eq_true (h v hv)⟩
theorem size_i (W H : Int) : impl_sized.f W H = some (decide (Sz W H)) := by
  unfold impl_sized.f
  by_cases h : 1 ≤ W ∧ W ≤ 64 ∧ 1 ≤ H ∧ H ≤ 64
  · have := mul_bd (c := 64) (d := 64) (show 0 ≤ W by omega) h.2.1 (show 0 ≤ H by omega) h.2.2.2
    rw [if_pos (by omega), if_pos (by omega), if_pos (by omega), if_pos (by omega), w64 (by omega) (by omega)]
    exact dec_dd (by unfold Sz; omega)
  · repeat' split
    all_goals first | exact dec_ff (by unfold Sz; omega) | (exfalso; omega)
theorem pict_i {W H : Int} {l : List Int} (hl : l.length ≤ 1048576) : impl_IsPicture.f W H l = some (decide (Up W H l 255)) := by
  unfold impl_IsPicture.f
  rw [size_i, Option.bind_some]
  by_cases h : Sz W H
  · have := h.area
    rw [if_pos (decide_eq_true h), w64 (by omega) (by omega), within_i hl]
    by_cases e : (l.length : Int) = W * H
    · rw [if_pos e]; exact dec_dd ⟨fun x => ⟨h, e, x⟩, fun x => x.2.2⟩
    · rw [if_neg e]; exact dec_ff (fun x => e x.2.1)
  · rw [if_neg (by rw [decide_eq_true_iff]; exact h)]; exact dec_ff (fun x => h x.1)
theorem plate_i {W H : Int} {l : List Int} (hl : l.length ≤ 1048576) : impl_IsPlate.f W H l = some (decide (Up W H l 1)) := by
  unfold impl_IsPlate.f
  rw [pict_i hl, Option.bind_some, within_i hl]
  by_cases h : Up W H l 255
  · rw [if_pos (decide_eq_true h)]; exact dec_dd ⟨fun x => ⟨h.1, h.2.1, x⟩, fun x => x.2.2⟩
  · rw [if_neg (by rw [decide_eq_true_iff]; exact h)]; exact dec_ff (fun x => h ⟨x.1, x.2.1, fun v hv => ⟨(x.2.2 v hv).1, by have := (x.2.2 v hv).2; omega⟩⟩)
theorem alike_i (a b c d : Int) {l m : List Int} (hl : l.length ≤ 1048576) (hm : m.length ≤ 1048576) : impl_alike.f a b l c d m = some (decide ((Up a b l 255 ∧ Up c d m 255) ∧ a = c ∧ b = d)) := by
  unfold impl_alike.f
  rw [pict_i hl, Option.bind_some, pict_i hm, Option.bind_some]
  by_cases h : Up a b l 255
  · rw [if_pos (decide_eq_true h)]
    by_cases h2 : Up c d m 255
    · rw [if_pos (decide_eq_true h2)]
      by_cases h3 : a = c
      · rw [if_pos h3]
        by_cases h4 : b = d
        · rw [decide_eq_true (show (Up a b l 255 ∧ Up c d m 255) ∧ a = c ∧ b = d from ⟨⟨h, h2⟩, h3, h4⟩), beq_iff_eq.mpr h4]
        · rw [beq_eq_false_iff_ne.mpr h4]; exact dec_ff (fun x => h4 x.2.2)
      · rw [if_neg h3]; exact dec_ff (fun x => h3 x.2.1)
    · rw [if_neg (by rw [decide_eq_true_iff]; exact h2)]; exact dec_ff (fun x => h2 x.1.2)
  · rw [if_neg (by rw [decide_eq_true_iff]; exact h)]; exact dec_ff (fun x => h x.1.1)
/-- every one a plate of the first one's size -/
def likeF (a b : Int) (l : List S25) : Prop := ∀ x ∈ l, Up x.f0 x.f1 x.f2 1 ∧ x.f0 = a ∧ x.f1 = b
instance (a b : Int) (l : List S25) : Decidable (likeF a b l) := inferInstanceAs (Decidable (∀ x ∈ l, _))
def Stk (l : List S25) : Prop := (1 ≤ l.length ∧ l.length ≤ 4) ∧ likeF (rd_T25 l 0).f0 (rd_T25 l 0).f1 l
instance (l : List S25) : Decidable (Stk l) := inferInstanceAs (Decidable (_ ∧ _))
theorem likeF_cons {a b : Int} {x : S25} {l : List S25} : likeF a b (x :: l) ↔ (Up x.f0 x.f1 x.f2 1 ∧ x.f0 = a ∧ x.f1 = b) ∧ likeF a b l := by simp [likeF]
theorem stackl_i {l : List S25} (hl : l.length ≤ 4) (hq : ∀ x ∈ l, x.f2.length ≤ 1048576) (d : Nat) : ∀ (k : Nat) (i : Int), 0 ≤ i → i ≤ l.length → (l.length : Int) - i = d → (0 < i → Up (rd_T25 l 0).f0 (rd_T25 l 0).f1 (rd_T25 l 0).f2 1) → d < k →
    impl_IsStack.l0 k l l l.length i = some (decide (likeF (rd_T25 l 0).f0 (rd_T25 l 0).f1 (l.drop i.toNat))) := by
  induction d with
  | zero =>
    intro k i i0 i1 hd h0 hk
    obtain ⟨k, rfl⟩ : ∃ m, k = m + 1 := ⟨k - 1, by omega⟩
    rw [impl_IsStack.l0, if_neg (by omega), List.drop_eq_nil_of_le (by omega), decide_eq_true (show likeF _ _ [] from fun x hx => by simp at hx)]
  | succ d ih =>
    intro k i i0 i1 hd h0 hk
    obtain ⟨k, rfl⟩ : ∃ m, k = m + 1 := ⟨k - 1, by omega⟩
    have hi : i < l.length := by omega
    rw [impl_IsStack.l0, if_pos hi, if_pos i0, if_pos hi, plate_i (hq _ (mem_p i0 hi)), Option.bind_some, drop_p l i0 hi, w64 (by omega) (by omega)]
    by_cases h : Up (rd_T25 l i).f0 (rd_T25 l i).f1 (rd_T25 l i).f2 1
    · have hu : Up (rd_T25 l 0).f0 (rd_T25 l 0).f1 (rd_T25 l 0).f2 1 := by
        by_cases e : 0 < i
        · exact h0 e
        · rw [show i = 0 by omega] at h; exact h
      rw [if_pos (decide_eq_true h), if_pos (by omega), alike_i _ _ _ _ (hq _ (mem_p i0 hi)) (hq _ (mem_p (by omega) (by omega))), Option.bind_some]
      by_cases h1 : (rd_T25 l i).f0 = (rd_T25 l 0).f0 ∧ (rd_T25 l i).f1 = (rd_T25 l 0).f1
      · rw [if_pos (decide_eq_true ⟨⟨up_wide h, up_wide hu⟩, h1⟩), ih k (i + 1) (by omega) (by omega) (by omega) (fun _ => hu) (by omega)]
        exact dec_dd (by rw [likeF_cons]; exact ⟨fun x => ⟨⟨h, h1⟩, x⟩, fun x => x.2⟩)
      · rw [if_neg (by rw [decide_eq_true_iff]; exact fun x => h1 x.2)]; exact dec_ff (by rw [likeF_cons]; exact fun x => h1 x.1.2)
    · rw [if_neg (by rw [decide_eq_true_iff]; exact h)]; exact dec_ff (by rw [likeF_cons]; exact fun x => h x.1.1)
theorem stack_i {l : List S25} (hl : l.length ≤ 1048576) (hq : ∀ x ∈ l, x.f2.length ≤ 1048576) {k : Nat} (hk : 100 ≤ k) : impl_IsStack.f k l = some (decide (Stk l)) := by
  obtain ⟨k, rfl⟩ : ∃ m, k = m + 1 := ⟨k - 1, by omega⟩
  unfold impl_IsStack.f
  by_cases h : 1 ≤ (l.length : Int) ∧ (l.length : Int) ≤ 4
  · rw [if_neg (by omega), impl_IsStack.j0, if_neg (by rw [decide_eq_true_iff]; omega), stackl_i (by omega) hq l.length k 0 (by omega) (by omega) (by omega) (fun z => by omega) (by omega)]
    exact dec_dd (by unfold Stk; exact ⟨fun x => ⟨by omega, x⟩, fun x => x.2⟩)
  · have e : some false = some (decide (Stk l)) := dec_ff (fun x => h (by have := x.1; omega))
    by_cases h1 : (l.length : Int) < 1
    · rw [if_pos h1, impl_IsStack.j0, if_pos rfl, e]
    · rw [if_neg h1, impl_IsStack.j0, if_pos (by rw [decide_eq_true_iff]; omega), e]
theorem stk_up {l : List S25} (h : Stk l) : ∀ x ∈ l, Up (rd_T25 l 0).f0 (rd_T25 l 0).f1 x.f2 1 := by
  intro x hx
  obtain ⟨h1, h2, h3⟩ := h.2 x hx
  rw [← h2, ← h3]; exact h1
theorem stk_sz {l : List S25} (h : Stk l) : Sz (rd_T25 l 0).f0 (rd_T25 l 0).f1 := by
  have := h.1
  exact (stk_up h _ (mem_p (l := l) (i := 0) (by omega) (by omega))).1
theorem shl_bit {b j : Int} (hb : In 1 b) (h0 : 0 ≤ j) (h1 : j ≤ 3) : shl .i64 b j = b * p2 j := by
  unfold In at hb
  unfold shl
  have hj : j = 0 ∨ j = 1 ∨ j = 2 ∨ j = 3 := by omega
  rcases hj with rfl | rfl | rfl | rfl
  · show IntKind.i64.wrap (b * 1) = b * 1
    rw [i64_w, w64 (by omega) (by omega)]
  · show IntKind.i64.wrap (b * 2) = b * 2
    rw [i64_w, w64 (by omega) (by omega)]
  · show IntKind.i64.wrap (b * 4) = b * 4
    rw [i64_w, w64 (by omega) (by omega)]
  · show IntKind.i64.wrap (b * 8) = b * 8
    rw [i64_w, w64 (by omega) (by omega)]
def mkL (i : Int) : List S25 → Int → Int → Int
  | [], _, s => s
  | x :: r, j, s => mkL i r (j + 1) (wrap64 (s + shl .i64 (at_ x.f2 i) j))
theorem mkL_bd (i : Int) : ∀ (r : List S25) (j s : Int), (∀ x ∈ r, In 1 (at_ x.f2 i)) → 0 ≤ j → j + r.length ≤ 4 → 0 ≤ s → s < p2 j → 0 ≤ mkL i r j s ∧ mkL i r j s < p2 (j + r.length) := by
  intro r
  induction r with
  | nil => intro j s _ _ _ s0 s1; simp [mkL]; exact ⟨s0, s1⟩
  | cons x r ih =>
    intro j s hx j0 j1 s0 s1
    rw [List.length_cons] at j1
    have hb : 0 ≤ at_ x.f2 i ∧ at_ x.f2 i ≤ 1 := hx x List.mem_cons_self
    have hp := p2_bd j
    have hst := p2_step j0 (by omega)
    rw [mkL, shl_bit hb j0 (by omega)]
    have e : at_ x.f2 i * p2 j = 0 ∨ at_ x.f2 i * p2 j = p2 j := by
      have : at_ x.f2 i = 0 ∨ at_ x.f2 i = 1 := by omega
      rcases this with h | h <;> rw [h] <;> simp
    rw [w64 (by omega) (by omega)]
    have := ih (j + 1) (s + at_ x.f2 i * p2 j) (fun y hy => hx y (List.mem_cons_of_mem _ hy)) (by omega) (by omega) (by omega) (by omega)
    rw [List.length_cons, show j + ((r.length + 1 : Nat) : Int) = j + 1 + r.length by omega]; exact this
theorem mkL_stk {l : List S25} (h : Stk l) {i : Int} (i0 : 0 ≤ i) (i1 : i < (rd_T25 l 0).f0 * (rd_T25 l 0).f1) : 0 ≤ mkL i l 0 0 ∧ mkL i l 0 0 < p2 l.length := by
  have h1 := h.1
  have := mkL_bd i l 0 0 (fun x hx => by
    have hu := stk_up h x hx; have := hu.2.1
    exact hu.2.2 _ (at_mem i0 (by omega))) (by omega) (by omega) (by omega) (by decide)
  rw [Int.zero_add] at this; exact this
theorem shl_one {n : Nat} (h : 1 ≤ n ∧ n ≤ 4) : shl .i64 1 (n : Int) = p2 n := by
  have : n = 1 ∨ n = 2 ∨ n = 3 ∨ n = 4 := by omega
  rcases this with rfl | rfl | rfl | rfl <;> rfl
theorem markl_i {l : List S25} (hl : l.length ≤ 1048576) {i : Int} (i0 : 0 ≤ i) (hi : ∀ x ∈ l, i < (x.f2.length : Int)) (d : Nat) : ∀ (k : Nat) (s j : Int), 0 ≤ j → j ≤ l.length → (l.length : Int) - j = d → d < k →
    impl_mark.l0 k i s l l.length j = some (mkL i (l.drop j.toNat) j s) := by
  induction d with
  | zero =>
    intro k s j j0 j1 hd hk
    obtain ⟨k, rfl⟩ : ∃ m, k = m + 1 := ⟨k - 1, by omega⟩
    rw [impl_mark.l0, if_neg (by omega), List.drop_eq_nil_of_le (by omega)]; rfl
  | succ d ih =>
    intro k s j j0 j1 hd hk
    obtain ⟨k, rfl⟩ : ∃ m, k = m + 1 := ⟨k - 1, by omega⟩
    have hj : j < l.length := by omega
    rw [impl_mark.l0, if_pos hj, if_pos j0, if_pos hj, if_pos i0, if_pos (hi _ (mem_p j0 hj)), w64 (x := j + 1) (by omega) (by omega), ih k _ (j + 1) (by omega) (by omega) (by omega) (by omega), drop_p l j0 hj, mkL, rd_at]
theorem mark_i {l : List S25} (h : Stk l) {i : Int} (i0 : 0 ≤ i) (i1 : i < (rd_T25 l 0).f0 * (rd_T25 l 0).f1) {k : Nat} (hk : 10 ≤ k) : impl_mark.f k l i = some (mkL i l 0 0) := by
  unfold impl_mark.f
  have := h.1
  rw [markl_i (by omega) i0 (fun x hx => by have := (stk_up h x hx).2.1; omega) l.length k 0 0 (by omega) (by omega) (by omega) (by omega)]; rfl
def cntL (l : List S25) : Nat → Int → List Int → List Int
  | 0, _, c => c
  | d + 1, i, c => cntL l d (i + 1) (c.set (mkL i l 0 0).toNat (wrap64 (at_ c (mkL i l 0 0) + 1)))
theorem cntL_len (l : List S25) : ∀ (d : Nat) (i : Int) (c : List Int), (cntL l d i c).length = c.length := by
  intro d
  induction d with
  | zero => intro i c; rfl
  | succ d ih => intro i c; rw [cntL, ih, List.length_set]
def countsOf (l : List S25) : List Int := if Stk l then cntL l (rd_T25 l 0).f2.length 0 (List.replicate (p2 l.length).toNat 0) else []
theorem countsOf_len {l : List S25} (h : Stk l) : ((countsOf l).length : Int) = p2 l.length := by
  have := p2_bd l.length
  unfold countsOf; rw [if_pos h, cntL_len, List.length_replicate]; omega
theorem countsl_i {l : List S25} (h : Stk l) (n : Nat) (hn : n ≤ (rd_T25 l 0).f0 * (rd_T25 l 0).f1) (d : Nat) : ∀ (k : Nat) (c : List Int) (i : Int), 0 ≤ i → i ≤ n → (n : Int) - i = d → (c.length : Int) = p2 l.length → d + 20 < k →
    impl_MarkCounts.l0 k l c n i = some (cntL l d i c) := by
  have hp := p2_bd l.length
  have hs := (stk_sz h).area
  induction d with
  | zero =>
    intro k c i i0 i1 hd hc hk
    obtain ⟨k, rfl⟩ : ∃ m, k = m + 1 := ⟨k - 1, by omega⟩
    rw [impl_MarkCounts.l0, if_neg (by omega)]; rfl
  | succ d ih =>
    intro k c i i0 i1 hd hc hk
    obtain ⟨k, rfl⟩ : ∃ m, k = m + 1 := ⟨k - 1, by omega⟩
    have hm := mkL_stk h i0 (by omega)
    rw [impl_MarkCounts.l0, if_pos (by omega), mark_i h i0 (by omega) (by omega), Option.bind_some, if_pos hm.1, if_pos (by omega), w64 (x := i + 1) (by omega) (by omega), rd_at, ih k _ (i + 1) (by omega) (by omega) (by omega) (by rw [List.length_set]; exact hc) (by omega)]; rfl
theorem counts_i {l : List S25} (hl : l.length ≤ 1048576) (hq : ∀ x ∈ l, x.f2.length ≤ 1048576) {k : Nat} (hk : 1300000 ≤ k) : impl_MarkCounts.f k l = some (countsOf l) := by
  unfold impl_MarkCounts.f countsOf
  rw [stack_i hl hq (by omega), Option.bind_some]
  by_cases h : Stk l
  · have h1 := h.1
    have hp := p2_bd l.length
    have hs := (stk_sz h).area
    have hu := stk_up h _ (mem_p (l := l) (i := 0) (by omega) (by omega))
    have hun := hu.2.1
    rw [if_pos (decide_eq_true h), if_pos h, shl_one h1, if_pos (by omega), if_pos (by omega), if_pos (by omega)]
    exact countsl_i h (rd_T25 l 0).f2.length (by omega) _ k _ 0 (by omega) (by omega) (by omega) (by rw [List.length_replicate]; omega) (by omega)
  · rw [if_neg (by rw [decide_eq_true_iff]; exact h), if_neg h]
theorem gcd_i (d : Nat) : ∀ (k : Nat) (a b : Int), b.natAbs < d → d < k → impl_gcd.l0 k a b = some (gcdF d a b) := by
  induction d with
  | zero => intro k a b h _; omega
  | succ d ih =>
    intro k a b h hk
    obtain ⟨k, rfl⟩ : ∃ m, k = m + 1 := ⟨k - 1, by omega⟩
    rw [impl_gcd.l0, gcdF]
    by_cases e : b = 0
    · rw [if_pos e, if_pos e]
    · rw [if_neg e, if_neg e]
      refine ih k b _ ?_ (by omega)
      rw [Int.natAbs_tmod]
      have := Nat.mod_lt a.natAbs (show 0 < b.natAbs by omega)
      omega
def dtL (w : List Int) : List Int → Int → Int → Int
  | [], _, s => s
  | c :: r, j, s => dtL w r (j + 1) (wrap64 (s + wrap64 (c * at_ w j)))
def blendT (l : List S25) (s : Int) : Int × Int × Bool := (wrap64 (Int.tdiv s (gcdF 2000 s (rd_T25 l 0).f2.length)), wrap64 (((rd_T25 l 0).f2.length : Int) / (gcdF 2000 s (rd_T25 l 0).f2.length)), true)
def blend (l : List S25) (w : List Int) : Int × Int × Bool := if Stk l ∧ (w.length : Int) = p2 l.length ∧ All 1000000 w then blendT l (dtL w (countsOf l) 0 0) else (0, 0, false)
theorem stk_n {l : List S25} (h : Stk l) : 1 ≤ (rd_T25 l 0).f2.length ∧ (rd_T25 l 0).f2.length ≤ 1024 := by
  have h1 := h.1
  have hs := (stk_sz h).area
  have hu := (stk_up h _ (mem_p (l := l) (i := 0) (by omega) (by omega))).2.1
  omega
theorem blend1_i {l : List S25} (h : Stk l) {w C : List Int} (hc : C.length = w.length) (hw : w.length ≤ 16) (d : Nat) : ∀ (k : Nat) (s j : Int), 0 ≤ j → j ≤ C.length → (C.length : Int) - j = d → d + 3000 < k →
    impl_BlendOf.l0 k l w s C C.length j = some (blendT l (dtL w (C.drop j.toNat) j s)) := by
  have h1 := h.1
  have hn := stk_n h
  induction d with
  | zero =>
    intro k s j j0 j1 hd hk
    obtain ⟨k, rfl⟩ : ∃ m, k = m + 1 := ⟨k - 1, by omega⟩
    have hg := gcdF_ne 2000 s (rd_T25 l 0).f2.length (by omega) (.inr (by omega))
    rw [impl_BlendOf.l0, if_neg (by omega), if_pos (by omega), drop_end C (by omega), dtL]
    unfold impl_gcd.f
    rw [gcd_i 2000 k s _ (by omega) (by omega), Option.bind_some, if_neg hg]; rfl
  | succ d ih =>
    intro k s j j0 j1 hd hk
    obtain ⟨k, rfl⟩ : ∃ m, k = m + 1 := ⟨k - 1, by omega⟩
    rw [impl_BlendOf.l0, if_pos (by omega), if_pos j0, if_pos (by omega), if_pos (by omega), drop_at C j0 (by omega), w64 (x := j + 1) (by omega) (by omega), rd_at, rd_at, ih k _ (j + 1) (by omega) (by omega) (by omega) (by omega), dtL]
theorem blend_i {l : List S25} (hl : l.length ≤ 1048576) (hq : ∀ x ∈ l, x.f2.length ≤ 1048576) {w : List Int} (hwl : w.length ≤ 1048576) {k : Nat} (hk : 1500000 ≤ k) : impl_BlendOf.f k l w = some (blend l w) := by
  obtain ⟨k, rfl⟩ : ∃ m, k = m + 1 := ⟨k - 1, by omega⟩
  unfold impl_BlendOf.f blend
  rw [stack_i hl hq (by omega), Option.bind_some]
  by_cases h : Stk l
  · have hp := p2_bd l.length
    rw [if_pos (decide_eq_true h), shl_one h.1]
    by_cases e : (w.length : Int) = p2 l.length
    · rw [if_pos e, within_i hwl, Option.bind_some, impl_BlendOf.j0]
      by_cases ha : All 1000000 w
      · have hcl := countsOf_len h
        rw [if_neg (by rw [decide_eq_true ha]; decide), counts_i hl hq (by omega), Option.bind_some, if_pos ⟨h, e, ha⟩]
        exact blend1_i h (by omega) (by omega) (countsOf l).length k 0 0 (by omega) (by omega) (by omega) (by omega)
      · rw [if_pos (by rw [decide_eq_false ha]; rfl), if_neg (c := _ ∧ _ ∧ _) (fun z => ha z.2.2)]
    · rw [if_neg e, impl_BlendOf.j0, if_pos rfl, if_neg (c := _ ∧ _ ∧ _) (fun z => e z.2.1)]
  · rw [if_neg (by rw [decide_eq_true_iff]; exact h), impl_BlendOf.j0, if_pos rfl, if_neg (c := _ ∧ _ ∧ _) (fun z => h z.1)]
def two (W H : Int) (l : List Int) (V G : Int) (m : List Int) : Prop := (Up W H l 1 ∧ Up V G m 1) ∧ V = W ∧ G = H
instance (W H : Int) (l : List Int) (V G : Int) (m : List Int) : Decidable (two W H l V G m) := inferInstanceAs (Decidable (_ ∧ _))
theorem stk_two (W H : Int) (l : List Int) (V G : Int) (m : List Int) : Stk [(⟨W, H, l⟩ : S25), ⟨V, G, m⟩] ↔ two W H l V G m := by
  unfold Stk two likeF
  constructor
  · intro h
    have a := h.2 ⟨W, H, l⟩ (by simp)
    have b := h.2 ⟨V, G, m⟩ (by simp)
    exact ⟨⟨a.1, b.1⟩, b.2⟩
  · intro h
    refine ⟨by simp, fun x hx => ?_⟩
    rcases List.mem_cons.mp hx with e | e
    · subst e; exact ⟨h.1.1, rfl, rfl⟩
    · rcases List.mem_cons.mp e with e | e
      · subst e; exact ⟨h.1.2, h.2⟩
      · simp at e
/-- points where both have a dot, the first alone, the second alone -/
def both : List Int → List Int → Int
  | a :: r, b :: q => a * b + both r q
  | _, _ => 0
theorem both_bd : ∀ (l m : List Int), All 1 l → All 1 m → 0 ≤ both l m ∧ both l m ≤ l.length := by
  intro l
  induction l with
  | nil => intro m _ _; simp [both]
  | cons a l ih =>
    intro m hl hm
    cases m with
    | nil => simp [both]; omega
    | cons b m =>
      obtain ⟨ha, hl'⟩ := All.cons.mp hl
      obtain ⟨hb, hm'⟩ := All.cons.mp hm
      have := ih m hl' hm'
      unfold In at ha hb
      have e : a * b = 0 ∨ a * b = 1 := by
        have h1 : a = 0 ∨ a = 1 := by omega
        have h2 : b = 0 ∨ b = 1 := by omega
        rcases h1 with e1 | e1 <;> rcases h2 with e2 | e2 <;> rw [e1, e2] <;> simp
      unfold both; rw [List.length_cons]; omega
theorem mk_two {W H V G : Int} {a b : List Int} (ha : All 1 a) (hb : All 1 b) {i : Int} (i0 : 0 ≤ i) (i1 : i < a.length) (i2 : i < b.length) :
    mkL i [(⟨W, H, a⟩ : S25), ⟨V, G, b⟩] 0 0 = at_ a i + 2 * at_ b i ∧ In 1 (at_ a i) ∧ In 1 (at_ b i) := by
  have h1 := ha _ (at_mem i0 i1)
  have h2 := hb _ (at_mem i0 i2)
  refine ⟨?_, h1, h2⟩
  have e1 : shl .i64 (at_ a i) 0 = at_ a i * 1 := shl_bit h1 (by omega) (by omega)
  have e2 : shl .i64 (at_ b i) (0 + 1) = at_ b i * 2 := shl_bit (j := 1) h2 (by omega) (by omega)
  unfold In at h1 h2
  unfold mkL mkL mkL
  rw [e1, e2, w64 (x := 0 + at_ a i * 1) (by omega) (by omega), w64 (by omega) (by omega)]; omega
theorem cnt_two_l {W H V G : Int} {a b : List Int} (ha : All 1 a) (hb : All 1 b) (hab : a.length = b.length) (hn : a.length ≤ 1024) (d : Nat) : ∀ (i c0 c1 c2 c3 : Int), 0 ≤ i → (a.length : Int) - i = d → (0 ≤ c0 ∧ c0 ≤ i) → (0 ≤ c1 ∧ c1 ≤ i) → (0 ≤ c2 ∧ c2 ≤ i) → (0 ≤ c3 ∧ c3 ≤ i) →
    ∃ e0 e1 e2 e3 : Int, cntL [(⟨W, H, a⟩ : S25), ⟨V, G, b⟩] d i [c0, c1, c2, c3] = [e0, e1, e2, e3] ∧ e3 = c3 + both (a.drop i.toNat) (b.drop i.toNat) ∧ e1 + e3 = c1 + c3 + cnt 1 (a.drop i.toNat) ∧ e2 + e3 = c2 + c3 + cnt 1 (b.drop i.toNat) := by
  induction d with
  | zero =>
    intro i c0 c1 c2 c3 i0 hd _ _ _ _
    refine ⟨c0, c1, c2, c3, rfl, ?_⟩
    rw [drop_end a (by omega), drop_end b (by omega)]; simp [both, cnt]
  | succ d ih =>
    intro i c0 c1 c2 c3 i0 hd b0 b1 b2 b3
    obtain ⟨hm, h1, h2⟩ := mk_two (W := W) (H := H) (V := V) (G := G) ha hb (i := i) i0 (by omega) (by omega)
    unfold In at h1 h2
    rw [cntL, hm, drop_at a i0 (by omega), drop_at b i0 (by omega), both, cnt, cnt]
    have ca : at_ a i = 0 ∨ at_ a i = 1 := by omega
    have cb : at_ b i = 0 ∨ at_ b i = 1 := by omega
    rcases ca with ea | ea <;> rcases cb with eb | eb <;> rw [ea, eb]
    · obtain ⟨e0, e1, e2, e3, h, h3, h4, h5⟩ := ih (i + 1) (c0 + 1) c1 c2 c3 (by omega) (by omega) (by omega) (by omega) (by omega) (by omega)
      refine ⟨e0, e1, e2, e3, ?_, by simp; omega, by simp; omega, by simp; omega⟩
      rw [← h]; show cntL _ d (i + 1) [wrap64 (c0 + 1), c1, c2, c3] = _; rw [w64 (by omega) (by omega)]
    · obtain ⟨e0, e1, e2, e3, h, h3, h4, h5⟩ := ih (i + 1) c0 c1 (c2 + 1) c3 (by omega) (by omega) (by omega) (by omega) (by omega) (by omega)
      refine ⟨e0, e1, e2, e3, ?_, by simp; omega, by simp; omega, by simp; omega⟩
      rw [← h]; show cntL _ d (i + 1) [c0, c1, wrap64 (c2 + 1), c3] = _; rw [w64 (by omega) (by omega)]
    · obtain ⟨e0, e1, e2, e3, h, h3, h4, h5⟩ := ih (i + 1) c0 (c1 + 1) c2 c3 (by omega) (by omega) (by omega) (by omega) (by omega) (by omega)
      refine ⟨e0, e1, e2, e3, ?_, by simp; omega, by simp; omega, by simp; omega⟩
      rw [← h]; show cntL _ d (i + 1) [c0, wrap64 (c1 + 1), c2, c3] = _; rw [w64 (by omega) (by omega)]
    · obtain ⟨e0, e1, e2, e3, h, h3, h4, h5⟩ := ih (i + 1) c0 c1 c2 (c3 + 1) (by omega) (by omega) (by omega) (by omega) (by omega) (by omega)
      refine ⟨e0, e1, e2, e3, ?_, by simp; omega, by simp; omega, by simp; omega⟩
      rw [← h]; show cntL _ d (i + 1) [c0, c1, c2, wrap64 (c3 + 1)] = _; rw [w64 (by omega) (by omega)]
def sharesM (W H : Int) (l : List Int) (V G : Int) (m : List Int) : Bool := if two W H l V G m then wrap64 (both l m * l.length) == wrap64 (((cnt 1 l : Nat) : Int) * ((cnt 1 m : Nat) : Int)) else false
theorem pure_FnBlended (l0 : List Int) (h0 : l0.length ≤ maxLen) (hl : l0.length * 1 ≤ 140737488351232) (hw : ∀ x ∈ l0, (Lit.int .u8 x).wf = true) : ∃ k, laws_FnBlended.f k l0 = some true := by
  obtain ⟨m, hm⟩ : ∃ m : Nat, 4000000 ≤ m := ⟨4000000, Nat.le_refl _⟩
  refine ⟨m + 8, ?_⟩
  unfold laws_FnBlended.f
  by_cases h : (l0.length : Int) > 1048576
  · rw [if_pos h]
  · rw [if_neg h]
    obtain ⟨W, H, l, e, hW, hH, hu⟩ := plate_c l0 (by omega) 7 (by omega) (by omega) (k := m + 8) (by omega)
    obtain ⟨ys, ey, hy⟩ := fresh_c l0 3 (k := m + 8) (by omega)
    obtain ⟨q, eq, hq⟩ := like_c ys (by omega) hu.1 l (k := m + 8) (by omega)
    obtain ⟨v, ev, v0, v1⟩ := at_c l0 (by omega) hw 1 (by omega) (by omega)
    obtain ⟨u, eu, u0, u1⟩ := at_c l0 (by omega) hw 2 (by omega) (by omega)
    have ha := hu.1.area; have hln := hu.2.1; have hqn := hq.2.1
    rw [e]; simp only [Option.bind_some]
    rw [ey, Option.bind_some, eq]; simp only [Option.bind_some]
    rw [ev, Option.bind_some, eu, Option.bind_some, w64 (x := v * 100) (by omega) (by omega), w64 (x := u * 7) (by omega) (by omega), w64 (x := v * 100 + u * 7) (by omega) (by omega)]
    obtain ⟨a, hav⟩ : ∃ a, a = v * 100 := ⟨_, rfl⟩
    obtain ⟨b, hbu⟩ : ∃ b, b = u * 7 := ⟨_, rfl⟩
    rw [← hav, ← hbu]
    have htw : two W H l W H q := ⟨⟨hu, hq⟩, rfl, rfl⟩
    have hst := (stk_two W H l W H q).mpr htw
    have hLq : ∀ x ∈ [(⟨W, H, l⟩ : S25), ⟨W, H, q⟩], x.f2.length ≤ 1048576 := by
      intro x hx
      rcases List.mem_cons.mp hx with z | z
      · subst z; show l.length ≤ _; omega
      · rcases List.mem_cons.mp z with z | z
        · subst z; show q.length ≤ _; omega
        · simp at z
    obtain ⟨e0, e1, e2, e3, he, h3, h4, h5⟩ := cnt_two_l (W := W) (H := H) (V := W) (G := H) hu.2.2 hq.2.2 (by omega) (by omega) l.length 0 0 0 0 0 (by omega) (by omega) (by omega) (by omega) (by omega) (by omega)
    have hc : countsOf [(⟨W, H, l⟩ : S25), ⟨W, H, q⟩] = [e0, e1, e2, e3] := by
      unfold countsOf; rw [if_pos hst, ← he]; rfl
    simp only [Int.toNat_zero, List.drop_zero] at h3 h4 h5
    rw [cnt_tot hu.2.2] at h4; rw [cnt_tot hq.2.2] at h5
    have hb := both_bd l q hu.2.2 hq.2.2
    have t1 := tot_bd hu.2.2; have t2 := tot_bd hq.2.2
    have hall : All 1000000 [0, a, b, a + b] := by
      intro x hx
      simp only [List.mem_cons, List.not_mem_nil, or_false] at hx
      rcases hx with z | z | z | z <;> subst z <;> exact ⟨by omega, by omega⟩
    have hbl : blend [(⟨W, H, l⟩ : S25), ⟨W, H, q⟩] [0, a, b, a + b] = blendT [(⟨W, H, l⟩ : S25), ⟨W, H, q⟩] (a * tot l + b * tot q) := by
      unfold blend
      rw [if_pos ⟨hst, rfl, hall⟩, hc]
      congr 1
      have a0 : at_ [0, a, b, a + b] 0 = 0 := rfl
      have a1 : at_ [0, a, b, a + b] (0 + 1) = a := rfl
      have a2 : at_ [0, a, b, a + b] (0 + 1 + 1) = b := rfl
      have a3 : at_ [0, a, b, a + b] (0 + 1 + 1 + 1) = a + b := rfl
      have p1 := mul_bd (c := 1024) (d := 25500) (x := tot l) (y := a) t1.1 (by omega) (by omega) (by omega)
      have p2 := mul_bd (c := 1024) (d := 1785) (x := tot q) (y := b) t2.1 (by omega) (by omega) (by omega)
      have p3 := mul_bd (c := 1024) (d := 25500) (x := e3) (y := a) (by omega) (by omega) (by omega) (by omega)
      have p4 := mul_bd (c := 1024) (d := 1785) (x := e3) (y := b) (by omega) (by omega) (by omega) (by omega)
      have s1 : e1 * a = tot l * a - e3 * a := by rw [← Int.sub_mul]; congr 1; omega
      have s2 : e2 * b = tot q * b - e3 * b := by rw [← Int.sub_mul]; congr 1; omega
      have s3 : e3 * (a + b) = e3 * a + e3 * b := Int.mul_add _ _ _
      simp only [dtL]
      rw [a0, a1, a2, a3, Int.mul_zero, w64 (x := 0) (by omega) (by omega), w64 (x := 0 + 0) (by omega) (by omega), w64 (x := e1 * a) (by omega) (by omega), w64 (x := e2 * b) (by omega) (by omega), w64 (x := e3 * (a + b)) (by omega) (by omega), w64 (x := 0 + 0 + e1 * a) (by omega) (by omega), w64 (x := 0 + 0 + e1 * a + e2 * b) (by omega) (by omega), w64 (by omega) (by omega), Int.mul_comm a, Int.mul_comm b]
      omega
    have p1 := mul_bd (c := 25500) (d := 1024) (x := a) (y := tot l) (by omega) (by omega) t1.1 (by omega)
    have p2 := mul_bd (c := 1785) (d := 1024) (x := b) (y := tot q) (by omega) (by omega) t2.1 (by omega)
    rw [blend_i (by simp) hLq (by simp) (by omega), Option.bind_some, hbl]
    unfold blendT
    have hf2 : (rd_T25 [(⟨W, H, l⟩ : S25), ⟨W, H, q⟩] 0).f2 = l := rfl
    rw [hf2]
    obtain ⟨s, hs⟩ : ∃ s, s = a * tot l + b * tot q := ⟨_, rfl⟩
    rw [← hs]
    have hg0 := gcdF_pos 2000 s l.length (by omega) (by omega) (by omega)
    have hg1 := gcdF_ne 2000 s l.length (by omega) (.inr (by omega))
    obtain ⟨hd1, hd2⟩ := gcdF_dvd 2000 s l.length (by omega)
    generalize gcdF 2000 s l.length = g at hg0 hg1 hd1 hd2 ⊢
    obtain ⟨c, hcs⟩ := hd1
    obtain ⟨d, hdn⟩ := hd2
    have hgp : 0 < g := by omega
    have hd0 : 0 < d := by
      rcases (show 0 < d ∨ d ≤ 0 by omega) with z | z
      · exact z
      · have := Int.mul_nonneg (show 0 ≤ g by omega) (show 0 ≤ -d by omega)
        rw [Int.mul_neg] at this; omega
    have hdle : d ≤ g * d := by have := Int.mul_le_mul_of_nonneg_right (show 1 ≤ g by omega) (show 0 ≤ d by omega); omega
    have hc0 : 0 ≤ c := by
      rcases (show c < 0 ∨ 0 ≤ c by omega) with z | z
      · have := Int.mul_pos hgp (show 0 < -c by omega)
        rw [Int.mul_neg] at this; omega
      · exact z
    have hcle : c ≤ g * c := by have := Int.mul_le_mul_of_nonneg_right (show 1 ≤ g by omega) hc0; omega
    have hgle : g ≤ g * d := by have := Int.mul_le_mul_of_nonneg_left (show 1 ≤ d by omega) (show 0 ≤ g by omega); omega
    have q1 : Int.tdiv s g = c := by rw [hcs]; exact Int.mul_tdiv_cancel_left c (by omega)
    have q2 : (l.length : Int) / g = d := by rw [hdn]; exact Int.mul_ediv_cancel_left d (by omega)
    have q3 : (l.length : Int) % d = 0 := by rw [hdn]; exact Int.mul_emod_left g d
    have q4 : (l.length : Int) / d = g := by rw [hdn]; exact Int.mul_ediv_cancel g (by omega)
    rw [q1, q2, w64 (x := c) (by omega) (by omega), w64 (x := d) (by omega) (by omega)]
    simp only
    rw [if_pos trivial, if_neg (by omega), if_neg (by omega), q3, bne_self_eq_false, laws_FnBlended.j0, if_neg (by decide), if_neg (by omega), tot_c (by omega) hu.2.2 (by omega) (by omega), Option.bind_some, if_pos (by simp)]
    have hf3 : (rd_T25 [(⟨W, H, l⟩ : S25), ⟨W, H, q⟩] 1).f2 = q := rfl
    rw [hf3, tot_c (by omega) hq.2.2 (by omega) (by omega), Option.bind_some, q4, w64 (x := g) (by omega) (by omega), Int.mul_comm c g, ← hcs, w64 (x := s) (by omega) (by omega), w64 (x := a * tot l) (by omega) (by omega), w64 (x := b * tot q) (by omega) (by omega), w64 (by omega) (by omega), ← hs, beq_self_eq_true]
end Go.Proofs.Ytheihidfbalioaa.PFnBlended
