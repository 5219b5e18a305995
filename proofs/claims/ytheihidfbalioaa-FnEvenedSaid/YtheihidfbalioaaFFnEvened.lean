/- What the functions that laws.FnEvened reaches compute, and that the law is true: over numbers alone. -/
import Derived.Test.YtheihidfbalioaaPFnEvenedx
import Derived.Test.YtheihidfbalioaaPic2
import Derived.Laws.Strings
namespace Go.Proofs.Ytheihidfbalioaa.PFnEvened
open Go.RowKit Go.Proofs.YtheihidfbalioaaW.PrintWords Go.Proofs.YtheihidfbalioaaW.PrintLast Go.Proofs.YtheihidfbalioaaW.PrintMore
set_option linter.unusedVariables false
set_option linter.unusedSimpArgs false
set_option linter.unusedSimpArgs false
open Pic
theorem w64 {x : Int} (h1 : -9223372036854775808 ≤ x) (h2 : x ≤ 9223372036854775807) : wrap64 x = x := by unfold wrap64; omega
theorem rd_at (l : List Int) (i : Int) : rd l i = at_ l i := rfl
theorem tmod_pos {n x : Int} (h : 0 ≤ x) : Int.tmod x n = x % n := Int.tmod_eq_emod_of_nonneg h
theorem tdiv_pos {n x : Int} (h : 0 ≤ x) : Int.tdiv x n = x / n := Int.tdiv_eq_ediv_of_nonneg h
theorem dec_ff {p : Prop} [Decidable p] (h : ¬ p) : some false = some (decide p) := by rw [decide_eq_false h]
theorem dec_dd {p q : Prop} [Decidable p] [Decidable q] (h : p ↔ q) : some (decide p) = some (decide q) := by rw [decide_eq_decide.mpr h]
theorem mn_eq (a b : Int) : mn a b = if b < a then b else a := rfl
theorem up_wide {W H : Int} {l : List Int} (h : Up W H l 1) : Up W H l 255 := ⟨h.1, h.2.1, fun v hv => ⟨(h.2.2 v hv).1, by have := (h.2.2 v hv).2; omega⟩⟩
theorem mk_neg (n : Nat) : ¬ ((1 : Int) + n < 0) := by omega
theorem and255 (n : Int) : Go.bits .and .i64 n 255 = n % 256 := by
  have h255 : (BitVec.ofInt 64 255).toNat = 2 ^ 8 - 1 := by decide
  have key : (BitVec.ofInt 64 n &&& BitVec.ofInt 64 255).toNat = (n % ((2 ^ 64 : Nat) : Int)).toNat % 2 ^ 8 := by
    rw [BitVec.toNat_and, BitVec.toNat_ofInt, h255, Nat.and_two_pow_sub_one_eq_mod]
  show IntKind.i64.wrap ((BitVec.ofInt 64 n &&& BitVec.ofInt 64 255).toNat : Nat) = n % 256
  rw [key, IntKind.wrap_i64]
  omega
theorem newl_c (xs : List Int) (d : Nat) : ∀ (k : Nat) (h i : Int), 0 ≤ i → i ≤ 4000 → 4000 - i = d → d < k → ∃ h', spec_l01New.l0 k xs h i = some (xs, 0, h') := by
  induction d with
  | zero =>
    intro k h i h0 h1 hd hk
    obtain ⟨k, rfl⟩ : ∃ m, k = m + 1 := ⟨k - 1, by omega⟩
    simp only [spec_l01New.l0]
    have : ¬ i < 4000 := by omega
    simp only [if_neg this]
    split <;> exact ⟨_, rfl⟩
  | succ d ih =>
    intro k h i h0 h1 hd hk
    obtain ⟨k, rfl⟩ : ∃ m, k = m + 1 := ⟨k - 1, by omega⟩
    rw [spec_l01New.l0]
    by_cases hlt : i < (xs.length : Int)
    · rw [if_pos hlt, if_pos (by omega), if_pos h0, w64 (x := i + 1) (by omega) (by omega)]
      exact ih k _ (i + 1) (by omega) (by omega) (by omega) (by omega)
    · rw [if_neg hlt]; exact ⟨_, rfl⟩
theorem new_c (xs : List Int) (k : Nat) (hk : 4001 ≤ k) : ∃ h, spec_l01New.f k xs = some (xs, 0, h) :=
  newl_c xs 4000 k _ 0 (by omega) (by omega) (by omega) (by omega)
theorem empty_s {W H : Int} (h : Sz W H) : spec_l1Empty.f W H = some (W, H, List.replicate (W * H).toNat 0) := by
  have := h.area
  unfold spec_l1Empty.f
  rw [w64 (by omega) (by omega), if_pos (by omega), if_pos (by omega)]
theorem byte_c (xs : List Int) (hl : xs.length ≤ 140737488351232) (i h : Int) (h0 : 0 ≤ i) (h1 : i ≤ xs.length) : ∃ r i' h', spec_l01Byte.f xs i h = some (r, i', h') ∧ 0 ≤ r ∧ r ≤ 255 ∧ 0 ≤ i' ∧ i' ≤ xs.length := by
  unfold spec_l01Byte.f
  simp only [and255]
  by_cases hlt : i < (xs.length : Int)
  · rw [if_pos hlt, if_pos h0, w64 (x := i + 1) (by omega) (by omega)]
    exact ⟨_, _, _, rfl, Int.emod_nonneg _ (by omega), by have := Int.emod_lt_of_pos (wrap64 ((wrap64 ((Go.bits .xor .i64 ((wrap64 ((wrap64 (h * 6364136223846793005)) + 1442695040888963407)) / 8589934592) ((wrap64 ((wrap64 (h * 6364136223846793005)) + 1442695040888963407)) / 35184372088832)) % 256)) + wrap64 (rd xs i))) (show (0 : Int) < 256 by omega); omega, by omega, by omega⟩
  · rw [if_neg hlt]
    exact ⟨_, _, _, rfl, Int.emod_nonneg _ (by omega), by have := Int.emod_lt_of_pos (Go.bits .xor .i64 ((wrap64 ((wrap64 (h * 6364136223846793005)) + 1442695040888963407)) / 8589934592) ((wrap64 ((wrap64 (h * 6364136223846793005)) + 1442695040888963407)) / 35184372088832)) (show (0 : Int) < 256 by omega); omega, h0, h1⟩
theorem below_c (xs : List Int) (hl : xs.length ≤ 140737488351232) (i h n : Int) (h0 : 0 ≤ i) (h1 : i ≤ xs.length) (hn : 1 ≤ n) (hn2 : n ≤ 256) : ∃ r i' h', spec_l01Below.f xs i h n = some (r, i', h') ∧ 0 ≤ r ∧ r < n ∧ 0 ≤ i' ∧ i' ≤ xs.length := by
  unfold spec_l01Below.f
  rw [if_neg (by omega), if_pos hn2]
  obtain ⟨r, i', h', e, r0, r1, i0, i1⟩ := byte_c xs hl i h h0 h1
  rw [e]; simp only [Option.bind_some]
  rw [if_neg (by omega)]
  have := Int.emod_nonneg r (show n ≠ 0 by omega); have := Int.emod_lt_of_pos r (show 0 < n by omega)
  refine ⟨_, _, _, rfl, ?_, ?_, i0, i1⟩ <;> rw [tmod_pos r0] <;> omega
theorem once_c (xs : List Int) (hl : xs.length ≤ 140737488351232) (i h n : Int) (h0 : 0 ≤ i) (h1 : i ≤ xs.length) (hn : 1 ≤ n) (hn2 : n ≤ 256) : ∃ b i' h', spec_l01Once.f xs i h n = some (b, i', h') ∧ 0 ≤ i' ∧ i' ≤ xs.length := by
  obtain ⟨r, i', h', e, r0, r1, i0, i1⟩ := below_c xs hl i h n h0 h1 hn hn2
  unfold spec_l01Once.f
  rw [e]; exact ⟨_, _, _, rfl, i0, i1⟩
theorem mkl_c (xs : List Int) (hl : xs.length ≤ 140737488351232) {W H : Int} (hs : Sz W H) (q : Int) (q0 : 0 ≤ q) (q1 : q ≤ 3) (d : Nat) : ∀ (k : Nat) (j i h : Int) (M : List Int), 0 ≤ i → i ≤ xs.length → 0 ≤ j → Up W H M 1 → W * H - j = d → d < k →
    ∃ l, spec_MakePlate.l0 k q (W * H) j xs i h W H M = some (W, H, l) ∧ Up W H l 1 := by
  have ha := hs.area
  induction d with
  | zero =>
    intro k j i h M i0 i1 j0 hu hd hk
    obtain ⟨k, rfl⟩ : ∃ m, k = m + 1 := ⟨k - 1, by omega⟩
    rw [spec_MakePlate.l0, if_neg (by omega)]; exact ⟨M, rfl, hu⟩
  | succ d ih =>
    intro k j i h M i0 i1 j0 hu hd hk
    obtain ⟨k, rfl⟩ : ∃ m, k = m + 1 := ⟨k - 1, by omega⟩
    have hln := hu.2.1
    have fin : ∀ r i' h' : Int, 0 ≤ r → r < 2 → 0 ≤ i' → i' ≤ xs.length → ∃ l, (if 0 ≤ j then (if j < (M.length : Int) then spec_MakePlate.l0 k q (W * H) (wrap64 (j + 1)) xs i' h' W H (M.set j.toNat r) else none) else none) = some (W, H, l) ∧ Up W H l 1 := by
      intro r i' h' r0 r1 a0 a1
      rw [if_pos j0, if_pos (by omega), w64 (by omega) (by omega)]
      exact ih k (j + 1) i' h' _ a0 a1 (by omega) (hu.set ⟨r0, by omega⟩) (by omega) (by omega)
    have stay : ∀ i' h' : Int, 0 ≤ i' → i' ≤ xs.length → ∃ l, spec_MakePlate.l0 k q (W * H) (wrap64 (j + 1)) xs i' h' W H M = some (W, H, l) ∧ Up W H l 1 := by
      intro i' h' a0 a1
      rw [w64 (by omega) (by omega)]
      exact ih k (j + 1) i' h' _ a0 a1 (by omega) hu (by omega) (by omega)
    rw [spec_MakePlate.l0, if_pos (by omega)]
    by_cases q2 : 1 < q
    · rw [if_neg (by omega), if_neg (by omega), if_pos (by omega)]
      obtain ⟨r, i', h', e, r0, r1, a0, a1⟩ := below_c xs hl i h 2 i0 i1 (by omega) (by omega)
      rw [e]; exact fin r i' h' r0 r1 a0 a1
    · obtain ⟨b, i', h', e, a0, a1⟩ := once_c xs hl i h 4 i0 i1 (by omega) (by omega)
      obtain ⟨r, i2, h2, e2, r0, r1, c0, c1⟩ := below_c xs hl i' h' 2 a0 a1 (by omega) (by omega)
      by_cases q3 : q = 0
      · rw [if_pos q3, e, Option.bind_some]
        simp only
        by_cases hb : b = true
        · rw [if_pos hb, e2]; exact fin r i2 h2 r0 r1 c0 c1
        · rw [if_neg hb, if_neg (by omega), if_neg (by omega)]; exact stay i' h' a0 a1
      · rw [if_neg q3, if_pos (by omega), e, Option.bind_some]
        simp only
        by_cases hb : b = true
        · rw [if_pos hb, if_neg (by omega)]; exact stay i' h' a0 a1
        · rw [if_neg hb, e2]; exact fin r i2 h2 r0 r1 c0 c1
theorem plate_c (xs : List Int) (hl : xs.length ≤ 140737488351232) (m : Int) (hm : 1 ≤ m) (hm2 : m ≤ 12) {k : Nat} (hk : 5000 ≤ k) : ∃ W H l, spec_MakePlate.f k xs m = some (W, H, l) ∧ W ≤ m ∧ H ≤ m ∧ Up W H l 1 := by
  obtain ⟨h, e⟩ := new_c xs k (by omega)
  have hx : mx 1 (mn m 12) = m := by unfold mx mn; repeat' split
                                     all_goals omega
  unfold spec_MakePlate.f
  rw [e, hx]; simp only [Option.bind_some]
  obtain ⟨a, i1, h1, e1, a0, a1, p0, p1⟩ := below_c xs hl 0 h m (by omega) (by omega) hm (by omega)
  rw [e1]; simp only [Option.bind_some]
  obtain ⟨b, i2, h2, e2, b0, b1, p2, p3⟩ := below_c xs hl i1 h1 m p0 p1 hm (by omega)
  rw [e2]; simp only [Option.bind_some]
  have hs : Sz (1 + a) (1 + b) := ⟨by omega, by omega, by omega, by omega, by have := mul_bd (c := 12) (d := 12) (show 0 ≤ 1 + a by omega) (by omega) (show 0 ≤ 1 + b by omega) (by omega); omega⟩
  have ha := hs.area
  obtain ⟨q, i3, h3, e3, q0, q1, p4, p5⟩ := below_c xs hl i2 h2 4 p2 p3 (by omega) (by omega)
  rw [w64 (x := 1 + a) (by omega) (by omega), w64 (x := 1 + b) (by omega) (by omega), empty_s hs, Option.bind_some, e3]; simp only [Option.bind_some]
  have hu : Up (1 + a) (1 + b) (List.replicate ((1 + a) * (1 + b)).toNat 0) 1 := ⟨hs, by rw [List.length_replicate]; omega, fun v hv => by rw [(List.mem_replicate.mp hv).2]; exact ⟨by omega, by omega⟩⟩
  have hl2 := hu.2.1
  rw [hl2]
  obtain ⟨l, hl3, hu3⟩ := mkl_c xs hl hs q q0 (by omega) ((1 + a) * (1 + b)).toNat k 0 i3 h3 _ p4 p5 (by omega) hu (by omega) (by omega)
  exact ⟨1 + a, 1 + b, l, hl3, by omega, by omega, hu3⟩
theorem totl_c (l : List Int) (hl : l.length ≤ 1048576) {m : Int} (hA : All m l) (hm : m ≤ 1048576) (d : Nat) : ∀ (k : Nat) (s j : Int), 0 ≤ j → j ≤ l.length → (l.length : Int) - j = d → 0 ≤ s → s ≤ j * m → d < k → laws_total.l0 k s l l.length j = some (s + tot (l.drop j.toNat)) := by
  induction d with
  | zero =>
    intro k s j j0 j1 hd s0 s1 hk
    obtain ⟨k, rfl⟩ : ∃ m, k = m + 1 := ⟨k - 1, by omega⟩
    rw [laws_total.l0, if_neg (by omega), drop_end l (by omega)]; simp [tot]
  | succ d ih =>
    intro k s j j0 j1 hd s0 s1 hk
    obtain ⟨k, rfl⟩ : ∃ m, k = m + 1 := ⟨k - 1, by omega⟩
    have hv : 0 ≤ at_ l j ∧ at_ l j ≤ m := hA _ (at_mem j0 (by omega))
    have hb := mul_bd (c := 1048576) (d := 1048576) j0 (by omega) (show 0 ≤ m by omega) hm
    have e : (j + 1) * m = j * m + m := by rw [Int.add_mul, Int.one_mul]
    rw [laws_total.l0, if_pos (by omega), if_pos j0, if_pos (by omega), rd_at, w64 (x := s + _) (by omega) (by omega), w64 (x := j + 1) (by omega) (by omega), ih k _ (j + 1) (by omega) (by omega) (by omega) (by omega) (by omega) (by omega), drop_at l j0 (by omega), tot, Int.add_assoc]
theorem tot_c {l : List Int} (hl : l.length ≤ 1048576) {m : Int} (hA : All m l) (hm : m ≤ 1048576) {k : Nat} (hk : 1100000 ≤ k) : laws_total.f k l = some (tot l) := by
  unfold laws_total.f
  rw [totl_c l hl hA hm l.length k 0 0 (by omega) (by omega) (by omega) (by omega) (by omega) (by omega), Int.zero_add]; rfl
theorem within_i {l : List Int} (hl : l.length ≤ 1048576) (m : Int) : impl_within.f l m = some (decide (All m l)) := by
  unfold impl_within.f
  rw [if_pos (by omega)]; simp only [Option.some.injEq]
  rw [Bool.eq_iff_iff, List.all_eq_true, decide_eq_true_iff]
  exact ⟨fun h v hv => of_decide_eq_true (h v hv), fun h v hv => decide_eq_true (h v hv)⟩
theorem size_i (W H : Int) : impl_sized.f W H = some (decide (Sz W H)) := by
  unfold impl_sized.f
  by_cases h : 1 ≤ W ∧ W ≤ 64 ∧ 1 ≤ H ∧ H ≤ 64
  · have := mul_bd (c := 64) (d := 64) (show 0 ≤ W by omega) h.2.1 (show 0 ≤ H by omega) h.2.2.2
    rw [if_pos (by omega), if_pos (by omega), if_pos (by omega), if_pos (by omega), w64 (by omega) (by omega)]
    exact dec_dd (by unfold Sz; omega)
  · repeat' split
    all_goals first | exact dec_ff (by unfold Sz; omega) | (exfalso; omega)
theorem pict_i {W H : Int} {l : List Int} (hl : l.length ≤ 1048576) : impl_IsPicture.f W H l = some (decide (Up W H l 255)) := by
  unfold impl_IsPicture.f
  rw [size_i, Option.bind_some]
  by_cases h : Sz W H
  · have := h.area
    rw [if_pos (decide_eq_true h), w64 (by omega) (by omega), within_i hl]
    by_cases e : (l.length : Int) = W * H
    · rw [if_pos e]; exact dec_dd ⟨fun x => ⟨h, e, x⟩, fun x => x.2.2⟩
    · rw [if_neg e]; exact dec_ff (fun x => e x.2.1)
  · rw [if_neg (by rw [decide_eq_true_iff]; exact h)]; exact dec_ff (fun x => h x.1)
theorem plate_i {W H : Int} {l : List Int} (hl : l.length ≤ 1048576) : impl_IsPlate.f W H l = some (decide (Up W H l 1)) := by
  unfold impl_IsPlate.f
  rw [pict_i hl, Option.bind_some, within_i hl]
  by_cases h : Up W H l 255
  · rw [if_pos (decide_eq_true h)]; exact dec_dd ⟨fun x => ⟨h.1, h.2.1, x⟩, fun x => x.2.2⟩
  · rw [if_neg (by rw [decide_eq_true_iff]; exact h)]; exact dec_ff (fun x => h ⟨x.1, x.2.1, fun v hv => ⟨(x.2.2 v hv).1, by have := (x.2.2 v hv).2; omega⟩⟩)
theorem field_i {W H : Int} {l : List Int} (hl : l.length ≤ 1048576) : impl_IsField.f W H l = some (decide (Fld W H l)) := by
  unfold impl_IsField.f; rw [plate_i hl, Option.bind_some]
  by_cases h : Up W H l 1
  · rw [if_pos (decide_eq_true h)]; exact dec_dd ⟨fun x => ⟨h, x⟩, fun x => x.2⟩
  · rw [if_neg (by rw [decide_eq_true_iff]; exact h)]; exact dec_ff (fun x => h x.1)
theorem mod_i {x n : Int} (h0 : 0 < n) (h1 : n ≤ 9223372036854775807) : impl_mod.f x n = some (x % n) := by
  unfold impl_mod.f
  rw [if_neg (by omega)]
  have h2 := Int.emod_nonneg x (show n ≠ 0 by omega)
  have h3 := Int.emod_lt_of_pos x h0
  have e := Int.tmod_eq_emod (a := x) (b := n)
  by_cases hc : 0 ≤ x ∨ n ∣ x
  · rw [if_pos hc] at e
    rw [e, if_neg (by omega)]; simp
  · rw [if_neg hc] at e
    rw [e, if_pos (by omega), w64 (by omega) (by omega)]; simp only [Option.some.injEq]; omega
theorem far_i {W H i k : Int} (h : Sz W H) (l : List Int) (i0 : 0 ≤ i) (i1 : i ≤ 100000) (k0 : 0 ≤ k) (k1 : k ≤ 100000) : impl_farness.f W H l i k = some (far W H i k) := by
  unfold impl_farness.f
  have hW := h.1; have hW2 := h.2.1; have hH := h.2.2.1; have hH2 := h.2.2.2.1
  have a1 := Int.emod_nonneg i (show W ≠ 0 by omega); have a2 := Int.emod_lt_of_pos i (show 0 < W by omega)
  have b1 := Int.emod_nonneg k (show W ≠ 0 by omega); have b2 := Int.emod_lt_of_pos k (show 0 < W by omega)
  have c1 := Int.ediv_nonneg i0 (show 0 ≤ W by omega); have c2 := Int.ediv_le_self W i0
  have d1 := Int.ediv_nonneg k0 (show 0 ≤ W by omega); have d2 := Int.ediv_le_self W k0
  have p := rnd_bd (d := i % W - k % W) hW; have q := rnd_bd (d := i / W - k / W) hH
  have hp := mul_bd (c := 64) (d := 64) p.1 (by omega) p.1 (by omega)
  have hq := mul_bd (c := 64) (d := 64) q.1 (by omega) q.1 (by omega)
  have e1 := Int.emod_nonneg (i % W - k % W) (show W ≠ 0 by omega); have e2 := Int.emod_lt_of_pos (i % W - k % W) (show 0 < W by omega)
  have f1 := Int.emod_nonneg (i / W - k / W) (show H ≠ 0 by omega); have f2 := Int.emod_lt_of_pos (i / W - k / W) (show 0 < H by omega)
  rw [if_neg (by omega), tmod_pos i0, tmod_pos k0, tdiv_pos i0, tdiv_pos k0, w64 (x := i / W) (by omega) (by omega), w64 (x := k / W) (by omega) (by omega), w64 (x := i % W - k % W) (by omega) (by omega), w64 (x := i / W - k / W) (by omega) (by omega), mod_i (by omega) (by omega), Option.bind_some, mod_i (by omega) (by omega), Option.bind_some]
  rw [w64 (x := W - _) (by omega) (by omega), w64 (x := H - _) (by omega) (by omega), mn_eq, mn_eq]
  change some (wrap64 (wrap64 (rnd (i % W - k % W) W * rnd (i % W - k % W) W) + wrap64 (rnd (i / W - k / W) H * rnd (i / W - k / W) H))) = _
  rw [w64 (x := rnd (i % W - k % W) W * _) (by omega) (by omega), w64 (x := rnd (i / W - k / W) H * _) (by omega) (by omega), w64 (by omega) (by omega)]; rfl
theorem weight_i {W H i k : Int} (h : Sz W H) (l : List Int) (i0 : 0 ≤ i) (i1 : i ≤ 100000) (k0 : 0 ≤ k) (k1 : k ≤ 100000) : impl_pair.f W H l i k = some (weight W H i k) := by
  unfold impl_pair.f
  have hb := far_bd h i k; have hw := weight_bd h i k
  rw [far_i h l i0 i1 k0 k1, Option.bind_some, w64 (by omega) (by omega), if_neg (by omega), tdiv_pos (by omega)]
  have e : 4096 / (1 + far W H i k) = weight W H i k := rfl
  rw [e, w64 (by omega) (by omega)]
theorem crowdl_i {W H : Int} {l : List Int} (h : Fld W H l) {i : Int} (i0 : 0 ≤ i) (i1 : i ≤ 100000) (d : Nat) : ∀ (k : Nat) (s j : Int), 0 ≤ j → j ≤ l.length → 0 ≤ s → s ≤ 4096 * j → (l.length : Int) - j = d → d < k →
    impl_crowd.l0 k i s l l.length j W H l = some (s + crowdL W H i (l.drop j.toNat) j) := by
  have hl := h.len
  induction d with
  | zero =>
    intro k s j j0 j1 s0 s1 hd hk
    obtain ⟨k, rfl⟩ : ∃ m, k = m + 1 := ⟨k - 1, by omega⟩
    rw [impl_crowd.l0, if_neg (by omega), drop_end l (by omega)]; simp [crowdL]
  | succ d ih =>
    intro k s j j0 j1 s0 s1 hd hk
    obtain ⟨k, rfl⟩ : ∃ m, k = m + 1 := ⟨k - 1, by omega⟩
    have hw := weight_bd h.1.1 i j
    rw [impl_crowd.l0, if_pos (by omega), if_pos j0, if_pos (by omega), drop_at l j0 (by omega), weight_i h.1.1 l i0 i1 j0 (by omega), Option.bind_some, w64 (x := s + _) (by omega) (by omega), w64 (x := j + 1) (by omega) (by omega), ih k _ (j + 1) (by omega) (by omega) (by omega) (by omega) (by omega) (by omega), ih k _ (j + 1) (by omega) (by omega) (by omega) (by omega) (by omega) (by omega), rd_at, crowdL]
    split <;> (simp only [Option.some.injEq]; omega)
theorem crowd_i {W H : Int} {l : List Int} (h : Fld W H l) {i : Int} (i0 : 0 ≤ i) (i1 : i ≤ 100000) {k : Nat} (hk : 300 ≤ k) : impl_crowd.f k W H l i = some (crowd W H l i) := by
  have hl := h.len
  unfold impl_crowd.f
  rw [crowdl_i h i0 i1 l.length k 0 0 (by omega) (by omega) (by omega) (by omega) (by omega) (by omega), Int.zero_add]; rfl
theorem tight_l {W H : Int} {l : List Int} (h : Fld W H l) (d : Nat) : ∀ (k : Nat) (best most j : Int), 0 ≤ j → j ≤ l.length → (l.length : Int) - j = d → d + 300 < k →
    impl_TightestDot.l0 k best most l l.length j W H l = some (bestL (fun j => 1 * crowd W H l j) 1 (l.drop j.toNat) j best most) := by
  have hl := h.len
  induction d with
  | zero =>
    intro k best most j j0 j1 hd hk
    obtain ⟨k, rfl⟩ : ∃ m, k = m + 1 := ⟨k - 1, by omega⟩
    rw [impl_TightestDot.l0, if_neg (by omega), drop_end l (by omega)]; rfl
  | succ d ih =>
    intro k best most j j0 j1 hd hk
    obtain ⟨k, rfl⟩ : ∃ m, k = m + 1 := ⟨k - 1, by omega⟩
    rw [impl_TightestDot.l0, if_pos (by omega), if_pos j0, if_pos (by omega), drop_at l j0 (by omega), crowd_i h j0 (by omega) (by omega), Option.bind_some, w64 (x := j + 1) (by omega) (by omega), ih k _ _ (j + 1) (by omega) (by omega) (by omega) (by omega), ih k _ _ (j + 1) (by omega) (by omega) (by omega) (by omega), rd_at, bestL]
    simp only [Int.one_mul]
    by_cases e : at_ l j = 1
    · rw [if_pos e, if_pos e]
      by_cases e2 : best < 0
      · rw [if_pos e2, if_pos (.inl e2)]
      · rw [if_neg e2]
        by_cases e3 : crowd W H l j > most
        · rw [if_pos e3, if_pos (.inr e3)]
        · rw [if_neg e3, if_neg (by omega)]
    · rw [if_neg e, if_neg e]
theorem tight_i {W H : Int} {l : List Int} (hl : l.length ≤ 1048576) {k : Nat} (hk : 1100000 ≤ k) : impl_TightestDot.f k W H l = some (if Fld W H l then ptight W H l else -1) := by
  unfold impl_TightestDot.f
  rw [field_i hl]; simp only [Option.bind_some]
  by_cases h : Fld W H l
  · have := h.len
    rw [if_pos (decide_eq_true h), if_pos h, tight_l h l.length k (-1) 0 0 (by omega) (by omega) (by omega) (by omega)]; rfl
  · rw [if_neg (by rw [decide_eq_true_iff]; exact h), if_neg h]
theorem void_l {W H : Int} {l : List Int} (h : Fld W H l) (d : Nat) : ∀ (k : Nat) (best most j : Int), 0 ≤ j → j ≤ l.length → (l.length : Int) - j = d → d + 300 < k →
    impl_WidestVoid.l0 k best most l l.length j W H l = some (bestL (fun j => -1 * crowd W H l j) 0 (l.drop j.toNat) j best (-1 * most)) := by
  have hl := h.len
  induction d with
  | zero =>
    intro k best most j j0 j1 hd hk
    obtain ⟨k, rfl⟩ : ∃ m, k = m + 1 := ⟨k - 1, by omega⟩
    rw [impl_WidestVoid.l0, if_neg (by omega), drop_end l (by omega)]; rfl
  | succ d ih =>
    intro k best most j j0 j1 hd hk
    obtain ⟨k, rfl⟩ : ∃ m, k = m + 1 := ⟨k - 1, by omega⟩
    rw [impl_WidestVoid.l0, if_pos (by omega), if_pos j0, if_pos (by omega), drop_at l j0 (by omega), crowd_i h j0 (by omega) (by omega), Option.bind_some, w64 (x := j + 1) (by omega) (by omega), ih k _ _ (j + 1) (by omega) (by omega) (by omega) (by omega), ih k _ _ (j + 1) (by omega) (by omega) (by omega) (by omega), rd_at, bestL]
    by_cases e : at_ l j = 0
    · rw [if_pos e, if_pos e]
      by_cases e2 : best < 0
      · rw [if_pos e2, if_pos (.inl e2)]
      · rw [if_neg e2]
        by_cases e3 : crowd W H l j < most
        · rw [if_pos e3, if_pos (.inr (by omega))]
        · rw [if_neg e3, if_neg (by omega)]
    · rw [if_neg e, if_neg e]
theorem void_i {W H : Int} {l : List Int} (hl : l.length ≤ 1048576) {k : Nat} (hk : 1100000 ≤ k) : impl_WidestVoid.f k W H l = some (if Fld W H l then pvoid W H l else -1) := by
  unfold impl_WidestVoid.f
  rw [field_i hl]; simp only [Option.bind_some]
  by_cases h : Fld W H l
  · have := h.len
    rw [if_pos (decide_eq_true h), if_pos h, void_l h l.length k (-1) 0 0 (by omega) (by omega) (by omega) (by omega)]; rfl
  · rw [if_neg (by rw [decide_eq_true_iff]; exact h), if_neg h]
-- nothing on slices_Clone_int_int
theorem copied_i (W H : Int) {l : List Int} (hl : l.length ≤ 1048576) : impl_copied.f W H l = some (W, H, l) := by
  unfold impl_copied.f slices_Clone_int_int.f; rw [if_pos (by omega), Option.bind_some]
theorem swap_i {W H : Int} {l : List Int} (hl : l.length ≤ 1048576) {k : Nat} (hk : 1100000 < k) : impl_SwapStep.f k W H l = some (W, H, (pswap W H l).1, (pswap W H l).2) := by
  unfold impl_SwapStep.f
  rw [copied_i W H hl, Option.bind_some, tight_i hl (by omega), Option.bind_some]
  by_cases h : Fld W H l
  · have := h.len
    rw [if_pos h]
    unfold pswap; rw [if_pos h]; unfold swapF
    by_cases ht : ptight W H l < 0
    · rw [if_pos ht, if_pos (.inl ht)]
    · rw [if_neg ht, void_i hl (by omega), Option.bind_some, if_pos h]
      by_cases hv : pvoid W H l < 0
      · rw [if_pos hv, if_pos (.inr hv)]
      · have hti := (tight_in W H l).resolve_left (by omega)
        have h2 := h.set (i := ptight W H l) (v := 0) ⟨by omega, by omega⟩
        have h3 := void_has (W := W) (H := H) (mem_set_self (l := l) (v := 0) hti.1 hti.2.1)
        have h4 := (void_in W H (l.set (ptight W H l).toNat 0)).resolve_left (by omega)
        rw [List.length_set] at h4
        rw [if_neg hv, if_pos hti.1, if_pos hti.2.1, Option.bind_some, void_i (by rw [List.length_set]; exact hl) (by omega), Option.bind_some, if_pos h2, if_pos h4.1, if_pos h4.2.1, if_neg (by omega)]
  · rw [if_neg h, if_pos (by omega)]; unfold pswap; rw [if_neg h]
theorem even_li {W H : Int} {most : Int} (hm : most ≤ 64) (d : Nat) : ∀ (k : Nat) (l : List Int) (n : Int), Fld W H l → 0 ≤ n → n ≤ most → most - n = d → d + 1100000 < k →
    impl_EvenField.l0 k most most n W H l = some (W, H, (evenF W H d l n).1, (evenF W H d l n).2) := by
  induction d with
  | zero =>
    intro k l n h n0 n1 hd hk
    obtain ⟨k, rfl⟩ : ∃ m, k = m + 1 := ⟨k - 1, by omega⟩
    rw [impl_EvenField.l0, if_neg (by omega), show most = n by omega]; rfl
  | succ d ih =>
    intro k l n h n0 n1 hd hk
    obtain ⟨k, rfl⟩ : ∃ m, k = m + 1 := ⟨k - 1, by omega⟩
    have := h.len
    rw [impl_EvenField.l0, if_pos (by omega), swap_i (by omega) (by omega), Option.bind_some, w64 (by omega) (by omega)]
    have e : pswap W H l = swapF W H l := by unfold pswap; rw [if_pos h]
    rw [e, evenF]
    by_cases hb : (swapF W H l).2 = true
    · rw [if_pos hb, if_pos hb]; exact ih k _ (n + 1) (swapF_field h) (by omega) (by omega) (by omega) (by omega)
    · rw [if_neg hb, if_neg hb]
theorem even_i {W H : Int} {l : List Int} (hl : l.length ≤ 1048576) (most : Int) {k : Nat} (hk : 1200000 < k) : impl_EvenField.f k W H l most = some (W, H, (peven W H l most).1, (peven W H l most).2) := by
  obtain ⟨k, rfl⟩ : ∃ m, k = m + 1 := ⟨k - 1, by omega⟩
  unfold impl_EvenField.f
  rw [copied_i W H hl, Option.bind_some, field_i hl, Option.bind_some]
  unfold peven
  by_cases h : Fld W H l
  · rw [if_pos (decide_eq_true h)]
    by_cases hm : 0 ≤ most ∧ most ≤ 64
    · rw [if_neg (by omega), impl_EvenField.j0, if_neg (by rw [decide_eq_true_iff]; omega), if_pos ⟨h, hm⟩, even_li hm.2 most.toNat k l 0 h (by omega) (by omega) (by omega) (by omega)]
    · rw [if_neg (c := _ ∧ _) (fun x => hm x.2)]
      split
      · rw [impl_EvenField.j0, if_pos rfl]
      · rw [impl_EvenField.j0, if_pos (by rw [decide_eq_true_iff]; omega)]
  · rw [if_neg (by rw [decide_eq_true_iff]; exact h), impl_EvenField.j0, if_pos rfl, if_neg (c := _ ∧ _) (fun x => h x.1)]
theorem one_i (b : Bool) : impl_one.f b = some (if b = true then 1 else 0) := by unfold impl_one.f; split <;> rfl
theorem countl_i {l : List Int} (hl : l.length ≤ 1048576) (d : Nat) : ∀ (k : Nat) (s j : Int), 0 ≤ j → j ≤ l.length → 0 ≤ s → s ≤ j → (l.length : Int) - j = d → d < k → impl_CountInk.l0 k 1 s l l.length j = some (s + cnt 1 (l.drop j.toNat)) := by
  induction d with
  | zero =>
    intro k s j j0 j1 s0 s1 hd hk
    obtain ⟨k, rfl⟩ : ∃ m, k = m + 1 := ⟨k - 1, by omega⟩
    rw [impl_CountInk.l0, if_neg (by omega), drop_end l (by omega)]; simp [cnt]
  | succ d ih =>
    intro k s j j0 j1 s0 s1 hd hk
    obtain ⟨k, rfl⟩ : ∃ m, k = m + 1 := ⟨k - 1, by omega⟩
    rw [impl_CountInk.l0, if_pos (by omega), if_pos j0, if_pos (by omega), drop_at l j0 (by omega), one_i, Option.bind_some, rd_at, w64 (x := j + 1) (by omega) (by omega), cnt]
    by_cases e : at_ l j = 1
    · rw [if_pos (beq_iff_eq.mpr e), w64 (x := s + 1) (by omega) (by omega), ih k _ (j + 1) (by omega) (by omega) (by omega) (by omega) (by omega) (by omega), if_pos e]; simp only [Option.some.injEq]; omega
    · rw [if_neg (by rw [beq_iff_eq]; exact e), w64 (x := s + 0) (by omega) (by omega), ih k _ (j + 1) (by omega) (by omega) (by omega) (by omega) (by omega) (by omega), if_neg e]; simp only [Option.some.injEq]; omega
theorem count_i {W H : Int} {l : List Int} (h : Up W H l 1) {k : Nat} (hk : 1100000 ≤ k) : impl_CountInk.f k W H l 1 = some (tot l) := by
  have := h.1.area; have := h.2.1
  unfold impl_CountInk.f
  rw [pict_i (by omega), Option.bind_some, if_pos (decide_eq_true (up_wide h)), countl_i (by omega) l.length k 0 0 (by omega) (by omega) (by omega) (by omega) (by omega) (by omega), Int.zero_add, ← cnt_tot h.2.2]; rfl
theorem ints_l (l : List Int) (hl : l.length ≤ 1048576) (d : Nat) : ∀ (k : Nat) (j : Int), 0 ≤ j → j ≤ l.length → (l.length : Int) - j = d → d < k → laws_ints.l0 k l l l.length j = some true := by
  induction d with
  | zero =>
    intro k j j0 j1 hd hk
    obtain ⟨k, rfl⟩ : ∃ m, k = m + 1 := ⟨k - 1, by omega⟩
    rw [laws_ints.l0, if_neg (by omega)]
  | succ d ih =>
    intro k j j0 j1 hd hk
    obtain ⟨k, rfl⟩ : ∃ m, k = m + 1 := ⟨k - 1, by omega⟩
    rw [laws_ints.l0, if_pos (by omega), if_pos j0, if_pos (by omega), if_pos (by omega), if_pos rfl, w64 (by omega) (by omega)]
    exact ih k (j + 1) (by omega) (by omega) (by omega) (by omega)
theorem ints_c (l : List Int) (hl : l.length ≤ 1048576) {k : Nat} (hk : 1100000 ≤ k) : laws_ints.f k l l = some true := by
  unfold laws_ints.f; rw [if_pos rfl, ints_l l hl l.length k 0 (by omega) (by omega) (by omega) (by omega)]
theorem same_c (a b : Int) (l : List Int) (hl : l.length ≤ 1048576) {k : Nat} (hk : 1100000 ≤ k) : laws_same.f k a b l a b l = some true := by
  unfold laws_same.f; rw [if_pos rfl, if_pos rfl, ints_c l hl hk]; rfl
theorem pure_FnEvened (l0 : List Int) (h0 : l0.length ≤ maxLen) (hl : l0.length * 1 ≤ 140737488351232) (hw : ∀ x ∈ l0, (Lit.int .u8 x).wf = true) : ∃ k, laws_FnEvened.f k l0 = some true := by
  obtain ⟨m, hm⟩ : ∃ m : Nat, 4000000 ≤ m := ⟨4000000, Nat.le_refl _⟩
  refine ⟨m + 8, ?_⟩
  unfold laws_FnEvened.f
  by_cases h : (l0.length : Int) > 1048576
  · rw [if_pos h]
  · rw [if_neg h]
    obtain ⟨W, H, l, e, hW, hH, hu⟩ := plate_c l0 (by omega) 5 (by omega) (by omega) (k := m + 8) (by omega)
    rw [e]; simp only [Option.bind_some]
    have hb := mul_bd (c := 5) (d := 5) (show 0 ≤ W by have := hu.1.1; omega) hW (show 0 ≤ H by have := hu.1.2.2.1; omega) hH
    have hln := hu.2.1
    have hf : Fld W H l := ⟨hu, by omega⟩
    have he : peven W H l 20 = evenF W H 20 l 0 := by unfold peven; rw [if_pos ⟨hf, by omega, by omega⟩]; rfl
    rw [even_i (by omega) 20 (by omega), Option.bind_some, he]
    have hq := evenF_field (W := W) (H := H) 20 l 0 hf
    have hc := evenF_cnt (W := W) (H := H) 20 l 0 hf
    have hE := evenF_end (W := W) (H := H) 20 l 0
    generalize hr : evenF W H 20 l 0 = r at hq hc hE
    obtain ⟨q, n⟩ := r
    simp only at hq hc hE ⊢
    have hql := hq.len
    have ht : tot q = tot l := by rw [← cnt_tot hq.1.2.2, ← cnt_tot hu.2.2, hc]
    rw [plate_i (by omega), Option.bind_some, if_pos (decide_eq_true hq.1), if_pos trivial, count_i hq.1 (by omega), Option.bind_some, tot_c (by omega) hu.2.2 (by omega) (by omega), Option.bind_some, if_pos ht, if_neg (by omega), laws_FnEvened.j0, if_neg (by rw [decide_eq_true_iff]; omega), swap_i (by omega) (by omega), Option.bind_some]
    have hs : pswap W H q = swapF W H q := by unfold pswap; rw [if_pos hq]
    rw [hs]
    by_cases e20 : n = 20
    · rw [if_pos e20]
    · have h2 := hE.2.2 (by omega)
      rw [if_neg e20]; simp only
      rw [h2, if_neg (by decide), swapF_keeps h2, same_c W H q (by omega) (by omega)]; rfl
end Go.Proofs.Ytheihidfbalioaa.PFnEvened
