/- What the functions that laws.FnGrown reaches compute, and that the law is true: over numbers alone. -/
import Derived.Test.YtheihidfbalioaaPFnGrownx
import Derived.Test.YtheihidfbalioaaPic2
import Derived.Laws.Strings
namespace Go.Proofs.Ytheihidfbalioaa.PFnGrown
open Go.RowKit Go.Proofs.YtheihidfbalioaaW.PrintWords Go.Proofs.YtheihidfbalioaaW.PrintLast Go.Proofs.YtheihidfbalioaaW.PrintMore
set_option linter.unusedVariables false
set_option linter.unusedSimpArgs false
set_option linter.unusedSimpArgs false
open Pic
theorem w64 {x : Int} (h1 : -9223372036854775808 ≤ x) (h2 : x ≤ 9223372036854775807) : wrap64 x = x := by unfold wrap64; omega
theorem rd_at (l : List Int) (i : Int) : rd l i = at_ l i := rfl
theorem tmod_pos {n x : Int} (h : 0 ≤ x) : Int.tmod x n = x % n := Int.tmod_eq_emod_of_nonneg h
theorem tdiv_pos {n x : Int} (h : 0 ≤ x) : Int.tdiv x n = x / n := Int.tdiv_eq_ediv_of_nonneg h
theorem dec_ff {p : Prop} [Decidable p] (h : ¬ p) : some false = some (decide p) := by rw [decide_eq_false h]
theorem dec_dd {p q : Prop} [Decidable p] [Decidable q] (h : p ↔ q) : some (decide p) = some (decide q) := by rw [decide_eq_decide.mpr h]
theorem mn_eq (a b : Int) : mn a b = if b < a then b else a := rfl
theorem up_wide {W H : Int} {l : List Int} (h : Up W H l 1) : Up W H l 255 := ⟨h.1, h.2.1, fun v hv => ⟨(h.2.2 v hv).1, by have := (h.2.2 v hv).2; omega⟩⟩
theorem mk_neg (n : Nat) : ¬ ((1 : Int) + n < 0) := by omega
theorem and255 (n : Int) : Go.bits .and .i64 n 255 = n % 256 := by
  have h255 : (BitVec.ofInt 64 255).toNat = 2 ^ 8 - 1 := by decide
  have key : (BitVec.ofInt 64 n &&& BitVec.ofInt 64 255).toNat = (n % ((2 ^ 64 : Nat) : Int)).toNat % 2 ^ 8 := by
    rw [BitVec.toNat_and, BitVec.toNat_ofInt, h255, Nat.and_two_pow_sub_one_eq_mod]
  show IntKind.i64.wrap ((BitVec.ofInt 64 n &&& BitVec.ofInt 64 255).toNat : Nat) = n % 256
  rw [key, IntKind.wrap_i64]
  omega
theorem newl_c (xs : List Int) (d : Nat) : ∀ (k : Nat) (h i : Int), 0 ≤ i → i ≤ 4000 → 4000 - i = d → d < k → ∃ h', spec_l01New.l0 k xs h i = some (xs, 0, h') := by
  induction d with
  | zero =>
    intro k h i h0 h1 hd hk
    obtain ⟨k, rfl⟩ : ∃ m, k = m + 1 := ⟨k - 1, by omega⟩
    simp only [spec_l01New.l0]
    have : ¬ i < 4000 := by omega
    simp only [if_neg this]
    split <;> exact ⟨_, rfl⟩
  | succ d ih =>
    intro k h i h0 h1 hd hk
    obtain ⟨k, rfl⟩ : ∃ m, k = m + 1 := ⟨k - 1, by omega⟩
    rw [spec_l01New.l0]
    by_cases hlt : i < (xs.length : Int)
    · rw [if_pos hlt, if_pos (by omega), if_pos h0, w64 (x := i + 1) (by omega) (by omega)]
      exact ih k _ (i + 1) (by omega) (by omega) (by omega) (by omega)
    · rw [if_neg hlt]; exact ⟨_, rfl⟩
theorem new_c (xs : List Int) (k : Nat) (hk : 4001 ≤ k) : ∃ h, spec_l01New.f k xs = some (xs, 0, h) :=
  newl_c xs 4000 k _ 0 (by omega) (by omega) (by omega) (by omega)
theorem empty_s {W H : Int} (h : Sz W H) : spec_l1Empty.f W H = some (W, H, List.replicate (W * H).toNat 0) := by
  have := h.area
  unfold spec_l1Empty.f
  rw [w64 (by omega) (by omega), if_pos (by omega), if_pos (by omega)]
theorem byte_c (xs : List Int) (hl : xs.length ≤ 140737488351232) (i h : Int) (h0 : 0 ≤ i) (h1 : i ≤ xs.length) : ∃ r i' h', spec_l01Byte.f xs i h = some (r, i', h') ∧ 0 ≤ r ∧ r ≤ 255 ∧ 0 ≤ i' ∧ i' ≤ xs.length := by
  unfold spec_l01Byte.f
  simp only [and255]
  by_cases hlt : i < (xs.length : Int)
  · rw [if_pos hlt, if_pos h0, w64 (x := i + 1) (by omega) (by omega)]
    exact ⟨_, _, _, rfl, Int.emod_nonneg _ (by omega), by have := Int.emod_lt_of_pos (wrap64 ((wrap64 ((Go.bits .xor .i64 ((wrap64 ((wrap64 (h * 6364136223846793005)) + 1442695040888963407)) / 8589934592) ((wrap64 ((wrap64 (h * 6364136223846793005)) + 1442695040888963407)) / 35184372088832)) % 256)) + wrap64 (rd xs i))) (show (0 : Int) < 256 by omega); omega, by omega, by omega⟩
  · rw [if_neg hlt]
    exact ⟨_, _, _, rfl, Int.emod_nonneg _ (by omega), by have := Int.emod_lt_of_pos (Go.bits .xor .i64 ((wrap64 ((wrap64 (h * 6364136223846793005)) + 1442695040888963407)) / 8589934592) ((wrap64 ((wrap64 (h * 6364136223846793005)) + 1442695040888963407)) / 35184372088832)) (show (0 : Int) < 256 by omega); omega, h0, h1⟩
theorem below_c (xs : List Int) (hl : xs.length ≤ 140737488351232) (i h n : Int) (h0 : 0 ≤ i) (h1 : i ≤ xs.length) (hn : 1 ≤ n) (hn2 : n ≤ 256) : ∃ r i' h', spec_l01Below.f xs i h n = some (r, i', h') ∧ 0 ≤ r ∧ r < n ∧ 0 ≤ i' ∧ i' ≤ xs.length := by
  unfold spec_l01Below.f
  rw [if_neg (by omega), if_pos hn2]
  obtain ⟨r, i', h', e, r0, r1, i0, i1⟩ := byte_c xs hl i h h0 h1
  rw [e]; simp only [Option.bind_some]
  rw [if_neg (by omega)]
  have := Int.emod_nonneg r (show n ≠ 0 by omega); have := Int.emod_lt_of_pos r (show 0 < n by omega)
  refine ⟨_, _, _, rfl, ?_, ?_, i0, i1⟩ <;> rw [tmod_pos r0] <;> omega
theorem once_c (xs : List Int) (hl : xs.length ≤ 140737488351232) (i h n : Int) (h0 : 0 ≤ i) (h1 : i ≤ xs.length) (hn : 1 ≤ n) (hn2 : n ≤ 256) : ∃ b i' h', spec_l01Once.f xs i h n = some (b, i', h') ∧ 0 ≤ i' ∧ i' ≤ xs.length := by
  obtain ⟨r, i', h', e, r0, r1, i0, i1⟩ := below_c xs hl i h n h0 h1 hn hn2
  unfold spec_l01Once.f
  rw [e]; exact ⟨_, _, _, rfl, i0, i1⟩
theorem mkl_c (xs : List Int) (hl : xs.length ≤ 140737488351232) {W H : Int} (hs : Sz W H) (q : Int) (q0 : 0 ≤ q) (q1 : q ≤ 3) (d : Nat) : ∀ (k : Nat) (j i h : Int) (M : List Int), 0 ≤ i → i ≤ xs.length → 0 ≤ j → Up W H M 1 → W * H - j = d → d < k →
    ∃ l, spec_MakePlate.l0 k q (W * H) j xs i h W H M = some (W, H, l) ∧ Up W H l 1 := by
  have ha := hs.area
  induction d with
  | zero =>
    intro k j i h M i0 i1 j0 hu hd hk
    obtain ⟨k, rfl⟩ : ∃ m, k = m + 1 := ⟨k - 1, by omega⟩
    rw [spec_MakePlate.l0, if_neg (by omega)]; exact ⟨M, rfl, hu⟩
  | succ d ih =>
    intro k j i h M i0 i1 j0 hu hd hk
    obtain ⟨k, rfl⟩ : ∃ m, k = m + 1 := ⟨k - 1, by omega⟩
    have hln := hu.2.1
    have fin : ∀ r i' h' : Int, 0 ≤ r → r < 2 → 0 ≤ i' → i' ≤ xs.length → ∃ l, (if 0 ≤ j then (if j < (M.length : Int) then spec_MakePlate.l0 k q (W * H) (wrap64 (j + 1)) xs i' h' W H (M.set j.toNat r) else none) else none) = some (W, H, l) ∧ Up W H l 1 := by
      intro r i' h' r0 r1 a0 a1
      rw [if_pos j0, if_pos (by omega), w64 (by omega) (by omega)]
      exact ih k (j + 1) i' h' _ a0 a1 (by omega) (hu.set ⟨r0, by omega⟩) (by omega) (by omega)
    have stay : ∀ i' h' : Int, 0 ≤ i' → i' ≤ xs.length → ∃ l, spec_MakePlate.l0 k q (W * H) (wrap64 (j + 1)) xs i' h' W H M = some (W, H, l) ∧ Up W H l 1 := by
      intro i' h' a0 a1
      rw [w64 (by omega) (by omega)]
      exact ih k (j + 1) i' h' _ a0 a1 (by omega) hu (by omega) (by omega)
    rw [spec_MakePlate.l0, if_pos (by omega)]
    by_cases q2 : 1 < q
    · rw [if_neg (by omega), if_neg (by omega), if_pos (by omega)]
      obtain ⟨r, i', h', e, r0, r1, a0, a1⟩ := below_c xs hl i h 2 i0 i1 (by omega) (by omega)
      rw [e]; exact fin r i' h' r0 r1 a0 a1
    · obtain ⟨b, i', h', e, a0, a1⟩ := once_c xs hl i h 4 i0 i1 (by omega) (by omega)
      obtain ⟨r, i2, h2, e2, r0, r1, c0, c1⟩ := below_c xs hl i' h' 2 a0 a1 (by omega) (by omega)
      by_cases q3 : q = 0
      · rw [if_pos q3, e, Option.bind_some]
        simp only
        by_cases hb : b = true
        · rw [if_pos hb, e2]; exact fin r i2 h2 r0 r1 c0 c1
        · rw [if_neg hb, if_neg (by omega), if_neg (by omega)]; exact stay i' h' a0 a1
      · rw [if_neg q3, if_pos (by omega), e, Option.bind_some]
        simp only
        by_cases hb : b = true
        · rw [if_pos hb, if_neg (by omega)]; exact stay i' h' a0 a1
        · rw [if_neg hb, e2]; exact fin r i2 h2 r0 r1 c0 c1
theorem plate_c (xs : List Int) (hl : xs.length ≤ 140737488351232) (m : Int) (hm : 1 ≤ m) (hm2 : m ≤ 12) {k : Nat} (hk : 5000 ≤ k) : ∃ W H l, spec_MakePlate.f k xs m = some (W, H, l) ∧ W ≤ m ∧ H ≤ m ∧ Up W H l 1 := by
  obtain ⟨h, e⟩ := new_c xs k (by omega)
  have hx : mx 1 (mn m 12) = m := by unfold mx mn; repeat' split
                                     all_goals omega
  unfold spec_MakePlate.f
  rw [e, hx]; simp only [Option.bind_some]
  obtain ⟨a, i1, h1, e1, a0, a1, p0, p1⟩ := below_c xs hl 0 h m (by omega) (by omega) hm (by omega)
  rw [e1]; simp only [Option.bind_some]
  obtain ⟨b, i2, h2, e2, b0, b1, p2, p3⟩ := below_c xs hl i1 h1 m p0 p1 hm (by omega)
  rw [e2]; simp only [Option.bind_some]
  have hs : Sz (1 + a) (1 + b) := ⟨by omega, by omega, by omega, by omega, by have := mul_bd (c := 12) (d := 12) (show 0 ≤ 1 + a by omega) (by omega) (show 0 ≤ 1 + b by omega) (by omega); omega⟩
  have ha := hs.area
  obtain ⟨q, i3, h3, e3, q0, q1, p4, p5⟩ := below_c xs hl i2 h2 4 p2 p3 (by omega) (by omega)
  rw [w64 (x := 1 + a) (by omega) (by omega), w64 (x := 1 + b) (by omega) (by omega), empty_s hs, Option.bind_some, e3]; simp only [Option.bind_some]
  have hu : Up (1 + a) (1 + b) (List.replicate ((1 + a) * (1 + b)).toNat 0) 1 := ⟨hs, by rw [List.length_replicate]; omega, fun v hv => by rw [(List.mem_replicate.mp hv).2]; exact ⟨by omega, by omega⟩⟩
  have hl2 := hu.2.1
  rw [hl2]
  obtain ⟨l, hl3, hu3⟩ := mkl_c xs hl hs q q0 (by omega) ((1 + a) * (1 + b)).toNat k 0 i3 h3 _ p4 p5 (by omega) hu (by omega) (by omega)
  exact ⟨1 + a, 1 + b, l, hl3, by omega, by omega, hu3⟩
theorem totl_c (l : List Int) (hl : l.length ≤ 1048576) {m : Int} (hA : All m l) (hm : m ≤ 1048576) (d : Nat) : ∀ (k : Nat) (s j : Int), 0 ≤ j → j ≤ l.length → (l.length : Int) - j = d → 0 ≤ s → s ≤ j * m → d < k → laws_total.l0 k s l l.length j = some (s + tot (l.drop j.toNat)) := by
  induction d with
  | zero =>
    intro k s j j0 j1 hd s0 s1 hk
    obtain ⟨k, rfl⟩ : ∃ m, k = m + 1 := ⟨k - 1, by omega⟩
    rw [laws_total.l0, if_neg (by omega), drop_end l (by omega)]; simp [tot]
  | succ d ih =>
    intro k s j j0 j1 hd s0 s1 hk
    obtain ⟨k, rfl⟩ : ∃ m, k = m + 1 := ⟨k - 1, by omega⟩
    have hv : 0 ≤ at_ l j ∧ at_ l j ≤ m := hA _ (at_mem j0 (by omega))
    have hb := mul_bd (c := 1048576) (d := 1048576) j0 (by omega) (show 0 ≤ m by omega) hm
    have e : (j + 1) * m = j * m + m := by rw [Int.add_mul, Int.one_mul]
    rw [laws_total.l0, if_pos (by omega), if_pos j0, if_pos (by omega), rd_at, w64 (x := s + _) (by omega) (by omega), w64 (x := j + 1) (by omega) (by omega), ih k _ (j + 1) (by omega) (by omega) (by omega) (by omega) (by omega) (by omega), drop_at l j0 (by omega), tot, Int.add_assoc]
theorem tot_c {l : List Int} (hl : l.length ≤ 1048576) {m : Int} (hA : All m l) (hm : m ≤ 1048576) {k : Nat} (hk : 1100000 ≤ k) : laws_total.f k l = some (tot l) := by
  unfold laws_total.f
  rw [totl_c l hl hA hm l.length k 0 0 (by omega) (by omega) (by omega) (by omega) (by omega) (by omega), Int.zero_add]; rfl
theorem ints_l (l : List Int) (hl : l.length ≤ 1048576) (d : Nat) : ∀ (k : Nat) (j : Int), 0 ≤ j → j ≤ l.length → (l.length : Int) - j = d → d < k → laws_ints.l0 k l l l.length j = some true := by
  induction d with
  | zero =>
    intro k j j0 j1 hd hk
    obtain ⟨k, rfl⟩ : ∃ m, k = m + 1 := ⟨k - 1, by omega⟩
    rw [laws_ints.l0, if_neg (by omega)]
  | succ d ih =>
    intro k j j0 j1 hd hk
    obtain ⟨k, rfl⟩ : ∃ m, k = m + 1 := ⟨k - 1, by omega⟩
    rw [laws_ints.l0, if_pos (by omega), if_pos j0, if_pos (by omega), if_pos (by omega), if_pos rfl, w64 (by omega) (by omega)]
    exact ih k (j + 1) (by omega) (by omega) (by omega) (by omega)
theorem ints_c (l : List Int) (hl : l.length ≤ 1048576) {k : Nat} (hk : 1100000 ≤ k) : laws_ints.f k l l = some true := by
  unfold laws_ints.f; rw [if_pos rfl, ints_l l hl l.length k 0 (by omega) (by omega) (by omega) (by omega)]
theorem same_c (a b : Int) (l : List Int) (hl : l.length ≤ 1048576) {k : Nat} (hk : 1100000 ≤ k) : laws_same.f k a b l a b l = some true := by
  unfold laws_same.f; rw [if_pos rfl, if_pos rfl, ints_c l hl hk]; rfl
theorem within_i {l : List Int} (hl : l.length ≤ 1048576) (m : Int) : impl_within.f l m = some (decide (All m l)) := by
  unfold impl_within.f
  rw [if_pos (by omega)]; simp only [Option.some.injEq]
  rw [Bool.eq_iff_iff, List.all_eq_true, decide_eq_true_iff]
  exact ⟨fun h v hv => of_decide_eq_true (h v hv), fun h v hv => decide_eq_true (h v hv)⟩
theorem size_i (W H : Int) : impl_sized.f W H = some (decide (Sz W H)) := by
  unfold impl_sized.f
  by_cases h : 1 ≤ W ∧ W ≤ 64 ∧ 1 ≤ H ∧ H ≤ 64
  · have := mul_bd (c := 64) (d := 64) (show 0 ≤ W by omega) h.2.1 (show 0 ≤ H by omega) h.2.2.2
    rw [if_pos (by omega), if_pos (by omega), if_pos (by omega), if_pos (by omega), w64 (by omega) (by omega)]
    exact dec_dd (by unfold Sz; omega)
  · repeat' split
    all_goals first | exact dec_ff (by unfold Sz; omega) | (exfalso; omega)
theorem pict_i {W H : Int} {l : List Int} (hl : l.length ≤ 1048576) : impl_IsPicture.f W H l = some (decide (Up W H l 255)) := by
  unfold impl_IsPicture.f
  rw [size_i, Option.bind_some]
  by_cases h : Sz W H
  · have := h.area
    rw [if_pos (decide_eq_true h), w64 (by omega) (by omega), within_i hl]
    by_cases e : (l.length : Int) = W * H
    · rw [if_pos e]; exact dec_dd ⟨fun x => ⟨h, e, x⟩, fun x => x.2.2⟩
    · rw [if_neg e]; exact dec_ff (fun x => e x.2.1)
  · rw [if_neg (by rw [decide_eq_true_iff]; exact h)]; exact dec_ff (fun x => h x.1)
theorem plate_i {W H : Int} {l : List Int} (hl : l.length ≤ 1048576) : impl_IsPlate.f W H l = some (decide (Up W H l 1)) := by
  unfold impl_IsPlate.f
  rw [pict_i hl, Option.bind_some, within_i hl]
  by_cases h : Up W H l 255
  · rw [if_pos (decide_eq_true h)]; exact dec_dd ⟨fun x => ⟨h.1, h.2.1, x⟩, fun x => x.2.2⟩
  · rw [if_neg (by rw [decide_eq_true_iff]; exact h)]; exact dec_ff (fun x => h ⟨x.1, x.2.1, fun v hv => ⟨(x.2.2 v hv).1, by have := (x.2.2 v hv).2; omega⟩⟩)
-- nothing on impl_drawn
theorem one_i (b : Bool) : impl_one.f b = some (if b = true then 1 else 0) := by unfold impl_one.f; split <;> rfl
theorem mod_i {x n : Int} (h0 : 0 < n) (h1 : n ≤ 9223372036854775807) : impl_mod.f x n = some (x % n) := by
  unfold impl_mod.f
  rw [if_neg (by omega)]
  have h2 := Int.emod_nonneg x (show n ≠ 0 by omega)
  have h3 := Int.emod_lt_of_pos x h0
  have e := Int.tmod_eq_emod (a := x) (b := n)
  by_cases hc : 0 ≤ x ∨ n ∣ x
  · rw [if_pos hc] at e
    rw [e, if_neg (by omega)]; simp
  · rw [if_neg hc] at e
    rw [e, if_pos (by omega), w64 (by omega) (by omega)]; simp only [Option.some.injEq]; omega
theorem around1_i {W H : Int} {l : List Int} (h : Up W H l 1) (x y : Int) : impl_around_1.f x y W H l = some (pt W H l x y) := by
  have hs := h.1; have hW := h.1.1; have hW2 := h.1.2.1; have hH := h.1.2.2.1; have hH2 := h.1.2.2.2.1; have hl := h.2.1; have ha := hs.area
  have p := pt_idx hW hH x y
  have b1 := Int.emod_nonneg y (show H ≠ 0 by omega); have b2 := Int.emod_lt_of_pos y (show 0 < H by omega)
  have q := mul_bd (c := 64) (d := 64) b1 (by omega) (show 0 ≤ W by omega) hW2
  unfold impl_around_1.f
  rw [mod_i (by omega) (by omega), Option.bind_some, mod_i (by omega) (by omega), Option.bind_some, w64 (x := y % H * W) (by omega) (by omega), w64 (by omega) (by omega), if_pos p.1, if_pos (by omega), rd_at]; rfl
-- nothing on impl_around_1.drawn
theorem around_i {W H : Int} {l : List Int} (h : Up W H l 1) {x y : Int} (x0 : 0 ≤ x) (x1 : x < W) (y0 : 0 ≤ y) (y1 : y < H) : impl_around.f W H l x y = some (around W H l x y) := by
  have hW2 := h.1.2.1; have hH2 := h.1.2.2.2.1
  have v1 : 0 ≤ pt W H l (x - 1) y ∧ pt W H l (x - 1) y ≤ 1 := pt_in h _ _
  have v2 : 0 ≤ pt W H l (x + 1) y ∧ pt W H l (x + 1) y ≤ 1 := pt_in h _ _
  have v3 : 0 ≤ pt W H l x (y - 1) ∧ pt W H l x (y - 1) ≤ 1 := pt_in h _ _
  have v4 : 0 ≤ pt W H l x (y + 1) ∧ pt W H l x (y + 1) ≤ 1 := pt_in h _ _
  unfold impl_around.f impl_around_1.V.f
  rw [w64 (x := x - 1) (by omega) (by omega), w64 (x := x + 1) (by omega) (by omega), w64 (x := y - 1) (by omega) (by omega), w64 (x := y + 1) (by omega) (by omega), around1_i h, Option.bind_some, around1_i h, Option.bind_some, around1_i h, Option.bind_some, around1_i h, Option.bind_some]
  rw [w64 (x := pt W H l (x - 1) y + pt W H l (x + 1) y) (by omega) (by omega), w64 (x := pt W H l (x - 1) y + pt W H l (x + 1) y + pt W H l x (y - 1)) (by omega) (by omega), w64 (by omega) (by omega)]; rfl
theorem near_bd {W H : Int} {l : List Int} (h : Up W H l 1) (x y : Int) : 0 ≤ around W H l x y ∧ around W H l x y ≤ 4 := by
  have v1 : 0 ≤ pt W H l (x - 1) y ∧ pt W H l (x - 1) y ≤ 1 := pt_in h _ _
  have v2 : 0 ≤ pt W H l (x + 1) y ∧ pt W H l (x + 1) y ≤ 1 := pt_in h _ _
  have v3 : 0 ≤ pt W H l x (y - 1) ∧ pt W H l x (y - 1) ≤ 1 := pt_in h _ _
  have v4 : 0 ≤ pt W H l x (y + 1) ∧ pt W H l x (y + 1) ≤ 1 := pt_in h _ _
  unfold around; omega
-- nothing on impl_GrowPlate_1
-- nothing on impl_GrowPlate_1.drawn
theorem grow_i {W H : Int} {l : List Int} (hl : l.length ≤ 1048576) : impl_GrowPlate.f W H l = some (least W H l 1) := by
  unfold impl_GrowPlate.f least
  rw [plate_i hl, Option.bind_some]
  by_cases h : Up W H l 1
  · have hs := h.1; have hW := h.1.1; have hW2 := h.1.2.1; have hH := h.1.2.2.1; have hH2 := h.1.2.2.2.1; have hln := h.2.1; have ha := hs.area
    rw [if_pos (decide_eq_true h), if_pos h]
    unfold impl_GrowPlate_1.drawn.f
    rw [if_pos (by omega), Ext.gridO_of (g := fun x y => leastF W H l 1 (y * W + x)) hW (by omega) (fun x y x0 x1 y0 y1 => ?_)]
    · simp only [Option.map_some, Option.bind_some]
      have e : Ext.grid W H (fun x y => leastF W H l 1 (y * W + x)) = tab (leastF W H l 1) (W * H).toNat 0 := by
        unfold Ext.grid Ext.pref
        rw [← tab_range]
        apply List.map_congr_left
        intro i _
        show leastF W H l 1 ((i : Int) / W * W + (i : Int) % W) = _
        rw [xy_of]
      rw [e]
    · have hi := xy_idx x0 x1 y0 y1
      have q := mul_bd (c := 64) (d := 64) y0 (by omega) (show 0 ≤ W by omega) hW2
      have hb := near_bd h x y
      have v0 : 0 ≤ at_ l (y * W + x) ∧ at_ l (y * W + x) ≤ 1 := h.2.2 _ (at_mem hi.1 (by omega))
      have e1 : (y * W + x) % W = x := by rw [Int.add_comm, Int.add_mul_emod_self_right, Int.emod_eq_of_lt x0 x1]
      have e2 : (y * W + x) / W = y := by rw [Int.add_comm, Int.add_mul_ediv_right _ _ (by omega), Int.ediv_eq_zero_of_lt x0 x1, Int.zero_add]
      unfold impl_GrowPlate_1.f leastF near
      rw [e1, e2, w64 (x := y * W) (by omega) (by omega), w64 (by omega) (by omega), if_pos hi.1, if_pos (by omega), rd_at, around_i h x0 x1 y0 y1]
      simp only [one_i, Option.bind_some, if_true, decide_eq_true_eq]
      by_cases e : at_ l (y * W + x) = 1
      · rw [if_pos e, if_pos (by omega)]
      · rw [if_neg e]
        by_cases e3 : around W H l x y > 0
        · rw [if_pos e3, if_pos (by omega)]
        · rw [if_neg e3, if_neg (by omega)]
  · rw [if_neg (by rw [decide_eq_true_iff]; exact h), if_neg h]
-- nothing on impl_ShrinkPlate_1
-- nothing on impl_ShrinkPlate_1.drawn
theorem shrink_i {W H : Int} {l : List Int} (hl : l.length ≤ 1048576) : impl_ShrinkPlate.f W H l = some (least W H l 5) := by
  unfold impl_ShrinkPlate.f least
  rw [plate_i hl, Option.bind_some]
  by_cases h : Up W H l 1
  · have hs := h.1; have hW := h.1.1; have hW2 := h.1.2.1; have hH := h.1.2.2.1; have hH2 := h.1.2.2.2.1; have hln := h.2.1; have ha := hs.area
    rw [if_pos (decide_eq_true h), if_pos h]
    unfold impl_ShrinkPlate_1.drawn.f
    rw [if_pos (by omega), Ext.gridO_of (g := fun x y => leastF W H l 5 (y * W + x)) hW (by omega) (fun x y x0 x1 y0 y1 => ?_)]
    · simp only [Option.map_some, Option.bind_some]
      have e : Ext.grid W H (fun x y => leastF W H l 5 (y * W + x)) = tab (leastF W H l 5) (W * H).toNat 0 := by
        unfold Ext.grid Ext.pref
        rw [← tab_range]
        apply List.map_congr_left
        intro i _
        show leastF W H l 5 ((i : Int) / W * W + (i : Int) % W) = _
        rw [xy_of]
      rw [e]
    · have hi := xy_idx x0 x1 y0 y1
      have q := mul_bd (c := 64) (d := 64) y0 (by omega) (show 0 ≤ W by omega) hW2
      have hb := near_bd h x y
      have v0 : 0 ≤ at_ l (y * W + x) ∧ at_ l (y * W + x) ≤ 1 := h.2.2 _ (at_mem hi.1 (by omega))
      have e1 : (y * W + x) % W = x := by rw [Int.add_comm, Int.add_mul_emod_self_right, Int.emod_eq_of_lt x0 x1]
      have e2 : (y * W + x) / W = y := by rw [Int.add_comm, Int.add_mul_ediv_right _ _ (by omega), Int.ediv_eq_zero_of_lt x0 x1, Int.zero_add]
      unfold impl_ShrinkPlate_1.f leastF near
      rw [e1, e2, w64 (x := y * W) (by omega) (by omega), w64 (by omega) (by omega), if_pos hi.1, if_pos (by omega), rd_at, around_i h x0 x1 y0 y1]
      simp only [one_i, Option.bind_some]
      by_cases e : at_ l (y * W + x) = 1
      · rw [if_pos e]
        by_cases e3 : around W H l x y = 4
        · rw [if_pos (beq_iff_eq.mpr e3), if_pos (by omega)]
        · rw [if_neg (by rw [beq_iff_eq]; exact e3), if_neg (by omega)]
      · rw [if_neg e, if_neg (by decide), if_neg (by omega)]
  · rw [if_neg (by rw [decide_eq_true_iff]; exact h), if_neg h]
theorem alike_i (a b c d : Int) {l m : List Int} (hl : l.length ≤ 1048576) (hm : m.length ≤ 1048576) : impl_alike.f a b l c d m = some (decide ((Up a b l 255 ∧ Up c d m 255) ∧ a = c ∧ b = d)) := by
  unfold impl_alike.f
  rw [pict_i hl, Option.bind_some, pict_i hm, Option.bind_some]
  by_cases h : Up a b l 255
  · rw [if_pos (decide_eq_true h)]
    by_cases h2 : Up c d m 255
    · rw [if_pos (decide_eq_true h2)]
      by_cases h3 : a = c
      · rw [if_pos h3]
        by_cases h4 : b = d
        · rw [decide_eq_true (show (Up a b l 255 ∧ Up c d m 255) ∧ a = c ∧ b = d from ⟨⟨h, h2⟩, h3, h4⟩), beq_iff_eq.mpr h4]
        · rw [beq_eq_false_iff_ne.mpr h4]; exact dec_ff (fun x => h4 x.2.2)
      · rw [if_neg h3]; exact dec_ff (fun x => h3 x.2.1)
    · rw [if_neg (by rw [decide_eq_true_iff]; exact h2)]; exact dec_ff (fun x => h2 x.1.2)
  · rw [if_neg (by rw [decide_eq_true_iff]; exact h)]; exact dec_ff (fun x => h x.1.1)
theorem coversl_i {W H : Int} {l m : List Int} (hl : l.length ≤ 1048576) (hm : m.length = l.length) (hle : ∀ i : Int, 0 ≤ i → i < m.length → at_ m i ≤ at_ l i) (d : Nat) : ∀ (k : Nat) (j : Int), 0 ≤ j → j ≤ m.length → (m.length : Int) - j = d → d < k → impl_CoversPicture.l0 k m m.length j W H l = some true := by
  induction d with
  | zero =>
    intro k j j0 j1 hd hk
    obtain ⟨k, rfl⟩ : ∃ m, k = m + 1 := ⟨k - 1, by omega⟩
    rw [impl_CoversPicture.l0, if_neg (by omega)]
  | succ d ih =>
    intro k j j0 j1 hd hk
    obtain ⟨k, rfl⟩ : ∃ m, k = m + 1 := ⟨k - 1, by omega⟩
    have := hle j j0 (by omega)
    rw [impl_CoversPicture.l0, if_pos (by omega), if_pos j0, if_pos (by omega), if_pos (by omega), rd_at, rd_at, if_neg (by omega), w64 (by omega) (by omega)]
    exact ih k (j + 1) (by omega) (by omega) (by omega) (by omega)
theorem covers_i {W H : Int} {l m : List Int} (hl : Up W H l 1) (hm : Up W H m 1) (hle : ∀ i : Int, 0 ≤ i → i < W * H → at_ m i ≤ at_ l i) {k : Nat} (hk : 1100000 ≤ k) : impl_CoversPicture.f k W H l W H m = some true := by
  have ha := hl.1.area; have h1 := hl.2.1; have h2 := hm.2.1
  unfold impl_CoversPicture.f
  rw [alike_i W H W H (by omega) (by omega), Option.bind_some, if_pos (decide_eq_true ⟨⟨up_wide hl, up_wide hm⟩, rfl, rfl⟩), coversl_i (by omega) (by omega) (fun i i0 i1 => hle i i0 (by omega)) m.length k 0 (by omega) (by omega) (by omega) (by omega)]
theorem l1In (x a b : Int) : spec_l1In.f x a b = some (decide (a ≤ x ∧ x ≤ b)) := by
  unfold spec_l1In.f
  split
  all_goals first | exact dec_dd (by omega) | exact dec_ff (by omega)
theorem size_s (W H : Int) : spec_l1Size.f W H = some (decide (Sz W H)) := by
  unfold spec_l1Size.f
  simp only [l1In, Option.bind_some]
  by_cases hW : 1 ≤ W ∧ W ≤ 64
  · by_cases hH : 1 ≤ H ∧ H ≤ 64
    · have := mul_bd (c := 64) (d := 64) (show 0 ≤ W by omega) hW.2 (show 0 ≤ H by omega) hH.2
      rw [if_pos (decide_eq_true hW), if_pos (decide_eq_true hH), w64 (by omega) (by omega)]
      exact dec_dd (by unfold Sz; omega)
    · rw [if_pos (decide_eq_true hW), if_neg (by rw [decide_eq_true_iff]; exact hH)]; exact dec_ff (fun h => hH ⟨h.2.2.1, h.2.2.2.1⟩)
  · rw [if_neg (by rw [decide_eq_true_iff]; exact hW)]; exact dec_ff (fun h => hW ⟨h.1, h.2.1⟩)
theorem up_l (m : Int) (d : Nat) : ∀ (k : Nat) (l : List Int) (i : Int), 0 ≤ i → l.length ≤ 1048576 → i ≤ l.length → (l.length : Int) - i = d → d < k → spec_l1Up.l0 k m l l.length i = some (decide (All m (l.drop i.toNat))) := by
  induction d with
  | zero =>
    intro k l i h0 hl h1 hd hk
    obtain ⟨k, rfl⟩ : ∃ m, k = m + 1 := ⟨k - 1, by omega⟩
    rw [spec_l1Up.l0, if_neg (by omega), List.drop_eq_nil_of_le (by omega)]
    rw [decide_eq_true (show All m [] from fun v h => by simp at h)]
  | succ d ih =>
    intro k l i h0 hl h1 hd hk
    obtain ⟨k, rfl⟩ : ∃ m, k = m + 1 := ⟨k - 1, by omega⟩
    rw [spec_l1Up.l0, if_pos (by omega), if_pos h0, if_pos (by omega), l1In, rd_at, Option.bind_some, drop_at l h0 (by omega), w64 (by omega) (by omega)]
    by_cases h : 0 ≤ at_ l i ∧ at_ l i ≤ m
    · rw [if_pos (decide_eq_true h), ih k l (i + 1) (by omega) hl (by omega) (by omega) (by omega)]
      exact dec_dd (by rw [All.cons]; exact ⟨fun x => ⟨h, x⟩, fun x => x.2⟩)
    · rw [if_neg (by rw [decide_eq_true_iff]; exact h)]; exact dec_ff (fun x => h (All.cons.mp x).1)
theorem up_s {W H : Int} {l : List Int} (hl : l.length ≤ 1048576) (m : Int) {k : Nat} (hk : 1100000 ≤ k) : spec_l1Up.f k W H l m = some (decide (Up W H l m)) := by
  obtain ⟨k, rfl⟩ : ∃ m, k = m + 1 := ⟨k - 1, by omega⟩
  unfold spec_l1Up.f
  rw [size_s, Option.bind_some]
  by_cases h : Sz W H
  · have := h.area
    rw [if_pos (decide_eq_true h), w64 (by omega) (by omega), spec_l1Up.j0]
    by_cases e : (l.length : Int) = W * H
    · rw [if_neg (by rw [bne_iff_ne]; exact fun x => x e), up_l m l.length k l 0 (by omega) hl (by omega) (by omega) (by omega)]
      exact dec_dd ⟨fun x => ⟨h, e, x⟩, fun x => x.2.2⟩
    · rw [if_pos (by rw [bne_iff_ne]; exact e)]; exact dec_ff (fun x => e x.2.1)
  · rw [if_neg (by rw [decide_eq_true_iff]; exact h), spec_l1Up.j0, if_pos rfl]; exact dec_ff (fun x => h x.1)
theorem pict_s {W H : Int} {l : List Int} (hl : l.length ≤ 1048576) {k : Nat} (hk : 1100000 ≤ k) : spec_IsPicture.f k W H l = some (decide (Up W H l 255)) := by
  unfold spec_IsPicture.f; rw [up_s hl 255 hk]; rfl
theorem plate_s {W H : Int} {l : List Int} (hl : l.length ≤ 1048576) {k : Nat} (hk : 1100000 ≤ k) : spec_IsPlate.f k W H l = some (decide (Up W H l 1)) := by
  unfold spec_IsPlate.f; rw [up_s hl 1 hk]; rfl
theorem negl_s {W H : Int} {l : List Int} (hl : l.length ≤ 1024) (hA : All 1 l) (d : Nat) : ∀ (k : Nat) (j : Int) (M : List Int), 0 ≤ j → M.length = l.length → j ≤ M.length → (M.length : Int) - j = d → d < k →
    spec_NegativePicture.l0 k 1 l l.length j W H M = some (W, H, M.take j.toNat ++ tab (fun i => 1 - at_ l i) d j) := by
  induction d with
  | zero =>
    intro k j M j0 hM j1 hd hk
    obtain ⟨k, rfl⟩ : ∃ m, k = m + 1 := ⟨k - 1, by omega⟩
    rw [spec_NegativePicture.l0, if_neg (by omega), tab, List.append_nil, List.take_of_length_le (by omega)]
  | succ d ih =>
    intro k j M j0 hM j1 hd hk
    obtain ⟨k, rfl⟩ : ∃ m, k = m + 1 := ⟨k - 1, by omega⟩
    have hv : 0 ≤ at_ l j ∧ at_ l j ≤ 1 := hA _ (at_mem j0 (by omega))
    rw [spec_NegativePicture.l0, if_pos (by omega), if_pos j0, if_pos (by omega), if_pos (by omega), rd_at, w64 (x := 1 - _) (by omega) (by omega), w64 (x := j + 1) (by omega) (by omega),
      ih k (j + 1) (M.set j.toNat (1 - at_ l j)) (by omega) (by rw [List.length_set]; exact hM) (by rw [List.length_set]; omega) (by rw [List.length_set]; omega) (by omega), tab]
    rw [show (j + 1).toNat = j.toNat + 1 by omega, List.take_succ_eq_append_getElem (by rw [List.length_set]; omega), List.getElem_set, if_pos rfl, List.take_set_of_le (Nat.le_refl _)]
    simp only [List.append_assoc, List.cons_append, List.nil_append]
theorem neg_s {W H : Int} {l : List Int} (h : Up W H l 1) {k : Nat} (hk : 1200000 ≤ k) : spec_NegativePicture.f k W H l = some (W, H, ngv l) := by
  obtain ⟨k, rfl⟩ : ∃ m, k = m + 1 := ⟨k - 1, by omega⟩
  have ha := h.1.area; have hl := h.2.1
  unfold spec_NegativePicture.f
  rw [pict_s (by omega) (by omega), Option.bind_some, if_pos (decide_eq_true (up_wide h)), plate_s (by omega) (by omega), Option.bind_some, if_pos (decide_eq_true h), spec_NegativePicture.j0, empty_s h.1, Option.bind_some]
  show spec_NegativePicture.l0 k 1 l l.length 0 W H (List.replicate (W * H).toNat 0) = _
  rw [negl_s (by omega) h.2.2 (W * H).toNat k 0 _ (by omega) (by rw [List.length_replicate]; omega) (by omega) (by rw [List.length_replicate]; omega) (by omega)]
  unfold ngv
  rw [show l.length = (W * H).toNat by omega]; simp
theorem suml_i {l : List Int} (hl : l.length ≤ 1048576) (hA : All 1 l) (d : Nat) : ∀ (k : Nat) (s j : Int), 0 ≤ j → j ≤ l.length → 0 ≤ s → s ≤ j → (l.length : Int) - j = d → d < k → impl_SumInk.l0 k s l l.length j = some (s + cnt 1 (l.drop j.toNat)) := by
  induction d with
  | zero =>
    intro k s j j0 j1 s0 s1 hd hk
    obtain ⟨k, rfl⟩ : ∃ m, k = m + 1 := ⟨k - 1, by omega⟩
    rw [impl_SumInk.l0, if_neg (by omega), drop_end l (by omega)]; simp [cnt]
  | succ d ih =>
    intro k s j j0 j1 s0 s1 hd hk
    obtain ⟨k, rfl⟩ : ∃ m, k = m + 1 := ⟨k - 1, by omega⟩
    have ha : 0 ≤ at_ l j ∧ at_ l j ≤ 1 := hA _ (at_mem j0 (by omega))
    rw [impl_SumInk.l0, if_pos (by omega), if_pos j0, if_pos (by omega), drop_at l j0 (by omega), rd_at, w64 (x := s + _) (by omega) (by omega), w64 (x := j + 1) (by omega) (by omega), ih k _ (j + 1) (by omega) (by omega) (by omega) (by omega) (by omega) (by omega), cnt]
    split <;> (simp only [Option.some.injEq]; omega)
theorem sum_i {W H : Int} {l : List Int} (h : Up W H l 1) {k : Nat} (hk : 1100000 ≤ k) : impl_SumInk.f k W H l = some ((cnt 1 l : Nat) : Int) := by
  have := h.1.area; have := h.2.1
  unfold impl_SumInk.f
  rw [pict_i (by omega), Option.bind_some, if_pos (decide_eq_true ⟨h.1, h.2.1, fun v hv => ⟨(h.2.2 v hv).1, by have := (h.2.2 v hv).2; omega⟩⟩), suml_i (by omega) h.2.2 l.length k 0 0 (by omega) (by omega) (by omega) (by omega) (by omega) (by omega), Int.zero_add]; rfl
def gain (W H : Int) (l : List Int) : Int := if Up W H l 1 then wrap64 ((cnt 1 (tab (leastF W H l 1) (W * H).toNat 0) : Nat) - (cnt 1 l : Nat) : Int) else 0
theorem gain_i {W H : Int} {l : List Int} (hl : l.length ≤ 1048576) {k : Nat} (hk : 1100000 ≤ k) : impl_GainOf.f k W H l = some (gain W H l) := by
  unfold impl_GainOf.f gain
  rw [plate_i hl, Option.bind_some]
  by_cases h : Up W H l 1
  · rw [if_pos (decide_eq_true h), if_pos h, grow_i hl, Option.bind_some]
    unfold least; rw [if_pos h]
    show (impl_SumInk.f k W H (tab (leastF W H l 1) (W * H).toNat 0)).bind _ = _
    rw [sum_i (least_up h 1) hk, Option.bind_some, sum_i h hk, Option.bind_some]
  · rw [if_neg (by rw [decide_eq_true_iff]; exact h), if_neg h]
theorem pure_FnGrown (l0 : List Int) (h0 : l0.length ≤ maxLen) (hl : l0.length * 1 ≤ 140737488351232) (hw : ∀ x ∈ l0, (Lit.int .u8 x).wf = true) : ∃ k, laws_FnGrown.f k l0 = some true := by
  obtain ⟨m, hm⟩ : ∃ m : Nat, 4000000 ≤ m := ⟨4000000, Nat.le_refl _⟩
  refine ⟨m + 8, ?_⟩
  unfold laws_FnGrown.f
  by_cases h : (l0.length : Int) > 1048576
  · rw [if_pos h]
  · rw [if_neg h]
    obtain ⟨W, H, l, e, hW, hH, hu⟩ := plate_c l0 (by omega) 8 (by omega) (by omega) (k := m + 8) (by omega)
    rw [e]; simp only [Option.bind_some]
    have ha := hu.1.area; have hln := hu.2.1
    have gs : ∀ {r : List Int} (n : Int), Up W H r 1 → least W H r n = (W, H, lst W H r n) := fun n hr => by unfold least; rw [if_pos hr]; rfl
    have g1 := lst_up hu 1; have g5 := lst_up hu 5; have g15 := lst_up g1 5; have gn := ngv_up hu
    have q1 := g1.2.1; have q5 := g5.2.1; have q15 := g15.2.1; have qn := gn.2.1
    rw [grow_i (by omega), Option.bind_some, gs 1 hu, shrink_i (by omega), Option.bind_some, gs 5 hu]
    simp only
    rw [covers_i g1 hu (fun i i0 i1 => grow_covers hu i0 i1) (by omega), Option.bind_some, if_pos rfl, covers_i hu g5 (fun i i0 i1 => shrink_covered hu i0 i1) (by omega), Option.bind_some, if_pos rfl, shrink_i (by omega), Option.bind_some, gs 5 g1]
    simp only
    rw [covers_i g15 hu (fun i i0 i1 => closing hu i0 i1) (by omega), Option.bind_some, laws_FnGrown.j0, if_neg (by decide), neg_s hu (by omega), Option.bind_some, gain_i (by omega) (by omega), Option.bind_some, neg_s g5 (by omega), Option.bind_some]
    simp only
    rw [grow_i (by omega), Option.bind_some, gs 1 gn]
    simp only
    have hg : gain W H l = tot (lst W H l 1) - tot l := by
      have b1 := tot_bd g1.2.2; have b2 := tot_bd hu.2.2
      unfold gain; rw [if_pos hu]
      show wrap64 (((cnt 1 (lst W H l 1) : Nat) : Int) - ((cnt 1 l : Nat) : Int)) = _
      rw [cnt_tot g1.2.2, cnt_tot hu.2.2, w64 (by omega) (by omega)]
    have hb := gain_bd hu
    have b1 := tot_bd g1.2.2; have b2 := tot_bd hu.2.2
    rw [ngv_grow hu, same_c W H _ (by have := (lst_up gn 1).2.1; omega) (by omega), Option.bind_some, if_pos rfl, sum_i g1 (by omega), Option.bind_some, tot_c (by omega) hu.2.2 (by omega) (by omega), Option.bind_some, cnt_tot g1.2.2, w64 (x := tot (lst W H l 1) - tot l) (by omega) (by omega), if_pos hg, hg, if_pos (by omega), Option.bind_some, w64 (x := 4 * tot l) (by omega) (by omega), decide_eq_true (by omega)]
end Go.Proofs.Ytheihidfbalioaa.PFnGrown
