/- What the functions that laws.FnRuns reaches compute, and that the law is true: over numbers alone. -/
import Derived.Test.YtheihidfbalioaaPFnRunsx
import Derived.Test.YtheihidfbalioaaPic2
import Derived.Laws.Strings
namespace Go.Proofs.Ytheihidfbalioaa.PFnRuns
open Go.RowKit Go.Proofs.YtheihidfbalioaaW.PrintWords Go.Proofs.YtheihidfbalioaaW.PrintLast Go.Proofs.YtheihidfbalioaaW.PrintMore
set_option linter.unusedVariables false
set_option linter.unusedSimpArgs false
set_option linter.unusedSimpArgs false
open Pic
theorem w64 {x : Int} (h1 : -9223372036854775808 ≤ x) (h2 : x ≤ 9223372036854775807) : wrap64 x = x := by unfold wrap64; omega
theorem rd_at (l : List Int) (i : Int) : rd l i = at_ l i := rfl
theorem tmod_pos {n x : Int} (h : 0 ≤ x) : Int.tmod x n = x % n := Int.tmod_eq_emod_of_nonneg h
theorem tdiv_pos {n x : Int} (h : 0 ≤ x) : Int.tdiv x n = x / n := Int.tdiv_eq_ediv_of_nonneg h
theorem dec_ff {p : Prop} [Decidable p] (h : ¬ p) : some false = some (decide p) := by rw [decide_eq_false h]
theorem dec_dd {p q : Prop} [Decidable p] [Decidable q] (h : p ↔ q) : some (decide p) = some (decide q) := by rw [decide_eq_decide.mpr h]
theorem mn_eq (a b : Int) : mn a b = if b < a then b else a := rfl
theorem up_wide {W H : Int} {l : List Int} (h : Up W H l 1) : Up W H l 255 := ⟨h.1, h.2.1, fun v hv => ⟨(h.2.2 v hv).1, by have := (h.2.2 v hv).2; omega⟩⟩
theorem mk_neg (n : Nat) : ¬ ((1 : Int) + n < 0) := by omega
theorem and255 (n : Int) : Go.bits .and .i64 n 255 = n % 256 := by
  have h255 : (BitVec.ofInt 64 255).toNat = 2 ^ 8 - 1 := by decide
  have key : (BitVec.ofInt 64 n &&& BitVec.ofInt 64 255).toNat = (n % ((2 ^ 64 : Nat) : Int)).toNat % 2 ^ 8 := by
    rw [BitVec.toNat_and, BitVec.toNat_ofInt, h255, Nat.and_two_pow_sub_one_eq_mod]
  show IntKind.i64.wrap ((BitVec.ofInt 64 n &&& BitVec.ofInt 64 255).toNat : Nat) = n % 256
  rw [key, IntKind.wrap_i64]
  omega
theorem newl_c (xs : List Int) (d : Nat) : ∀ (k : Nat) (h i : Int), 0 ≤ i → i ≤ 4000 → 4000 - i = d → d < k → ∃ h', spec_l01New.l0 k xs h i = some (xs, 0, h') := by
  induction d with
  | zero =>
    intro k h i h0 h1 hd hk
    obtain ⟨k, rfl⟩ : ∃ m, k = m + 1 := ⟨k - 1, by omega⟩
    simp only [spec_l01New.l0]
    have : ¬ i < 4000 := by omega
    simp only [if_neg this]
    split <;> exact ⟨_, rfl⟩
  | succ d ih =>
    intro k h i h0 h1 hd hk
    obtain ⟨k, rfl⟩ : ∃ m, k = m + 1 := ⟨k - 1, by omega⟩
    rw [spec_l01New.l0]
    by_cases hlt : i < (xs.length : Int)
    · rw [if_pos hlt, if_pos (by omega), if_pos h0, w64 (x := i + 1) (by omega) (by omega)]
      exact ih k _ (i + 1) (by omega) (by omega) (by omega) (by omega)
    · rw [if_neg hlt]; exact ⟨_, rfl⟩
theorem new_c (xs : List Int) (k : Nat) (hk : 4001 ≤ k) : ∃ h, spec_l01New.f k xs = some (xs, 0, h) :=
  newl_c xs 4000 k _ 0 (by omega) (by omega) (by omega) (by omega)
theorem empty_s {W H : Int} (h : Sz W H) : spec_l1Empty.f W H = some (W, H, List.replicate (W * H).toNat 0) := by
  have := h.area
  unfold spec_l1Empty.f
  rw [w64 (by omega) (by omega), if_pos (by omega), if_pos (by omega)]
theorem byte_c (xs : List Int) (hl : xs.length ≤ 140737488351232) (i h : Int) (h0 : 0 ≤ i) (h1 : i ≤ xs.length) : ∃ r i' h', spec_l01Byte.f xs i h = some (r, i', h') ∧ 0 ≤ r ∧ r ≤ 255 ∧ 0 ≤ i' ∧ i' ≤ xs.length := by
  unfold spec_l01Byte.f
  simp only [and255]
  by_cases hlt : i < (xs.length : Int)
  · rw [if_pos hlt, if_pos h0, w64 (x := i + 1) (by omega) (by omega)]
    exact ⟨_, _, _, rfl, Int.emod_nonneg _ (by omega), by have := Int.emod_lt_of_pos (wrap64 ((wrap64 ((Go.bits .xor .i64 ((wrap64 ((wrap64 (h * 6364136223846793005)) + 1442695040888963407)) / 8589934592) ((wrap64 ((wrap64 (h * 6364136223846793005)) + 1442695040888963407)) / 35184372088832)) % 256)) + wrap64 (rd xs i))) (show (0 : Int) < 256 by omega); omega, by omega, by omega⟩
  · rw [if_neg hlt]
    exact ⟨_, _, _, rfl, Int.emod_nonneg _ (by omega), by have := Int.emod_lt_of_pos (Go.bits .xor .i64 ((wrap64 ((wrap64 (h * 6364136223846793005)) + 1442695040888963407)) / 8589934592) ((wrap64 ((wrap64 (h * 6364136223846793005)) + 1442695040888963407)) / 35184372088832)) (show (0 : Int) < 256 by omega); omega, h0, h1⟩
theorem below_c (xs : List Int) (hl : xs.length ≤ 140737488351232) (i h n : Int) (h0 : 0 ≤ i) (h1 : i ≤ xs.length) (hn : 1 ≤ n) (hn2 : n ≤ 256) : ∃ r i' h', spec_l01Below.f xs i h n = some (r, i', h') ∧ 0 ≤ r ∧ r < n ∧ 0 ≤ i' ∧ i' ≤ xs.length := by
  unfold spec_l01Below.f
  rw [if_neg (by omega), if_pos hn2]
  obtain ⟨r, i', h', e, r0, r1, i0, i1⟩ := byte_c xs hl i h h0 h1
  rw [e]; simp only [Option.bind_some]
  rw [if_neg (by omega)]
  have := Int.emod_nonneg r (show n ≠ 0 by omega); have := Int.emod_lt_of_pos r (show 0 < n by omega)
  refine ⟨_, _, _, rfl, ?_, ?_, i0, i1⟩ <;> rw [tmod_pos r0] <;> omega
theorem once_c (xs : List Int) (hl : xs.length ≤ 140737488351232) (i h n : Int) (h0 : 0 ≤ i) (h1 : i ≤ xs.length) (hn : 1 ≤ n) (hn2 : n ≤ 256) : ∃ b i' h', spec_l01Once.f xs i h n = some (b, i', h') ∧ 0 ≤ i' ∧ i' ≤ xs.length := by
  obtain ⟨r, i', h', e, r0, r1, i0, i1⟩ := below_c xs hl i h n h0 h1 hn hn2
  unfold spec_l01Once.f
  rw [e]; exact ⟨_, _, _, rfl, i0, i1⟩
theorem mkl_c (xs : List Int) (hl : xs.length ≤ 140737488351232) {W H : Int} (hs : Sz W H) (q : Int) (q0 : 0 ≤ q) (q1 : q ≤ 3) (d : Nat) : ∀ (k : Nat) (j i h : Int) (M : List Int), 0 ≤ i → i ≤ xs.length → 0 ≤ j → Up W H M 1 → W * H - j = d → d < k →
    ∃ l, spec_MakePlate.l0 k q (W * H) j xs i h W H M = some (W, H, l) ∧ Up W H l 1 := by
  have ha := hs.area
  induction d with
  | zero =>
    intro k j i h M i0 i1 j0 hu hd hk
    obtain ⟨k, rfl⟩ : ∃ m, k = m + 1 := ⟨k - 1, by omega⟩
    rw [spec_MakePlate.l0, if_neg (by omega)]; exact ⟨M, rfl, hu⟩
  | succ d ih =>
    intro k j i h M i0 i1 j0 hu hd hk
    obtain ⟨k, rfl⟩ : ∃ m, k = m + 1 := ⟨k - 1, by omega⟩
    have hln := hu.2.1
    have fin : ∀ r i' h' : Int, 0 ≤ r → r < 2 → 0 ≤ i' → i' ≤ xs.length → ∃ l, (if 0 ≤ j then (if j < (M.length : Int) then spec_MakePlate.l0 k q (W * H) (wrap64 (j + 1)) xs i' h' W H (M.set j.toNat r) else none) else none) = some (W, H, l) ∧ Up W H l 1 := by
      intro r i' h' r0 r1 a0 a1
      rw [if_pos j0, if_pos (by omega), w64 (by omega) (by omega)]
      exact ih k (j + 1) i' h' _ a0 a1 (by omega) (hu.set ⟨r0, by omega⟩) (by omega) (by omega)
    have stay : ∀ i' h' : Int, 0 ≤ i' → i' ≤ xs.length → ∃ l, spec_MakePlate.l0 k q (W * H) (wrap64 (j + 1)) xs i' h' W H M = some (W, H, l) ∧ Up W H l 1 := by
      intro i' h' a0 a1
      rw [w64 (by omega) (by omega)]
      exact ih k (j + 1) i' h' _ a0 a1 (by omega) hu (by omega) (by omega)
    rw [spec_MakePlate.l0, if_pos (by omega)]
    by_cases q2 : 1 < q
    · rw [if_neg (by omega), if_neg (by omega), if_pos (by omega)]
      obtain ⟨r, i', h', e, r0, r1, a0, a1⟩ := below_c xs hl i h 2 i0 i1 (by omega) (by omega)
      rw [e]; exact fin r i' h' r0 r1 a0 a1
    · obtain ⟨b, i', h', e, a0, a1⟩ := once_c xs hl i h 4 i0 i1 (by omega) (by omega)
      obtain ⟨r, i2, h2, e2, r0, r1, c0, c1⟩ := below_c xs hl i' h' 2 a0 a1 (by omega) (by omega)
      by_cases q3 : q = 0
      · rw [if_pos q3, e, Option.bind_some]
        simp only
        by_cases hb : b = true
        · rw [if_pos hb, e2]; exact fin r i2 h2 r0 r1 c0 c1
        · rw [if_neg hb, if_neg (by omega), if_neg (by omega)]; exact stay i' h' a0 a1
      · rw [if_neg q3, if_pos (by omega), e, Option.bind_some]
        simp only
        by_cases hb : b = true
        · rw [if_pos hb, if_neg (by omega)]; exact stay i' h' a0 a1
        · rw [if_neg hb, e2]; exact fin r i2 h2 r0 r1 c0 c1
theorem plate_c (xs : List Int) (hl : xs.length ≤ 140737488351232) (m : Int) (hm : 1 ≤ m) (hm2 : m ≤ 12) {k : Nat} (hk : 5000 ≤ k) : ∃ W H l, spec_MakePlate.f k xs m = some (W, H, l) ∧ W ≤ m ∧ H ≤ m ∧ Up W H l 1 := by
  obtain ⟨h, e⟩ := new_c xs k (by omega)
  have hx : mx 1 (mn m 12) = m := by unfold mx mn; repeat' split
                                     all_goals omega
  unfold spec_MakePlate.f
  rw [e, hx]; simp only [Option.bind_some]
  obtain ⟨a, i1, h1, e1, a0, a1, p0, p1⟩ := below_c xs hl 0 h m (by omega) (by omega) hm (by omega)
  rw [e1]; simp only [Option.bind_some]
  obtain ⟨b, i2, h2, e2, b0, b1, p2, p3⟩ := below_c xs hl i1 h1 m p0 p1 hm (by omega)
  rw [e2]; simp only [Option.bind_some]
  have hs : Sz (1 + a) (1 + b) := ⟨by omega, by omega, by omega, by omega, by have := mul_bd (c := 12) (d := 12) (show 0 ≤ 1 + a by omega) (by omega) (show 0 ≤ 1 + b by omega) (by omega); omega⟩
  have ha := hs.area
  obtain ⟨q, i3, h3, e3, q0, q1, p4, p5⟩ := below_c xs hl i2 h2 4 p2 p3 (by omega) (by omega)
  rw [w64 (x := 1 + a) (by omega) (by omega), w64 (x := 1 + b) (by omega) (by omega), empty_s hs, Option.bind_some, e3]; simp only [Option.bind_some]
  have hu : Up (1 + a) (1 + b) (List.replicate ((1 + a) * (1 + b)).toNat 0) 1 := ⟨hs, by rw [List.length_replicate]; omega, fun v hv => by rw [(List.mem_replicate.mp hv).2]; exact ⟨by omega, by omega⟩⟩
  have hl2 := hu.2.1
  rw [hl2]
  obtain ⟨l, hl3, hu3⟩ := mkl_c xs hl hs q q0 (by omega) ((1 + a) * (1 + b)).toNat k 0 i3 h3 _ p4 p5 (by omega) hu (by omega) (by omega)
  exact ⟨1 + a, 1 + b, l, hl3, by omega, by omega, hu3⟩
theorem totl_c (l : List Int) (hl : l.length ≤ 1048576) {m : Int} (hA : All m l) (hm : m ≤ 1048576) (d : Nat) : ∀ (k : Nat) (s j : Int), 0 ≤ j → j ≤ l.length → (l.length : Int) - j = d → 0 ≤ s → s ≤ j * m → d < k → laws_total.l0 k s l l.length j = some (s + tot (l.drop j.toNat)) := by
  induction d with
  | zero =>
    intro k s j j0 j1 hd s0 s1 hk
    obtain ⟨k, rfl⟩ : ∃ m, k = m + 1 := ⟨k - 1, by omega⟩
    rw [laws_total.l0, if_neg (by omega), drop_end l (by omega)]; simp [tot]
  | succ d ih =>
    intro k s j j0 j1 hd s0 s1 hk
    obtain ⟨k, rfl⟩ : ∃ m, k = m + 1 := ⟨k - 1, by omega⟩
    have hv : 0 ≤ at_ l j ∧ at_ l j ≤ m := hA _ (at_mem j0 (by omega))
    have hb := mul_bd (c := 1048576) (d := 1048576) j0 (by omega) (show 0 ≤ m by omega) hm
    have e : (j + 1) * m = j * m + m := by rw [Int.add_mul, Int.one_mul]
    rw [laws_total.l0, if_pos (by omega), if_pos j0, if_pos (by omega), rd_at, w64 (x := s + _) (by omega) (by omega), w64 (x := j + 1) (by omega) (by omega), ih k _ (j + 1) (by omega) (by omega) (by omega) (by omega) (by omega) (by omega), drop_at l j0 (by omega), tot, Int.add_assoc]
theorem tot_c {l : List Int} (hl : l.length ≤ 1048576) {m : Int} (hA : All m l) (hm : m ≤ 1048576) {k : Nat} (hk : 1100000 ≤ k) : laws_total.f k l = some (tot l) := by
  unfold laws_total.f
  rw [totl_c l hl hA hm l.length k 0 0 (by omega) (by omega) (by omega) (by omega) (by omega) (by omega), Int.zero_add]; rfl
theorem ints_l (l : List Int) (hl : l.length ≤ 1048576) (d : Nat) : ∀ (k : Nat) (j : Int), 0 ≤ j → j ≤ l.length → (l.length : Int) - j = d → d < k → laws_ints.l0 k l l l.length j = some true := by
  induction d with
  | zero =>
    intro k j j0 j1 hd hk
    obtain ⟨k, rfl⟩ : ∃ m, k = m + 1 := ⟨k - 1, by omega⟩
    rw [laws_ints.l0, if_neg (by omega)]
  | succ d ih =>
    intro k j j0 j1 hd hk
    obtain ⟨k, rfl⟩ : ∃ m, k = m + 1 := ⟨k - 1, by omega⟩
    rw [laws_ints.l0, if_pos (by omega), if_pos j0, if_pos (by omega), if_pos (by omega), if_pos rfl, w64 (by omega) (by omega)]
    exact ih k (j + 1) (by omega) (by omega) (by omega) (by omega)
theorem ints_c (l : List Int) (hl : l.length ≤ 1048576) {k : Nat} (hk : 1100000 ≤ k) : laws_ints.f k l l = some true := by
  unfold laws_ints.f; rw [if_pos rfl, ints_l l hl l.length k 0 (by omega) (by omega) (by omega) (by omega)]
theorem same_c (a b : Int) (l : List Int) (hl : l.length ≤ 1048576) {k : Nat} (hk : 1100000 ≤ k) : laws_same.f k a b l a b l = some true := by
  unfold laws_same.f; rw [if_pos rfl, if_pos rfl, ints_c l hl hk]; rfl
theorem within_i {l : List Int} (hl : l.length ≤ 1048576) (m : Int) : impl_within.f l m = some (decide (All m l)) := by
  unfold impl_within.f
  rw [if_pos (by omega)]; simp only [Option.some.injEq]
  rw [Bool.eq_iff_iff, List.all_eq_true, decide_eq_true_iff]
  exact ⟨fun h v hv => of_decide_eq_true (h v hv), fun h v hv => decide_eq_true (h v hv)⟩
theorem size_i (W H : Int) : impl_sized.f W H = some (decide (Sz W H)) := by
  unfold impl_sized.f
  by_cases h : 1 ≤ W ∧ W ≤ 64 ∧ 1 ≤ H ∧ H ≤ 64
  · have := mul_bd (c := 64) (d := 64) (show 0 ≤ W by omega) h.2.1 (show 0 ≤ H by omega) h.2.2.2
    rw [if_pos (by omega), if_pos (by omega), if_pos (by omega), if_pos (by omega), w64 (by omega) (by omega)]
    exact dec_dd (by unfold Sz; omega)
  · repeat' split
    all_goals first | exact dec_ff (by unfold Sz; omega) | (exfalso; omega)
theorem pict_i {W H : Int} {l : List Int} (hl : l.length ≤ 1048576) : impl_IsPicture.f W H l = some (decide (Up W H l 255)) := by
  unfold impl_IsPicture.f
  rw [size_i, Option.bind_some]
  by_cases h : Sz W H
  · have := h.area
    rw [if_pos (decide_eq_true h), w64 (by omega) (by omega), within_i hl]
    by_cases e : (l.length : Int) = W * H
    · rw [if_pos e]; exact dec_dd ⟨fun x => ⟨h, e, x⟩, fun x => x.2.2⟩
    · rw [if_neg e]; exact dec_ff (fun x => e x.2.1)
  · rw [if_neg (by rw [decide_eq_true_iff]; exact h)]; exact dec_ff (fun x => h x.1)
theorem plate_i {W H : Int} {l : List Int} (hl : l.length ≤ 1048576) : impl_IsPlate.f W H l = some (decide (Up W H l 1)) := by
  unfold impl_IsPlate.f
  rw [pict_i hl, Option.bind_some, within_i hl]
  by_cases h : Up W H l 255
  · rw [if_pos (decide_eq_true h)]; exact dec_dd ⟨fun x => ⟨h.1, h.2.1, x⟩, fun x => x.2.2⟩
  · rw [if_neg (by rw [decide_eq_true_iff]; exact h)]; exact dec_ff (fun x => h ⟨x.1, x.2.1, fun v hv => ⟨(x.2.2 v hv).1, by have := (x.2.2 v hv).2; omega⟩⟩)
def bump (rs : List Int) : List Int := rs.set ((rs.length : Int) - 1).toNat (wrap64 (at_ rs ((rs.length : Int) - 1) + 1))
theorem bump_len (rs : List Int) : (bump rs).length = rs.length := by unfold bump; exact List.length_set
def runL : List Int → List Int → Int → List Int
  | [], rs, _ => rs
  | v :: r, rs, c => if v = c then runL r (bump rs) c else runL r (bump (rs ++ [0])) v
theorem runL_len : ∀ (r rs : List Int) (c : Int), (runL r rs c).length ≤ rs.length + r.length := by
  intro r
  induction r with
  | nil => intro rs c; exact Nat.le_refl _
  | cons v r ih =>
    intro rs c
    unfold runL
    split
    · have := ih (bump rs) c; rw [bump_len] at this; rw [List.length_cons]; omega
    · have := ih (bump (rs ++ [0])) v; rw [bump_len, List.length_append] at this; rw [List.length_cons]; simp at this; omega
def runsOf (W H : Int) (l : List Int) : List Int := if Up W H l 1 then runL l [0] 0 else []
theorem runsOf_len (W H : Int) (l : List Int) : (runsOf W H l).length ≤ 1048576 := by
  unfold runsOf; split
  · rename_i h
    have := runL_len l [0] 0
    have := h.1.area; have := h.2.1
    simp at *; omega
  · exact Nat.zero_le _
theorem runsl_i {L : List Int} (hL : L.length ≤ 1048576) (d : Nat) : ∀ (k : Nat) (rs : List Int) (c j : Int), 0 ≤ j → j ≤ L.length → (L.length : Int) - j = d → 1 ≤ rs.length → rs.length ≤ j + 1 → d < k →
    impl_RunsOf.l0 k rs c L L.length j = some (runL (L.drop j.toNat) rs c) := by
  induction d with
  | zero =>
    intro k rs c j j0 j1 hd r0 r1 hk
    obtain ⟨k, rfl⟩ : ∃ m, k = m + 1 := ⟨k - 1, by omega⟩
    rw [impl_RunsOf.l0, if_neg (by omega), drop_end L (by omega)]; rfl
  | succ d ih =>
    intro k rs c j j0 j1 hd r0 r1 hk
    obtain ⟨k, rfl⟩ : ∃ m, k = m + 1 := ⟨k - 1, by omega⟩
    rw [impl_RunsOf.l0, if_pos (by omega), if_pos j0, if_pos (by omega), drop_at L j0 (by omega), w64 (x := j + 1) (by omega) (by omega), rd_at, runL]
    by_cases e : at_ L j = c
    · rw [if_pos e, if_pos e, w64 (x := (rs.length : Int) - 1) (by omega) (by omega), if_pos (by omega), if_pos (by omega), rd_at]
      exact ih k (bump rs) c (j + 1) (by omega) (by omega) (by omega) (by rw [bump_len]; omega) (by rw [bump_len]; omega) (by omega)
    · rw [if_neg e, if_neg e, if_pos (by omega), Option.bind_some, w64 (x := ((rs ++ [(0 : Int)]).length : Int) - 1) (by simp <;> omega) (by simp <;> omega), if_pos (by simp), if_pos (by omega), rd_at]
      exact ih k (bump (rs ++ [0])) (at_ L j) (j + 1) (by omega) (by omega) (by omega) (by rw [bump_len]; simp) (by rw [bump_len]; simp; omega) (by omega)
theorem runs_i {W H : Int} {l : List Int} (hl : l.length ≤ 1048576) {k : Nat} (hk : 1100000 ≤ k) : impl_RunsOf.f k W H l = some (runsOf W H l) := by
  unfold impl_RunsOf.f runsOf
  rw [plate_i hl, Option.bind_some]
  by_cases h : Up W H l 1
  · rw [if_pos (decide_eq_true h), if_pos h]
    exact runsl_i hl l.length k [0] 0 0 (by omega) (by omega) (by omega) (by simp) (by simp) (by omega)
  · rw [if_neg (by rw [decide_eq_true_iff]; exact h), if_neg h]
/-- the plate that runs tell, of N points -/
def prL (N : Int) : List Int → Int → List Int → Option (List Int)
  | [], _, out => if (out.length : Int) = N then some out else none
  | n :: r, i, out => if n < 0 ∨ (n = 0 ∧ 0 < i) ∨ N - out.length < n then none else prL N r (i + 1) (out ++ List.replicate n.toNat (i % 2))
def prR (W H : Int) (o : Option (List Int)) : Int × Int × List Int × Bool := match o with | some l => (W, H, l, true) | none => (0, 0, [], false)
def plateOfRuns (W H : Int) (l : List Int) : Int × Int × List Int × Bool := if Sz W H then prR W H (prL (W * H) l 0 []) else (0, 0, [], false)
theorem prL_len {N : Int} : ∀ (r : List Int) (i : Int) (out l : List Int), prL N r i out = some l → (l.length : Int) = N ∧ ((0 < i → (out.length : Int) + r.length ≤ N) ∧ (0 ≤ i → (out.length : Int) + r.length ≤ N + 1)) := by
  intro r
  induction r with
  | nil =>
    intro i out l h
    unfold prL at h
    split at h
    · rename_i e
      injection h with h; subst h
      refine ⟨e, fun _ => ?_, fun _ => ?_⟩ <;> simp <;> omega
    · exact absurd h (by simp)
  | cons n r ih =>
    intro i out l h
    unfold prL at h
    split at h
    · exact absurd h (by simp)
    · rename_i e
      have := ih _ _ _ h
      rw [List.length_append, List.length_replicate] at this
      refine ⟨this.1, fun h0 => ?_, fun h0 => ?_⟩
      · have := this.2.1 (by omega); rw [List.length_cons]; omega
      · have := this.2.1 (by omega); rw [List.length_cons]; omega
theorem plateOfRuns_len (W H : Int) (l : List Int) : (plateOfRuns W H l).2.2.1.length ≤ 1048576 := by
  unfold plateOfRuns; split
  · rename_i h
    have ha := h.area
    cases e : prL (W * H) l 0 [] with
    | none => exact Nat.zero_le _
    | some o => have := (prL_len _ _ _ _ e).1; show o.length ≤ _; omega
  · exact Nat.zero_le _
theorem all_app {m v : Int} {l : List Int} {n : Nat} (h : All m l) (hv : In m v) : All m (l ++ List.replicate n v) := by
  intro x hx
  rcases List.mem_append.mp hx with e | e
  · exact h x e
  · rw [(List.mem_replicate.mp e).2]; exact hv
theorem prl1_i {W H : Int} (h : Sz W H) (X : List Int) (n p i : Int) (hi : 0 ≤ i) (hn : n ≤ 1024) (d : Nat) : ∀ (k : Nat) (j : Int) (out : List Int), 0 ≤ j → n - j = d → (out.length : Int) + d ≤ W * H → d < k → ∃ m, k ≤ m + d + 1 ∧
    impl_PlateOfRuns.l1 k W H i X X.length p n j W H out = impl_PlateOfRuns.l0 m W H X X.length (wrap64 (p + 1)) W H (out ++ List.replicate d (i % 2)) := by
  have ha := h.area
  induction d with
  | zero =>
    intro k j out hj hd ho hk
    obtain ⟨k, rfl⟩ : ∃ m, k = m + 1 := ⟨k - 1, by omega⟩
    refine ⟨k, by omega, ?_⟩
    rw [impl_PlateOfRuns.l1, if_neg (by omega)]; simp
  | succ d ih =>
    intro k j out hj hd ho hk
    obtain ⟨k, rfl⟩ : ∃ m, k = m + 1 := ⟨k - 1, by omega⟩
    obtain ⟨m, h1, h2⟩ := ih k (j + 1) (out ++ [i % 2]) (by omega) (by omega) (by simp; omega) (by omega)
    refine ⟨m, by omega, ?_⟩
    rw [impl_PlateOfRuns.l1, if_pos (by omega), if_pos (by omega), w64 (by omega) (by omega), tmod_pos hi, h2, List.append_assoc, List.singleton_append, List.replicate_succ]
theorem prl0_i {W H : Int} (h : Sz W H) {X : List Int} (hX : X.length ≤ 1048576) (d : Nat) : ∀ (k : Nat) (p : Int) (out : List Int), 0 ≤ p → p ≤ X.length → (X.length : Int) - p = d → (out.length : Int) ≤ W * H → (d : Int) * 4 + (W * H - out.length) + 100 < k →
    impl_PlateOfRuns.l0 k W H X X.length p W H out = some (prR W H (prL (W * H) (X.drop p.toNat) p out)) := by
  have ha := h.area
  induction d with
  | zero =>
    intro k p out p0 p1 hd ho hk
    obtain ⟨k, rfl⟩ : ∃ m, k = m + 1 := ⟨k - 1, by omega⟩
    rw [impl_PlateOfRuns.l0, if_neg (by omega), w64 (by omega) (by omega), drop_end X (by omega), prL]
    by_cases e : (out.length : Int) = W * H
    · rw [if_pos e, if_pos e]; rfl
    · rw [if_neg e, if_neg e]; rfl
  | succ d ih =>
    intro k p out p0 p1 hd ho hk
    obtain ⟨k, rfl⟩ : ∃ m, k = m + 2 := ⟨k - 2, by omega⟩
    have bad : impl_PlateOfRuns.j1 (k + 1) W H p (at_ X p) X X.length p true W H out = some (0, 0, [], false) := by
      rw [impl_PlateOfRuns.j1, if_pos rfl]
    have fin : 0 ≤ at_ X p → ¬ (at_ X p = 0 ∧ 0 < p) → impl_PlateOfRuns.j1 (k + 1) W H p (at_ X p) X X.length p (decide (at_ X p > wrap64 (wrap64 (W * H) - out.length))) W H out = some (prR W H (if at_ X p < 0 ∨ (at_ X p = 0 ∧ 0 < p) ∨ W * H - out.length < at_ X p then none else prL (W * H) (X.drop (p + 1).toNat) (p + 1) (out ++ List.replicate (at_ X p).toNat (p % 2)))) := by
      intro n0 hz
      rw [w64 (x := W * H) (by omega) (by omega), w64 (by omega) (by omega)]
      by_cases hr : W * H - out.length < at_ X p
      · rw [show decide (at_ X p > W * H - out.length) = true from decide_eq_true hr, bad, if_pos (.inr (.inr hr))]; rfl
      · rw [show decide (at_ X p > W * H - out.length) = false from decide_eq_false hr, impl_PlateOfRuns.j1, if_neg (by decide)]
        obtain ⟨m, h1, h2⟩ := prl1_i h X (at_ X p) p p p0 (by omega) (at_ X p).toNat k 0 out (by omega) (by omega) (by omega) (by omega)
        rw [h2, w64 (by omega) (by omega), ih m (p + 1) _ (by omega) (by omega) (by omega) (by simp; omega) (by simp; omega), if_neg (by omega)]
    rw [impl_PlateOfRuns.l0, if_pos (by omega), if_pos p0, if_pos (by omega), rd_at, drop_at X p0 (by omega), prL]
    by_cases hn : at_ X p < 0
    · rw [if_pos hn, bad, if_pos (.inl hn)]; rfl
    · rw [if_neg hn]
      by_cases hz : at_ X p = 0
      · rw [if_pos hz]
        by_cases hp0 : 0 < p
        · rw [if_pos hp0, bad, if_pos (.inr (.inl ⟨hz, hp0⟩))]; rfl
        · rw [if_neg hp0, fin (by omega) (fun x => hp0 x.2)]
      · rw [if_neg hz, fin (by omega) (fun x => hz x.1)]
theorem plateOfRuns_i (W H : Int) {X : List Int} (hX : X.length ≤ 1048576) {k : Nat} (hk : 6000000 < k) : impl_PlateOfRuns.f k W H X = some (plateOfRuns W H X) := by
  unfold impl_PlateOfRuns.f plateOfRuns
  rw [size_i, Option.bind_some]
  by_cases h : Sz W H
  · have ha := h.area
    rw [if_pos (decide_eq_true h), if_pos h]
    exact prl0_i h hX X.length k 0 [] (by omega) (by omega) (by omega) (by simp; omega) (by simp; omega)
  · rw [if_neg (by rw [decide_eq_true_iff]; exact h), if_neg h]
theorem prL_yes {N : Int} : ∀ {r : List Int} {i : Int} {o : List Int}, Runs r i → (o.length : Int) + tot r = N → prL N r i o = some (o ++ expand r i) := by
  intro r
  induction r with
  | nil => intro i o _ h; rw [prL, if_pos (by rw [tot] at h; omega), expand, List.append_nil]
  | cons n r ih =>
    intro i o hr h
    have h0 := hr.1
    have ht : 0 ≤ tot r := by
      by_cases z : 0 ≤ i
      · exact (Runs_bd (by omega) hr.2.2).1
      · have := expand_len hr.2.2; omega
    rw [tot] at h
    have hne : ¬ (n < 0 ∨ (n = 0 ∧ 0 < i) ∨ N - o.length < n) := by
      intro z
      rcases z with z | z | z
      · omega
      · have := hr.2.1 z.2; omega
      · omega
    rw [prL, if_neg hne, ih hr.2.2 (by rw [List.length_append, List.length_replicate]; omega), expand, List.append_assoc]
theorem prL_no {N : Int} : ∀ {r : List Int} {i : Int} {o : List Int}, Runs r i → N < (o.length : Int) + tot r → prL N r i o = none := by
  intro r
  induction r with
  | nil => intro i o _ h; rw [prL, if_neg (by rw [tot] at h; omega)]
  | cons n r ih =>
    intro i o hr h
    have h0 := hr.1
    rw [tot] at h
    rw [prL]
    by_cases hne : n < 0 ∨ (n = 0 ∧ 0 < i) ∨ N - o.length < n
    · rw [if_pos hne]
    · rw [if_neg hne]; exact ih hr.2.2 (by rw [List.length_append, List.length_replicate]; omega)
theorem bump_last (a : List Int) {x : Int} (h0 : 0 ≤ x) (h1 : x ≤ 1048576) : bump (a ++ [x]) = a ++ [x + 1] := by
  unfold bump
  have e : (((a ++ [x]).length : Int) - 1).toNat = a.length := by rw [List.length_append]; simp
  have e2 : ((a ++ [x]).length : Int) - 1 = a.length := by rw [List.length_append]; simp
  have e3 : at_ (a ++ [x]) (a.length : Int) = x := by
    rw [at_nat _ a.length (by simp)]; simp
  rw [e, e2, e3, w64 (by omega) (by omega), List.set_append_right _ _ (Nat.le_refl _), Nat.sub_self]; rfl
theorem runL_tells : ∀ (r a : List Int) (x : Int), All 1 r → 0 ≤ x → x + r.length ≤ 10000 → Runs (a ++ [x]) 0 → Runs (runL r (a ++ [x]) ((a.length : Int) % 2)) 0 ∧ expand (runL r (a ++ [x]) ((a.length : Int) % 2)) 0 = expand (a ++ [x]) 0 ++ r := by
  intro r
  induction r with
  | nil => intro a x _ _ _ h; exact ⟨h, by rw [runL, List.append_nil]⟩
  | cons v r ih =>
    intro a x hA x0 hx h
    obtain ⟨hv, hr⟩ := All.cons.mp hA
    rw [List.length_cons] at hx
    rw [runL]
    by_cases e : v = (a.length : Int) % 2
    · rw [if_pos e, bump_last a x0 (by omega)]
      have hR : Runs (a ++ [x + 1]) 0 := by
        refine Runs_app ?_ ?_
        · have : ∀ (a b : List Int) (i : Int), Runs (a ++ b) i → Runs a i := by
            intro a
            induction a with
            | nil => intro b i _; trivial
            | cons n a ih => intro b i h; exact ⟨h.1, h.2.1, ih _ _ h.2.2⟩
          exact this _ _ _ h
        · exact ⟨by omega, fun _ => by omega, trivial⟩
      obtain ⟨h1, h2⟩ := ih a (x + 1) hr (by omega) (by omega) hR
      refine ⟨h1, ?_⟩
      rw [h2, expand_app, expand_app, expand, expand, expand, show (x + 1).toNat = x.toNat + 1 by omega, List.replicate_succ', Int.zero_add, ← e]
      simp only [expand, List.append_nil, List.append_assoc, List.singleton_append, List.nil_append]
    · rw [if_neg e, bump_last (a ++ [x]) (by omega) (by omega)]
      have hv2 : v = (((a ++ [x]).length : Nat) : Int) % 2 := by unfold In at hv; rw [List.length_append]; simp; omega
      have hR : Runs ((a ++ [x]) ++ [0 + 1]) 0 := Runs_app h ⟨by omega, fun _ => by omega, trivial⟩
      rw [hv2]
      obtain ⟨h1, h2⟩ := ih (a ++ [x]) (0 + 1) hr (by omega) (by omega) hR
      refine ⟨h1, ?_⟩
      rw [h2, expand_app (a ++ [x])]
      simp only [expand, Int.zero_add, List.append_nil, List.append_assoc, List.singleton_append]
      rfl
theorem runs_tell {W H : Int} {l : List Int} (h : Up W H l 1) : Runs (runsOf W H l) 0 ∧ expand (runsOf W H l) 0 = l := by
  have ha := h.1.area; have hl := h.2.1
  unfold runsOf; rw [if_pos h]
  have := runL_tells l [] 0 h.2.2 (by omega) (by omega) ⟨by omega, fun z => by omega, trivial⟩
  simpa [expand] using this
theorem runsl_c {W H : Int} {l L : List Int} (h : Up W H l 1) (hR : Runs L 0) (hL : L.length ≤ 2000) (ht : tot L = l.length) (hd : runDots L 0 = tot l) (d : Nat) : ∀ (k : Nat) (s j : Int), 0 ≤ j → (L.length : Int) - j = d → 0 ≤ s → s + runDots (L.drop j.toNat) j = tot l → d + 7000000 < k →
    laws_FnRuns.l0 k L s L L.length j W H l = some true := by
  have ha := h.1.area; have hl := h.2.1; have htl := tot_bd h.2.2
  have hnn : ∀ (r : List Int) (i : Int), (∀ v ∈ r, 0 ≤ v) → 0 ≤ runDots r i := by
    intro r
    induction r with
    | nil => intro i _; exact Int.le_refl _
    | cons n r ih =>
      intro i hn
      have h1 := ih (i + 1) (fun v hv => hn v (List.mem_cons_of_mem _ hv))
      have h2 := Int.mul_nonneg (hn n List.mem_cons_self) (show 0 ≤ i % 2 by omega)
      rw [runDots]; omega
  have hpos : ∀ v ∈ L, 0 ≤ v := by
    intro v hv
    obtain ⟨j, hj, rfl⟩ := List.getElem_of_mem hv
    rw [← at_nat L j hj]; exact (Runs_at hR j (by omega) (by omega)).1
  induction d with
  | zero =>
    intro k s j j0 hdj s0 hs hk
    obtain ⟨k, rfl⟩ : ∃ m, k = m + 1 := ⟨k - 1, by omega⟩
    rw [drop_end L (by omega), runDots] at hs
    have hno : plateOfRuns W H (L ++ [1]) = (0, 0, [], false) := by
      unfold plateOfRuns
      rw [if_pos h.1, prL_no (Runs_app (b := [1]) hR ⟨by omega, fun _ => by omega, trivial⟩) (by rw [tot_app]; simp [tot]; omega)]; rfl
    rw [laws_FnRuns.l0, if_neg (by omega), Option.bind_some, if_pos (by simp; omega), plateOfRuns_i W H (by simp; omega) (by omega), Option.bind_some, hno, tot_c (by omega) h.2.2 (by omega) (by omega), Option.bind_some, if_pos (by omega)]; rfl
  | succ d ih =>
    intro k s j j0 hdj s0 hs hk
    obtain ⟨k, rfl⟩ : ∃ m, k = m + 1 := ⟨k - 1, by omega⟩
    have hj : j < L.length := by omega
    have hat := Runs_at hR j j0 hj
    have hm : j % 2 = 0 ∨ j % 2 = 1 := by omega
    rw [drop_at L j0 hj, runDots] at hs
    have hrest := hnn (L.drop (j + 1).toNat) (j + 1) (fun v hv => hpos v (List.mem_of_mem_drop hv))
    have hprod : 0 ≤ at_ L j * (j % 2) := Int.mul_nonneg hat.1 (by omega)
    have hstep : wrap64 (s + wrap64 (at_ L j * Int.tmod j 2)) = s + at_ L j * (j % 2) := by
      rw [tmod_pos j0, w64 (x := at_ L j * (j % 2)) (by omega) (by omega), w64 (by omega) (by omega)]
    have hi := ih k (s + at_ L j * (j % 2)) (j + 1) (by omega) (by omega) (by omega) (by omega) (by omega)
    rw [laws_FnRuns.l0, if_pos hj, if_pos j0, if_pos hj, rd_at, hstep, w64 (x := j + 1) (by omega) (by omega), hi]
    by_cases e : 0 < j
    · rw [if_pos e, if_neg (by have := hat.2 (by omega); omega)]
    · rw [if_neg e]
theorem pure_FnRuns (l0 : List Int) (h0 : l0.length ≤ maxLen) (hl : l0.length * 1 ≤ 140737488351232) (hw : ∀ x ∈ l0, (Lit.int .u8 x).wf = true) : ∃ k, laws_FnRuns.f k l0 = some true := by
  obtain ⟨m, hm⟩ : ∃ m : Nat, 9000000 ≤ m := ⟨9000000, Nat.le_refl _⟩
  refine ⟨m + 8, ?_⟩
  unfold laws_FnRuns.f
  by_cases h : (l0.length : Int) > 1048576
  · rw [if_pos h]
  · rw [if_neg h]
    obtain ⟨W, H, l, e, hW, hH, hu⟩ := plate_c l0 (by omega) 8 (by omega) (by omega) (k := m + 8) (by omega)
    have ha := hu.1.area; have hln := hu.2.1
    obtain ⟨hR, hE⟩ := runs_tell hu
    rw [e]; simp only [Option.bind_some]
    rw [runs_i (by omega) (by omega), Option.bind_some]
    generalize runsOf W H l = L at hR hE ⊢
    have ht := expand_len hR
    rw [hE] at ht
    have hd := expand_tot hR
    rw [hE] at hd
    have hb := Runs_bd (by omega) hR
    have hyes : plateOfRuns W H L = (W, H, l, true) := by
      unfold plateOfRuns
      rw [if_pos hu.1, prL_yes (o := []) hR (by simp; omega), hE]; rfl
    have hne : 0 < L.length := by
      cases L with
      | nil => have z : tot ([] : List Int) = 0 := rfl; omega
      | cons n r => simp
    have hall : All 1024 L := by
      intro v hv
      obtain ⟨j, hj, rfl⟩ := List.getElem_of_mem hv
      have h1 := (Runs_at hR j (by omega) (by omega)).1
      rw [at_nat L j hj] at h1
      refine ⟨h1, ?_⟩
      have key : ∀ (r : List Int) (i : Int), Runs r i → ∀ v ∈ r, v ≤ tot r := by
        intro r
        induction r with
        | nil => intro i _ v hv; simp at hv
        | cons n r ih =>
          intro i hr v hv
          have t0 : 0 ≤ tot r := by have := expand_len hr.2.2; omega
          have n0 := hr.1
          rw [tot]
          rcases List.mem_cons.mp hv with z | z
          · subst z; omega
          · have := ih _ hr.2.2 v z; omega
      have := key L 0 hR _ (List.getElem_mem hj); omega
    have hfirst : ((rd L 0 == 0) != (rd l 0 == 1)) = false := by
      rw [rd_at, rd_at]
      have hl0 := all_at hu.2.2 (i := 0) (by omega) (by omega)
      cases L with
      | nil => simp at hne
      | cons n r =>
        have hn := hR.1
        have en : at_ (n :: r) 0 = n := rfl
        rw [en]
        rw [expand] at hE
        by_cases z : n = 0
        · subst z
          cases r with
          | nil =>
            have z : l = [] := by rw [← hE]; rfl
            rw [z] at hln
            have z2 : (([] : List Int).length : Int) = 0 := rfl
            omega
          | cons q r =>
            have hq := hR.2.2.2.1 (by omega)
            have : at_ l 0 = 1 := by
              rw [← hE, expand]
              have : q.toNat = (q.toNat - 1) + 1 := by omega
              rw [this, List.replicate_succ]; rfl
            rw [this]; rfl
        · have : at_ l 0 = 0 := by
            rw [← hE]
            have : n.toNat = (n.toNat - 1) + 1 := by omega
            rw [this, List.replicate_succ]; rfl
          rw [this, beq_eq_false_iff_ne.mpr z]; rfl
    rw [plateOfRuns_i W H (by omega) (by omega), Option.bind_some, hyes]
    simp only
    rw [if_pos trivial, same_c W H l (by omega) (by omega), Option.bind_some, if_pos rfl, tot_c (by omega) hall (by omega) (by omega), Option.bind_some, if_pos (by omega), if_neg (by omega), if_pos (by omega), if_pos (by omega), hfirst, laws_FnRuns.j0, if_neg (by decide)]
    exact runsl_c hu hR (by omega) (by omega) (by omega) L.length (m + 7) 0 0 (by omega) (by omega) (by omega) (by rw [Int.zero_add]; simpa using hd.symm) (by omega)
end Go.Proofs.Ytheihidfbalioaa.PFnRuns
