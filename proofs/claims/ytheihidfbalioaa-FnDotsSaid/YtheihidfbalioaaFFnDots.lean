/- What the functions that laws.FnDots reaches compute, and that the law is true: over numbers alone. -/
import Derived.Test.YtheihidfbalioaaPFnDotsx
import Derived.Test.YtheihidfbalioaaPic2
import Derived.Laws.Strings
namespace Go.Proofs.Ytheihidfbalioaa.PFnDots
open Go.RowKit Go.Proofs.YtheihidfbalioaaW.PrintWords Go.Proofs.YtheihidfbalioaaW.PrintLast Go.Proofs.YtheihidfbalioaaW.PrintMore
set_option linter.unusedVariables false
set_option linter.unusedSimpArgs false
set_option linter.unusedSimpArgs false
open Pic
theorem w64 {x : Int} (h1 : -9223372036854775808 ≤ x) (h2 : x ≤ 9223372036854775807) : wrap64 x = x := by unfold wrap64; omega
theorem rd_at (l : List Int) (i : Int) : rd l i = at_ l i := rfl
theorem tmod_pos {n x : Int} (h : 0 ≤ x) : Int.tmod x n = x % n := Int.tmod_eq_emod_of_nonneg h
theorem tdiv_pos {n x : Int} (h : 0 ≤ x) : Int.tdiv x n = x / n := Int.tdiv_eq_ediv_of_nonneg h
theorem dec_ff {p : Prop} [Decidable p] (h : ¬ p) : some false = some (decide p) := by rw [decide_eq_false h]
theorem dec_dd {p q : Prop} [Decidable p] [Decidable q] (h : p ↔ q) : some (decide p) = some (decide q) := by rw [decide_eq_decide.mpr h]
theorem mn_eq (a b : Int) : mn a b = if b < a then b else a := rfl
theorem up_wide {W H : Int} {l : List Int} (h : Up W H l 1) : Up W H l 255 := ⟨h.1, h.2.1, fun v hv => ⟨(h.2.2 v hv).1, by have := (h.2.2 v hv).2; omega⟩⟩
theorem mk_neg (n : Nat) : ¬ ((1 : Int) + n < 0) := by omega
theorem and255 (n : Int) : Go.bits .and .i64 n 255 = n % 256 := by
  have h255 : (BitVec.ofInt 64 255).toNat = 2 ^ 8 - 1 := by decide
  have key : (BitVec.ofInt 64 n &&& BitVec.ofInt 64 255).toNat = (n % ((2 ^ 64 : Nat) : Int)).toNat % 2 ^ 8 := by
    rw [BitVec.toNat_and, BitVec.toNat_ofInt, h255, Nat.and_two_pow_sub_one_eq_mod]
  show IntKind.i64.wrap ((BitVec.ofInt 64 n &&& BitVec.ofInt 64 255).toNat : Nat) = n % 256
  rw [key, IntKind.wrap_i64]
  omega
theorem newl_c (xs : List Int) (d : Nat) : ∀ (k : Nat) (h i : Int), 0 ≤ i → i ≤ 4000 → 4000 - i = d → d < k → ∃ h', spec_l01New.l0 k xs h i = some (xs, 0, h') := by
  induction d with
  | zero =>
    intro k h i h0 h1 hd hk
    obtain ⟨k, rfl⟩ : ∃ m, k = m + 1 := ⟨k - 1, by omega⟩
    simp only [spec_l01New.l0]
    have : ¬ i < 4000 := by omega
    simp only [if_neg this]
    split <;> exact ⟨_, rfl⟩
  | succ d ih =>
    intro k h i h0 h1 hd hk
    obtain ⟨k, rfl⟩ : ∃ m, k = m + 1 := ⟨k - 1, by omega⟩
    rw [spec_l01New.l0]
    by_cases hlt : i < (xs.length : Int)
    · rw [if_pos hlt, if_pos (by omega), if_pos h0, w64 (x := i + 1) (by omega) (by omega)]
      exact ih k _ (i + 1) (by omega) (by omega) (by omega) (by omega)
    · rw [if_neg hlt]; exact ⟨_, rfl⟩
theorem new_c (xs : List Int) (k : Nat) (hk : 4001 ≤ k) : ∃ h, spec_l01New.f k xs = some (xs, 0, h) :=
  newl_c xs 4000 k _ 0 (by omega) (by omega) (by omega) (by omega)
theorem empty_s {W H : Int} (h : Sz W H) : spec_l1Empty.f W H = some (W, H, List.replicate (W * H).toNat 0) := by
  have := h.area
  unfold spec_l1Empty.f
  rw [w64 (by omega) (by omega), if_pos (by omega), if_pos (by omega)]
theorem byte_c (xs : List Int) (hl : xs.length ≤ 140737488351232) (i h : Int) (h0 : 0 ≤ i) (h1 : i ≤ xs.length) : ∃ r i' h', spec_l01Byte.f xs i h = some (r, i', h') ∧ 0 ≤ r ∧ r ≤ 255 ∧ 0 ≤ i' ∧ i' ≤ xs.length := by
  unfold spec_l01Byte.f
  simp only [and255]
  by_cases hlt : i < (xs.length : Int)
  · rw [if_pos hlt, if_pos h0, w64 (x := i + 1) (by omega) (by omega)]
    exact ⟨_, _, _, rfl, Int.emod_nonneg _ (by omega), by have := Int.emod_lt_of_pos (wrap64 ((wrap64 ((Go.bits .xor .i64 ((wrap64 ((wrap64 (h * 6364136223846793005)) + 1442695040888963407)) / 8589934592) ((wrap64 ((wrap64 (h * 6364136223846793005)) + 1442695040888963407)) / 35184372088832)) % 256)) + wrap64 (rd xs i))) (show (0 : Int) < 256 by omega); omega, by omega, by omega⟩
  · rw [if_neg hlt]
    exact ⟨_, _, _, rfl, Int.emod_nonneg _ (by omega), by have := Int.emod_lt_of_pos (Go.bits .xor .i64 ((wrap64 ((wrap64 (h * 6364136223846793005)) + 1442695040888963407)) / 8589934592) ((wrap64 ((wrap64 (h * 6364136223846793005)) + 1442695040888963407)) / 35184372088832)) (show (0 : Int) < 256 by omega); omega, h0, h1⟩
theorem below_c (xs : List Int) (hl : xs.length ≤ 140737488351232) (i h n : Int) (h0 : 0 ≤ i) (h1 : i ≤ xs.length) (hn : 1 ≤ n) (hn2 : n ≤ 256) : ∃ r i' h', spec_l01Below.f xs i h n = some (r, i', h') ∧ 0 ≤ r ∧ r < n ∧ 0 ≤ i' ∧ i' ≤ xs.length := by
  unfold spec_l01Below.f
  rw [if_neg (by omega), if_pos hn2]
  obtain ⟨r, i', h', e, r0, r1, i0, i1⟩ := byte_c xs hl i h h0 h1
  rw [e]; simp only [Option.bind_some]
  rw [if_neg (by omega)]
  have := Int.emod_nonneg r (show n ≠ 0 by omega); have := Int.emod_lt_of_pos r (show 0 < n by omega)
  refine ⟨_, _, _, rfl, ?_, ?_, i0, i1⟩ <;> rw [tmod_pos r0] <;> omega
theorem once_c (xs : List Int) (hl : xs.length ≤ 140737488351232) (i h n : Int) (h0 : 0 ≤ i) (h1 : i ≤ xs.length) (hn : 1 ≤ n) (hn2 : n ≤ 256) : ∃ b i' h', spec_l01Once.f xs i h n = some (b, i', h') ∧ 0 ≤ i' ∧ i' ≤ xs.length := by
  obtain ⟨r, i', h', e, r0, r1, i0, i1⟩ := below_c xs hl i h n h0 h1 hn hn2
  unfold spec_l01Once.f
  rw [e]; exact ⟨_, _, _, rfl, i0, i1⟩
theorem mkl_c (xs : List Int) (hl : xs.length ≤ 140737488351232) {W H : Int} (hs : Sz W H) (q : Int) (q0 : 0 ≤ q) (q1 : q ≤ 3) (d : Nat) : ∀ (k : Nat) (j i h : Int) (M : List Int), 0 ≤ i → i ≤ xs.length → 0 ≤ j → Up W H M 1 → W * H - j = d → d < k →
    ∃ l, spec_MakePlate.l0 k q (W * H) j xs i h W H M = some (W, H, l) ∧ Up W H l 1 := by
  have ha := hs.area
  induction d with
  | zero =>
    intro k j i h M i0 i1 j0 hu hd hk
    obtain ⟨k, rfl⟩ : ∃ m, k = m + 1 := ⟨k - 1, by omega⟩
    rw [spec_MakePlate.l0, if_neg (by omega)]; exact ⟨M, rfl, hu⟩
  | succ d ih =>
    intro k j i h M i0 i1 j0 hu hd hk
    obtain ⟨k, rfl⟩ : ∃ m, k = m + 1 := ⟨k - 1, by omega⟩
    have hln := hu.2.1
    have fin : ∀ r i' h' : Int, 0 ≤ r → r < 2 → 0 ≤ i' → i' ≤ xs.length → ∃ l, (if 0 ≤ j then (if j < (M.length : Int) then spec_MakePlate.l0 k q (W * H) (wrap64 (j + 1)) xs i' h' W H (M.set j.toNat r) else none) else none) = some (W, H, l) ∧ Up W H l 1 := by
      intro r i' h' r0 r1 a0 a1
      rw [if_pos j0, if_pos (by omega), w64 (by omega) (by omega)]
      exact ih k (j + 1) i' h' _ a0 a1 (by omega) (hu.set ⟨r0, by omega⟩) (by omega) (by omega)
    have stay : ∀ i' h' : Int, 0 ≤ i' → i' ≤ xs.length → ∃ l, spec_MakePlate.l0 k q (W * H) (wrap64 (j + 1)) xs i' h' W H M = some (W, H, l) ∧ Up W H l 1 := by
      intro i' h' a0 a1
      rw [w64 (by omega) (by omega)]
      exact ih k (j + 1) i' h' _ a0 a1 (by omega) hu (by omega) (by omega)
    rw [spec_MakePlate.l0, if_pos (by omega)]
    by_cases q2 : 1 < q
    · rw [if_neg (by omega), if_neg (by omega), if_pos (by omega)]
      obtain ⟨r, i', h', e, r0, r1, a0, a1⟩ := below_c xs hl i h 2 i0 i1 (by omega) (by omega)
      rw [e]; exact fin r i' h' r0 r1 a0 a1
    · obtain ⟨b, i', h', e, a0, a1⟩ := once_c xs hl i h 4 i0 i1 (by omega) (by omega)
      obtain ⟨r, i2, h2, e2, r0, r1, c0, c1⟩ := below_c xs hl i' h' 2 a0 a1 (by omega) (by omega)
      by_cases q3 : q = 0
      · rw [if_pos q3, e, Option.bind_some]
        simp only
        by_cases hb : b = true
        · rw [if_pos hb, e2]; exact fin r i2 h2 r0 r1 c0 c1
        · rw [if_neg hb, if_neg (by omega), if_neg (by omega)]; exact stay i' h' a0 a1
      · rw [if_neg q3, if_pos (by omega), e, Option.bind_some]
        simp only
        by_cases hb : b = true
        · rw [if_pos hb, if_neg (by omega)]; exact stay i' h' a0 a1
        · rw [if_neg hb, e2]; exact fin r i2 h2 r0 r1 c0 c1
theorem plate_c (xs : List Int) (hl : xs.length ≤ 140737488351232) (m : Int) (hm : 1 ≤ m) (hm2 : m ≤ 12) {k : Nat} (hk : 5000 ≤ k) : ∃ W H l, spec_MakePlate.f k xs m = some (W, H, l) ∧ W ≤ m ∧ H ≤ m ∧ Up W H l 1 := by
  obtain ⟨h, e⟩ := new_c xs k (by omega)
  have hx : mx 1 (mn m 12) = m := by unfold mx mn; repeat' split
                                     all_goals omega
  unfold spec_MakePlate.f
  rw [e, hx]; simp only [Option.bind_some]
  obtain ⟨a, i1, h1, e1, a0, a1, p0, p1⟩ := below_c xs hl 0 h m (by omega) (by omega) hm (by omega)
  rw [e1]; simp only [Option.bind_some]
  obtain ⟨b, i2, h2, e2, b0, b1, p2, p3⟩ := below_c xs hl i1 h1 m p0 p1 hm (by omega)
  rw [e2]; simp only [Option.bind_some]
  have hs : Sz (1 + a) (1 + b) := ⟨by omega, by omega, by omega, by omega, by have := mul_bd (c := 12) (d := 12) (show 0 ≤ 1 + a by omega) (by omega) (show 0 ≤ 1 + b by omega) (by omega); omega⟩
  have ha := hs.area
  obtain ⟨q, i3, h3, e3, q0, q1, p4, p5⟩ := below_c xs hl i2 h2 4 p2 p3 (by omega) (by omega)
  rw [w64 (x := 1 + a) (by omega) (by omega), w64 (x := 1 + b) (by omega) (by omega), empty_s hs, Option.bind_some, e3]; simp only [Option.bind_some]
  have hu : Up (1 + a) (1 + b) (List.replicate ((1 + a) * (1 + b)).toNat 0) 1 := ⟨hs, by rw [List.length_replicate]; omega, fun v hv => by rw [(List.mem_replicate.mp hv).2]; exact ⟨by omega, by omega⟩⟩
  have hl2 := hu.2.1
  rw [hl2]
  obtain ⟨l, hl3, hu3⟩ := mkl_c xs hl hs q q0 (by omega) ((1 + a) * (1 + b)).toNat k 0 i3 h3 _ p4 p5 (by omega) hu (by omega) (by omega)
  exact ⟨1 + a, 1 + b, l, hl3, by omega, by omega, hu3⟩
theorem at_c (xs : List Int) (hl : xs.length ≤ 140737488351232) (hw : ∀ x ∈ xs, (Lit.int .u8 x).wf = true) (i : Int) (h0 : 0 ≤ i) (h1 : i ≤ 1000) : ∃ v, laws_at.f xs i = some v ∧ 0 ≤ v ∧ v ≤ 255 := by
  unfold laws_at.f
  by_cases hlt : i < (xs.length : Int)
  · rw [if_pos hlt, if_pos h0]
    have hm : rd xs i ∈ xs := by
      have : i.toNat < xs.length := by omega
      unfold rd; rw [List.getD_eq_getElem?_getD, List.getElem?_eq_getElem this, Option.getD_some]; exact List.getElem_mem this
    have hb : 0 ≤ rd xs i ∧ rd xs i ≤ 255 := by
      have h := hw _ hm
      simp only [Lit.wf, Bool.and_eq_true, decide_eq_true_eq] at h
      exact h
    exact ⟨_, rfl, by rw [w64 (by omega) (by omega)]; exact hb.1, by rw [w64 (by omega) (by omega)]; exact hb.2⟩
  · rw [if_neg hlt]
    refine ⟨_, rfl, ?_⟩
    rw [w64 (x := i * 37) (by omega) (by omega), w64 (x := _ * 11) (by omega) (by omega), w64 (by omega) (by omega), tmod_pos (by omega)]
    omega
theorem ints_l (l : List Int) (hl : l.length ≤ 1048576) (d : Nat) : ∀ (k : Nat) (j : Int), 0 ≤ j → j ≤ l.length → (l.length : Int) - j = d → d < k → laws_ints.l0 k l l l.length j = some true := by
  induction d with
  | zero =>
    intro k j j0 j1 hd hk
    obtain ⟨k, rfl⟩ : ∃ m, k = m + 1 := ⟨k - 1, by omega⟩
    rw [laws_ints.l0, if_neg (by omega)]
  | succ d ih =>
    intro k j j0 j1 hd hk
    obtain ⟨k, rfl⟩ : ∃ m, k = m + 1 := ⟨k - 1, by omega⟩
    rw [laws_ints.l0, if_pos (by omega), if_pos j0, if_pos (by omega), if_pos (by omega), if_pos rfl, w64 (by omega) (by omega)]
    exact ih k (j + 1) (by omega) (by omega) (by omega) (by omega)
theorem ints_c (l : List Int) (hl : l.length ≤ 1048576) {k : Nat} (hk : 1100000 ≤ k) : laws_ints.f k l l = some true := by
  unfold laws_ints.f; rw [if_pos rfl, ints_l l hl l.length k 0 (by omega) (by omega) (by omega) (by omega)]
theorem same_c (a b : Int) (l : List Int) (hl : l.length ≤ 1048576) {k : Nat} (hk : 1100000 ≤ k) : laws_same.f k a b l a b l = some true := by
  unfold laws_same.f; rw [if_pos rfl, if_pos rfl, ints_c l hl hk]; rfl
theorem within_i {l : List Int} (hl : l.length ≤ 1048576) (m : Int) : impl_within.f l m = some (decide (All m l)) := by
  unfold impl_within.f
  rw [if_pos (by omega)]; simp only [Option.some.injEq]
  rw [Bool.eq_iff_iff, List.all_eq_true, decide_eq_true_iff]
  exact ⟨fun h v hv => of_decide_eq_true (h v hv), fun h v hv => decide_eq_true (h v hv)⟩
theorem size_i (W H : Int) : impl_sized.f W H = some (decide (Sz W H)) := by
  unfold impl_sized.f
  by_cases h : 1 ≤ W ∧ W ≤ 64 ∧ 1 ≤ H ∧ H ≤ 64
  · have := mul_bd (c := 64) (d := 64) (show 0 ≤ W by omega) h.2.1 (show 0 ≤ H by omega) h.2.2.2
    rw [if_pos (by omega), if_pos (by omega), if_pos (by omega), if_pos (by omega), w64 (by omega) (by omega)]
    exact dec_dd (by unfold Sz; omega)
  · repeat' split
    all_goals first | exact dec_ff (by unfold Sz; omega) | (exfalso; omega)
theorem pict_i {W H : Int} {l : List Int} (hl : l.length ≤ 1048576) : impl_IsPicture.f W H l = some (decide (Up W H l 255)) := by
  unfold impl_IsPicture.f
  rw [size_i, Option.bind_some]
  by_cases h : Sz W H
  · have := h.area
    rw [if_pos (decide_eq_true h), w64 (by omega) (by omega), within_i hl]
    by_cases e : (l.length : Int) = W * H
    · rw [if_pos e]; exact dec_dd ⟨fun x => ⟨h, e, x⟩, fun x => x.2.2⟩
    · rw [if_neg e]; exact dec_ff (fun x => e x.2.1)
  · rw [if_neg (by rw [decide_eq_true_iff]; exact h)]; exact dec_ff (fun x => h x.1)
theorem plate_i {W H : Int} {l : List Int} (hl : l.length ≤ 1048576) : impl_IsPlate.f W H l = some (decide (Up W H l 1)) := by
  unfold impl_IsPlate.f
  rw [pict_i hl, Option.bind_some, within_i hl]
  by_cases h : Up W H l 255
  · rw [if_pos (decide_eq_true h)]; exact dec_dd ⟨fun x => ⟨h.1, h.2.1, x⟩, fun x => x.2.2⟩
  · rw [if_neg (by rw [decide_eq_true_iff]; exact h)]; exact dec_ff (fun x => h ⟨x.1, x.2.1, fun v hv => ⟨(x.2.2 v hv).1, by have := (x.2.2 v hv).2; omega⟩⟩)
theorem sapp (a : List Int) (c : Int) (b : UInt8) (h : UInt8.ofNat c.toNat = b) : strOfNums a ++ (⟨#[b]⟩ : ByteArray) = strOfNums (a ++ [c]) := by
  apply ByteArray.ext
  subst h
  rw [ByteArray.data_append]; simp [strOfNums]
def dotL (W : Int) : List Int → Int → List Int
  | [], _ => []
  | v :: r, j => (if v = 1 then 35 else 46) :: (if j % W = W - 1 then 10 :: dotL W r (j + 1) else dotL W r (j + 1))
def dotT (W H : Int) (l : List Int) : ByteArray := if Up W H l 1 then strOfNums (dotL W l 0) else ⟨#[]⟩
theorem dotL_C {W : Int} (hW : 1 ≤ W) : ∀ (r : List Int) (j : Int), 0 ≤ j → dotL W r j = dotC W r (j % W) := by
  intro r
  induction r with
  | nil => intro j _; rfl
  | cons v r ih =>
    intro j h0
    have a1 := Int.emod_nonneg j (show W ≠ 0 by omega); have a2 := Int.emod_lt_of_pos j (show 0 < W by omega)
    rw [dotL, dotC, ih (j + 1) (by omega), ← Int.emod_add_emod j W 1]
    by_cases e : j % W = W - 1
    · rw [if_pos e, if_pos e, show j % W + 1 = W by omega, Int.emod_self]
    · rw [if_neg e, if_neg e, Int.emod_eq_of_lt (a := j % W + 1) (by omega) (by omega)]
theorem dot_b {v : Int} (h : In 1 v) : bt (⟨#[46, 35]⟩ : ByteArray) v = if v = 1 then 35 else 46 := by
  unfold In at h
  by_cases e : v = 1
  · subst e; rfl
  · have : v = 0 := by omega
    subst this; rfl
theorem dotl_i {W H : Int} {L : List Int} (hL : L.length ≤ 1048576) (hA : All 1 L) (hW : 1 ≤ W) (hW2 : W ≤ 64) (d : Nat) : ∀ (k : Nat) (a : List Int) (j : Int), 0 ≤ j → j ≤ L.length → (L.length : Int) - j = d → a.length ≤ 2 * j → d < k →
    impl_DotText.l0 k a L L.length j W H L = some (strOfNums (a ++ dotL W (L.drop j.toNat) j)) := by
  induction d with
  | zero =>
    intro k a j j0 j1 hd ha hk
    obtain ⟨k, rfl⟩ : ∃ m, k = m + 1 := ⟨k - 1, by omega⟩
    rw [impl_DotText.l0, if_neg (by omega), drop_end L (by omega), dotL, List.append_nil]
  | succ d ih =>
    intro k a j j0 j1 hd ha hk
    obtain ⟨k, rfl⟩ : ∃ m, k = m + 1 := ⟨k - 1, by omega⟩
    have hm : 0 ≤ at_ L j ∧ at_ L j ≤ 1 := hA _ (at_mem j0 (by omega))
    have z : ∀ c : Int, ((a ++ [c]).length : Int) ≤ 2 * (j + 1) := fun c => by simp; omega
    have z2 : ∀ c e : Int, (((a ++ [c]) ++ [e]).length : Int) ≤ 2 * (j + 1) := fun c e => by simp; omega
    rw [impl_DotText.l0, if_pos (by omega), if_pos j0, if_pos (by omega), drop_at L j0 (by omega), w64 (x := j + 1) (by omega) (by omega), w64 (x := W - 1) (by omega) (by omega), rd_at, if_pos hm.1, if_pos (by omega), if_pos (by omega), dot_b hm, Option.bind_some, if_neg (by omega), tmod_pos j0, dotL]
    generalize (if at_ L j = 1 then (35 : Int) else 46) = c
    by_cases e : j % W = W - 1
    · rw [if_pos e, if_pos e, if_pos (by simp; omega), ih k _ (j + 1) (by omega) (by omega) (by omega) (z2 _ 10) (by omega)]; simp
    · rw [if_neg e, if_neg e, ih k _ (j + 1) (by omega) (by omega) (by omega) (z _) (by omega)]; simp
theorem dots_i {W H : Int} {l : List Int} (hl : l.length ≤ 1048576) {k : Nat} (hk : 1100000 ≤ k) : impl_DotText.f k W H l = some (dotT W H l) := by
  unfold impl_DotText.f dotT
  rw [plate_i hl, Option.bind_some]
  by_cases h : Up W H l 1
  · rw [if_pos (decide_eq_true h), if_pos h]
    exact dotl_i hl h.2.2 h.1.1 h.1.2.1 l.length k [] 0 (by omega) (by omega) (by omega) (by simp) (by omega)
  · rw [if_neg (by rw [decide_eq_true_iff]; exact h), if_neg h]
theorem one_i (b : Bool) : impl_one.f b = some (if b = true then 1 else 0) := by unfold impl_one.f; split <;> rfl
/-- a text's bytes as numbers -/
def bytes (s : ByteArray) : List Int := s.data.toList.map fun b => (b.toNat : Int)
theorem bytes_length (s : ByteArray) : (bytes s).length = s.size := by unfold bytes; rw [List.length_map]; rfl
theorem bytes_at (s : ByteArray) {i : Int} (h0 : 0 ≤ i) (h : i < s.size) : at_ (bytes s) i = bt s i := by
  have hj : i.toNat < s.size := by omega
  have hj2 : i.toNat < (bytes s).length := by rw [bytes_length]; exact hj
  have := at_nat (bytes s) i.toNat hj2
  rw [show ((i.toNat : Nat) : Int) = i by omega] at this
  rw [this]; unfold bt; rw [dif_pos hj]; simp only [bytes, List.getElem_map]; rfl
theorem bytes_nums {x : List Int} (h : ∀ b ∈ x, 0 ≤ b ∧ b ≤ 255) : bytes (strOfNums x) = x := by
  unfold bytes strOfNums
  simp only [List.map_map]
  conv => rhs; rw [← List.map_id x]
  apply List.map_congr_left
  intro b hb
  have := h b hb
  show ((UInt8.ofNat b.toNat).toNat : Int) = b
  rw [UInt8.toNat_ofNat']; omega
theorem nums_bytes (s : ByteArray) : strOfNums (bytes s) = s := by
  unfold bytes strOfNums
  apply ByteArray.ext
  simp only [List.map_map]
  have : (s.data.toList.map ((fun n : Int => UInt8.ofNat n.toNat) ∘ fun b : UInt8 => (b.toNat : Int))) = s.data.toList := by
    conv => rhs; rw [← List.map_id s.data.toList]
    apply List.map_congr_left
    intro b _
    show UInt8.ofNat ((b.toNat : Int)).toNat = b
    simp
  rw [this]
theorem text_eq {W H : Int} {l : List Int} (h : Up W H l 1) (s : ByteArray) : (dotT W H l).toList = s.toList ↔ dotC W l 0 = bytes s := by
  have hW := h.1.1
  unfold dotT; rw [if_pos h, dotL_C hW l 0 (by omega), Int.zero_emod, ByteArray.toList_eq, ByteArray.toList_eq]
  constructor
  · intro e
    have : strOfNums (dotC W l 0) = s := ByteArray.ext (Array.toList_inj.mp e)
    rw [← this, bytes_nums (dotC_byte W l 0)]
  · intro e; rw [e, nums_bytes]
def parse (s : ByteArray) : Int × Int × List Int × Bool := finI (scanI (bytes s) 0 0 0 [])
theorem parsel_i {s : ByteArray} (hs : s.size ≤ 1048576) (d : Nat) : ∀ (k : Nat) (p run V H : Int) (pix : List Int), 0 ≤ p → p ≤ s.size → (s.size : Int) - p = d → 0 ≤ H → H ≤ p → 0 ≤ run → run ≤ p → pix.length ≤ p → 2 * d + 2 < k →
    impl_ParseDots.l0 k s run s.size p V H pix = some (finI (scanI ((bytes s).drop p.toNat) run V H pix)) := by
  have hb := bytes_length s
  induction d with
  | zero =>
    intro k p run V H pix p0 p1 hd h0 h1 r0 r1 hp hk
    obtain ⟨k, rfl⟩ : ∃ m, k = m + 1 := ⟨k - 1, by omega⟩
    rw [impl_ParseDots.l0, if_neg (by omega), plate_i (by omega), Option.bind_some, drop_end (bytes s) (by omega), scanI]
    by_cases hr : run = 0
    · rw [if_pos hr, if_pos hr]; unfold finI; simp only
      by_cases hu : Up V H pix 1
      · rw [if_pos (decide_eq_true hu), if_pos hu]
      · rw [if_neg (by rw [decide_eq_true_iff]; exact hu), if_neg hu]
    · rw [if_neg hr, if_neg hr]; rfl
  | succ d ih =>
    intro k p run V H pix p0 p1 hd h0 h1 r0 r1 hp hk
    obtain ⟨k, rfl⟩ : ∃ m, k = m + 2 := ⟨k - 2, by omega⟩
    have z : ∀ c : Int, ((pix ++ [c]).length : Int) ≤ p + 1 := fun c => by simp; omega
    rw [impl_ParseDots.l0, if_pos (by omega), if_pos p0, if_pos (by omega), drop_at (bytes s) p0 (by omega), bytes_at s p0 (by omega), scanI]
    have dot : ∀ b : Bool, b = true → (bt s p = 46 ∨ bt s p = 35) → impl_ParseDots.j1 (k + 1) s run p s.size p (bt s p) b V H pix = some (finI (scanI ((bytes s).drop (p + 1).toNat) (run + 1) V H (pix ++ [if bt s p = 35 then 1 else 0]))) := by
      intro b hbt hv
      rw [impl_ParseDots.j1, if_pos hbt, if_pos p0, if_pos (by omega), one_i, Option.bind_some, if_pos (by omega), w64 (by omega) (by omega), w64 (by omega) (by omega)]
      have e : (if (bt s p == 35) = true then (1 : Int) else 0) = if bt s p = 35 then 1 else 0 := by simp only [beq_iff_eq]
      rw [e, ih k (p + 1) (run + 1) V H _ (by omega) (by omega) (by omega) h0 (by omega) (by omega) (by omega) (z _) (by omega)]
    by_cases e46 : bt s p = 46
    · rw [if_pos e46, dot _ (by rw [e46]; rfl) (.inl e46), if_pos (c := _ ∨ _) (.inl e46)]
    · rw [if_neg e46]
      by_cases e35 : bt s p = 35
      · rw [dot _ (by rw [e35]; rfl) (.inr e35), if_pos (c := _ ∨ _) (.inr e35)]
      · rw [if_neg (c := _ ∨ _) (fun x => x.elim e46 e35), impl_ParseDots.j1, if_neg (by rw [beq_iff_eq]; exact e35), w64 (x := p + 1) (by omega) (by omega), w64 (x := H + 1) (by omega) (by omega)]
        by_cases e10 : bt s p = 10
        · rw [if_pos e10, if_pos e10]
          by_cases eH : H = 0
          · rw [if_pos eH, if_pos eH, if_pos rfl, ih k (p + 1) 0 run (H + 1) pix (by omega) (by omega) (by omega) (by omega) (by omega) (by omega) (by omega) (by omega) (by omega)]
          · rw [if_neg eH, if_neg eH]
            by_cases er : run = V
            · rw [if_pos er, if_pos er, ih k (p + 1) 0 V (H + 1) pix (by omega) (by omega) (by omega) (by omega) (by omega) (by omega) (by omega) (by omega) (by omega)]
            · rw [if_neg er, if_neg er]; rfl
        · rw [if_neg e10, if_neg e10]; rfl
theorem parse_i {s : ByteArray} (hs : s.size ≤ 1048576) {k : Nat} (hk : 3000000 ≤ k) : impl_ParseDots.f k s = some (parse s) := by
  unfold impl_ParseDots.f parse
  rw [parsel_i hs s.size k 0 0 0 0 [] (by omega) (by omega) (by omega) (by omega) (by omega) (by omega) (by omega) (by simp) (by omega)]; rfl
theorem pure_FnDots (l0 : List Int) (h0 : l0.length ≤ maxLen) (hl : l0.length * 1 ≤ 140737488351232) (hw : ∀ x ∈ l0, (Lit.int .u8 x).wf = true) : ∃ k, laws_FnDots.f k l0 = some true := by
  obtain ⟨m, hm⟩ : ∃ m : Nat, 4000000 ≤ m := ⟨4000000, Nat.le_refl _⟩
  refine ⟨m + 8, ?_⟩
  unfold laws_FnDots.f
  by_cases h : (l0.length : Int) > 1048576
  · rw [if_pos h]
  · rw [if_neg h]
    obtain ⟨W, H, l, e, hW, hH, hu⟩ := plate_c l0 (by omega) 8 (by omega) (by omega) (k := m + 8) (by omega)
    rw [e]; simp only [Option.bind_some]
    have ha := hu.1.area; have hln := hu.2.1; have hW1 := hu.1.1; have hH1 := hu.1.2.2.1
    have hbytes := bytes_nums (dotC_byte W l 0)
    have hdt : dotT W H l = strOfNums (dotC W l 0) := by unfold dotT; rw [if_pos hu, dotL_C hW1 l 0 (by omega), Int.zero_emod]
    have hsz : ((dotT W H l).size : Int) = (W + 1) * H := by rw [hdt, strOfNums_size]; exact plate_size hu
    have hwh := mul_bd (c := 9) (d := 8) (show 0 ≤ W + 1 by omega) (by omega) (show 0 ≤ H by omega) hH
    have hwh1 := Int.mul_pos (show 0 < W + 1 by omega) (show 0 < H by omega)
    have hp : parse (dotT W H l) = (W, H, l, true) := by unfold parse; rw [hdt, hbytes, (plate_scan hu).1]; unfold finI; simp only; rw [if_pos hu]
    rw [dots_i (by omega) (by omega), Option.bind_some, parse_i (by omega) (by omega), Option.bind_some, hp]
    simp only
    rw [if_pos trivial, same_c W H l (by omega) (by omega), Option.bind_some, if_pos rfl, w64 (x := W + 1) (by omega) (by omega), w64 (by omega) (by omega), hsz, laws_FnDots.j0, if_neg (by simp)]
    obtain ⟨v, ev, v0, v1⟩ := at_c l0 (by omega) hw 1 (by omega) (by omega)
    rw [ev, Option.bind_some, hsz, if_neg (by omega), tmod_pos v0]
    have c0 := Int.emod_nonneg v (show (W + 1) * H ≠ 0 by omega); have c1 := Int.emod_lt_of_pos v hwh1
    rw [if_pos c0, if_pos (by omega)]
    generalize hcut : (dotT W H l).extract 0 (v % ((W + 1) * H)).toNat = cut
    have hcs : cut.size ≤ 1048576 := by rw [← hcut, ByteArray.size_extract]; omega
    rw [parse_i hcs (by omega), Option.bind_some]
    unfold parse
    cases es : scanI (bytes cut) 0 0 0 [] with
    | none => unfold finI; simp
    | some x =>
      obtain ⟨V, G, r⟩ := x
      unfold finI; simp only
      by_cases hv : Up V G r 1
      · have hva := hv.1.area; have hvl := hv.2.1
        rw [if_pos hv]; simp only
        rw [if_pos trivial, dots_i (by omega) (by omega), Option.bind_some, beq_iff_eq.mpr ((text_eq hv cut).mpr (scan_plate es hv).symm)]
      · rw [if_neg hv]; simp

end Go.Proofs.Ytheihidfbalioaa.PFnDots
