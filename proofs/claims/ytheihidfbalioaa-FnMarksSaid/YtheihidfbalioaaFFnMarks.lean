/- What the functions that laws.FnMarks reaches compute, and that the law is true: over numbers alone. -/
import Derived.Test.YtheihidfbalioaaPFnMarksx
import Derived.Test.YtheihidfbalioaaPic2
import Derived.Laws.Strings
namespace Go.Proofs.Ytheihidfbalioaa.PFnMarks
open Go.RowKit Go.Proofs.YtheihidfbalioaaW.PrintWords Go.Proofs.YtheihidfbalioaaW.PrintLast Go.Proofs.YtheihidfbalioaaW.PrintMore
set_option linter.unusedVariables false
set_option linter.unusedSimpArgs false
set_option linter.unusedSimpArgs false
open Pic
theorem w64 {x : Int} (h1 : -9223372036854775808 ≤ x) (h2 : x ≤ 9223372036854775807) : wrap64 x = x := by unfold wrap64; omega
theorem rd_at (l : List Int) (i : Int) : rd l i = at_ l i := rfl
theorem tmod_pos {n x : Int} (h : 0 ≤ x) : Int.tmod x n = x % n := Int.tmod_eq_emod_of_nonneg h
theorem tdiv_pos {n x : Int} (h : 0 ≤ x) : Int.tdiv x n = x / n := Int.tdiv_eq_ediv_of_nonneg h
theorem dec_ff {p : Prop} [Decidable p] (h : ¬ p) : some false = some (decide p) := by rw [decide_eq_false h]
theorem dec_dd {p q : Prop} [Decidable p] [Decidable q] (h : p ↔ q) : some (decide p) = some (decide q) := by rw [decide_eq_decide.mpr h]
theorem mn_eq (a b : Int) : mn a b = if b < a then b else a := rfl
theorem up_wide {W H : Int} {l : List Int} (h : Up W H l 1) : Up W H l 255 := ⟨h.1, h.2.1, fun v hv => ⟨(h.2.2 v hv).1, by have := (h.2.2 v hv).2; omega⟩⟩
theorem mk_neg (n : Nat) : ¬ ((1 : Int) + n < 0) := by omega
theorem drop_p (l : List S25) {i : Int} (h0 : 0 ≤ i) (h : i < l.length) : l.drop i.toNat = rd_T25 l i :: l.drop (i + 1).toNat := by
  have hj : i.toNat < l.length := by omega
  have e : rd_T25 l i = l[i.toNat] := by unfold rd_T25; rw [List.getD_eq_getElem?_getD, List.getElem?_eq_getElem hj, Option.getD_some]
  rw [List.drop_eq_getElem_cons hj, e, show (i + 1).toNat = i.toNat + 1 by omega]
theorem mem_p {l : List S25} {i : Int} (h0 : 0 ≤ i) (h : i < l.length) : rd_T25 l i ∈ l := by
  have : rd_T25 l i ∈ l.drop i.toNat := by rw [drop_p l h0 h]; exact List.mem_cons_self
  exact List.mem_of_mem_drop this
theorem and255 (n : Int) : Go.bits .and .i64 n 255 = n % 256 := by
  have h255 : (BitVec.ofInt 64 255).toNat = 2 ^ 8 - 1 := by decide
  have key : (BitVec.ofInt 64 n &&& BitVec.ofInt 64 255).toNat = (n % ((2 ^ 64 : Nat) : Int)).toNat % 2 ^ 8 := by
    rw [BitVec.toNat_and, BitVec.toNat_ofInt, h255, Nat.and_two_pow_sub_one_eq_mod]
  show IntKind.i64.wrap ((BitVec.ofInt 64 n &&& BitVec.ofInt 64 255).toNat : Nat) = n % 256
  rw [key, IntKind.wrap_i64]
  omega
theorem newl_c (xs : List Int) (d : Nat) : ∀ (k : Nat) (h i : Int), 0 ≤ i → i ≤ 4000 → 4000 - i = d → d < k → ∃ h', spec_l01New.l0 k xs h i = some (xs, 0, h') := by
  induction d with
  | zero =>
    intro k h i h0 h1 hd hk
    obtain ⟨k, rfl⟩ : ∃ m, k = m + 1 := ⟨k - 1, by omega⟩
    simp only [spec_l01New.l0]
    have : ¬ i < 4000 := by omega
    simp only [if_neg this]
    split <;> exact ⟨_, rfl⟩
  | succ d ih =>
    intro k h i h0 h1 hd hk
    obtain ⟨k, rfl⟩ : ∃ m, k = m + 1 := ⟨k - 1, by omega⟩
    rw [spec_l01New.l0]
    by_cases hlt : i < (xs.length : Int)
    · rw [if_pos hlt, if_pos (by omega), if_pos h0, w64 (x := i + 1) (by omega) (by omega)]
      exact ih k _ (i + 1) (by omega) (by omega) (by omega) (by omega)
    · rw [if_neg hlt]; exact ⟨_, rfl⟩
theorem new_c (xs : List Int) (k : Nat) (hk : 4001 ≤ k) : ∃ h, spec_l01New.f k xs = some (xs, 0, h) :=
  newl_c xs 4000 k _ 0 (by omega) (by omega) (by omega) (by omega)
theorem empty_s {W H : Int} (h : Sz W H) : spec_l1Empty.f W H = some (W, H, List.replicate (W * H).toNat 0) := by
  have := h.area
  unfold spec_l1Empty.f
  rw [w64 (by omega) (by omega), if_pos (by omega), if_pos (by omega)]
theorem byte_c (xs : List Int) (hl : xs.length ≤ 140737488351232) (i h : Int) (h0 : 0 ≤ i) (h1 : i ≤ xs.length) : ∃ r i' h', spec_l01Byte.f xs i h = some (r, i', h') ∧ 0 ≤ r ∧ r ≤ 255 ∧ 0 ≤ i' ∧ i' ≤ xs.length := by
  unfold spec_l01Byte.f
  simp only [and255]
  by_cases hlt : i < (xs.length : Int)
  · rw [if_pos hlt, if_pos h0, w64 (x := i + 1) (by omega) (by omega)]
    exact ⟨_, _, _, rfl, Int.emod_nonneg _ (by omega), by have := Int.emod_lt_of_pos (wrap64 ((wrap64 ((Go.bits .xor .i64 ((wrap64 ((wrap64 (h * 6364136223846793005)) + 1442695040888963407)) / 8589934592) ((wrap64 ((wrap64 (h * 6364136223846793005)) + 1442695040888963407)) / 35184372088832)) % 256)) + wrap64 (rd xs i))) (show (0 : Int) < 256 by omega); omega, by omega, by omega⟩
  · rw [if_neg hlt]
    exact ⟨_, _, _, rfl, Int.emod_nonneg _ (by omega), by have := Int.emod_lt_of_pos (Go.bits .xor .i64 ((wrap64 ((wrap64 (h * 6364136223846793005)) + 1442695040888963407)) / 8589934592) ((wrap64 ((wrap64 (h * 6364136223846793005)) + 1442695040888963407)) / 35184372088832)) (show (0 : Int) < 256 by omega); omega, h0, h1⟩
theorem below_c (xs : List Int) (hl : xs.length ≤ 140737488351232) (i h n : Int) (h0 : 0 ≤ i) (h1 : i ≤ xs.length) (hn : 1 ≤ n) (hn2 : n ≤ 256) : ∃ r i' h', spec_l01Below.f xs i h n = some (r, i', h') ∧ 0 ≤ r ∧ r < n ∧ 0 ≤ i' ∧ i' ≤ xs.length := by
  unfold spec_l01Below.f
  rw [if_neg (by omega), if_pos hn2]
  obtain ⟨r, i', h', e, r0, r1, i0, i1⟩ := byte_c xs hl i h h0 h1
  rw [e]; simp only [Option.bind_some]
  rw [if_neg (by omega)]
  have := Int.emod_nonneg r (show n ≠ 0 by omega); have := Int.emod_lt_of_pos r (show 0 < n by omega)
  refine ⟨_, _, _, rfl, ?_, ?_, i0, i1⟩ <;> rw [tmod_pos r0] <;> omega
theorem once_c (xs : List Int) (hl : xs.length ≤ 140737488351232) (i h n : Int) (h0 : 0 ≤ i) (h1 : i ≤ xs.length) (hn : 1 ≤ n) (hn2 : n ≤ 256) : ∃ b i' h', spec_l01Once.f xs i h n = some (b, i', h') ∧ 0 ≤ i' ∧ i' ≤ xs.length := by
  obtain ⟨r, i', h', e, r0, r1, i0, i1⟩ := below_c xs hl i h n h0 h1 hn hn2
  unfold spec_l01Once.f
  rw [e]; exact ⟨_, _, _, rfl, i0, i1⟩
theorem mkl_c (xs : List Int) (hl : xs.length ≤ 140737488351232) {W H : Int} (hs : Sz W H) (q : Int) (q0 : 0 ≤ q) (q1 : q ≤ 3) (d : Nat) : ∀ (k : Nat) (j i h : Int) (M : List Int), 0 ≤ i → i ≤ xs.length → 0 ≤ j → Up W H M 1 → W * H - j = d → d < k →
    ∃ l, spec_MakePlate.l0 k q (W * H) j xs i h W H M = some (W, H, l) ∧ Up W H l 1 := by
  have ha := hs.area
  induction d with
  | zero =>
    intro k j i h M i0 i1 j0 hu hd hk
    obtain ⟨k, rfl⟩ : ∃ m, k = m + 1 := ⟨k - 1, by omega⟩
    rw [spec_MakePlate.l0, if_neg (by omega)]; exact ⟨M, rfl, hu⟩
  | succ d ih =>
    intro k j i h M i0 i1 j0 hu hd hk
    obtain ⟨k, rfl⟩ : ∃ m, k = m + 1 := ⟨k - 1, by omega⟩
    have hln := hu.2.1
    have fin : ∀ r i' h' : Int, 0 ≤ r → r < 2 → 0 ≤ i' → i' ≤ xs.length → ∃ l, (if 0 ≤ j then (if j < (M.length : Int) then spec_MakePlate.l0 k q (W * H) (wrap64 (j + 1)) xs i' h' W H (M.set j.toNat r) else none) else none) = some (W, H, l) ∧ Up W H l 1 := by
      intro r i' h' r0 r1 a0 a1
      rw [if_pos j0, if_pos (by omega), w64 (by omega) (by omega)]
      exact ih k (j + 1) i' h' _ a0 a1 (by omega) (hu.set ⟨r0, by omega⟩) (by omega) (by omega)
    have stay : ∀ i' h' : Int, 0 ≤ i' → i' ≤ xs.length → ∃ l, spec_MakePlate.l0 k q (W * H) (wrap64 (j + 1)) xs i' h' W H M = some (W, H, l) ∧ Up W H l 1 := by
      intro i' h' a0 a1
      rw [w64 (by omega) (by omega)]
      exact ih k (j + 1) i' h' _ a0 a1 (by omega) hu (by omega) (by omega)
    rw [spec_MakePlate.l0, if_pos (by omega)]
    by_cases q2 : 1 < q
    · rw [if_neg (by omega), if_neg (by omega), if_pos (by omega)]
      obtain ⟨r, i', h', e, r0, r1, a0, a1⟩ := below_c xs hl i h 2 i0 i1 (by omega) (by omega)
      rw [e]; exact fin r i' h' r0 r1 a0 a1
    · obtain ⟨b, i', h', e, a0, a1⟩ := once_c xs hl i h 4 i0 i1 (by omega) (by omega)
      obtain ⟨r, i2, h2, e2, r0, r1, c0, c1⟩ := below_c xs hl i' h' 2 a0 a1 (by omega) (by omega)
      by_cases q3 : q = 0
      · rw [if_pos q3, e, Option.bind_some]
        simp only
        by_cases hb : b = true
        · rw [if_pos hb, e2]; exact fin r i2 h2 r0 r1 c0 c1
        · rw [if_neg hb, if_neg (by omega), if_neg (by omega)]; exact stay i' h' a0 a1
      · rw [if_neg q3, if_pos (by omega), e, Option.bind_some]
        simp only
        by_cases hb : b = true
        · rw [if_pos hb, if_neg (by omega)]; exact stay i' h' a0 a1
        · rw [if_neg hb, e2]; exact fin r i2 h2 r0 r1 c0 c1
theorem plate_c (xs : List Int) (hl : xs.length ≤ 140737488351232) (m : Int) (hm : 1 ≤ m) (hm2 : m ≤ 12) {k : Nat} (hk : 5000 ≤ k) : ∃ W H l, spec_MakePlate.f k xs m = some (W, H, l) ∧ W ≤ m ∧ H ≤ m ∧ Up W H l 1 := by
  obtain ⟨h, e⟩ := new_c xs k (by omega)
  have hx : mx 1 (mn m 12) = m := by unfold mx mn; repeat' split
                                     all_goals omega
  unfold spec_MakePlate.f
  rw [e, hx]; simp only [Option.bind_some]
  obtain ⟨a, i1, h1, e1, a0, a1, p0, p1⟩ := below_c xs hl 0 h m (by omega) (by omega) hm (by omega)
  rw [e1]; simp only [Option.bind_some]
  obtain ⟨b, i2, h2, e2, b0, b1, p2, p3⟩ := below_c xs hl i1 h1 m p0 p1 hm (by omega)
  rw [e2]; simp only [Option.bind_some]
  have hs : Sz (1 + a) (1 + b) := ⟨by omega, by omega, by omega, by omega, by have := mul_bd (c := 12) (d := 12) (show 0 ≤ 1 + a by omega) (by omega) (show 0 ≤ 1 + b by omega) (by omega); omega⟩
  have ha := hs.area
  obtain ⟨q, i3, h3, e3, q0, q1, p4, p5⟩ := below_c xs hl i2 h2 4 p2 p3 (by omega) (by omega)
  rw [w64 (x := 1 + a) (by omega) (by omega), w64 (x := 1 + b) (by omega) (by omega), empty_s hs, Option.bind_some, e3]; simp only [Option.bind_some]
  have hu : Up (1 + a) (1 + b) (List.replicate ((1 + a) * (1 + b)).toNat 0) 1 := ⟨hs, by rw [List.length_replicate]; omega, fun v hv => by rw [(List.mem_replicate.mp hv).2]; exact ⟨by omega, by omega⟩⟩
  have hl2 := hu.2.1
  rw [hl2]
  obtain ⟨l, hl3, hu3⟩ := mkl_c xs hl hs q q0 (by omega) ((1 + a) * (1 + b)).toNat k 0 i3 h3 _ p4 p5 (by omega) hu (by omega) (by omega)
  exact ⟨1 + a, 1 + b, l, hl3, by omega, by omega, hu3⟩
theorem at_c (xs : List Int) (hl : xs.length ≤ 140737488351232) (hw : ∀ x ∈ xs, (Lit.int .u8 x).wf = true) (i : Int) (h0 : 0 ≤ i) (h1 : i ≤ 1000) : ∃ v, laws_at.f xs i = some v ∧ 0 ≤ v ∧ v ≤ 255 := by
  unfold laws_at.f
  by_cases hlt : i < (xs.length : Int)
  · rw [if_pos hlt, if_pos h0]
    have hm : rd xs i ∈ xs := by
      have : i.toNat < xs.length := by omega
      unfold rd; rw [List.getD_eq_getElem?_getD, List.getElem?_eq_getElem this, Option.getD_some]; exact List.getElem_mem this
    have hb : 0 ≤ rd xs i ∧ rd xs i ≤ 255 := by
      have h := hw _ hm
      simp only [Lit.wf, Bool.and_eq_true, decide_eq_true_eq] at h
      exact h
    exact ⟨_, rfl, by rw [w64 (by omega) (by omega)]; exact hb.1, by rw [w64 (by omega) (by omega)]; exact hb.2⟩
  · rw [if_neg hlt]
    refine ⟨_, rfl, ?_⟩
    rw [w64 (x := i * 37) (by omega) (by omega), w64 (x := _ * 11) (by omega) (by omega), w64 (by omega) (by omega), tmod_pos (by omega)]
    omega
theorem totl_c (l : List Int) (hl : l.length ≤ 1048576) {m : Int} (hA : All m l) (hm : m ≤ 1048576) (d : Nat) : ∀ (k : Nat) (s j : Int), 0 ≤ j → j ≤ l.length → (l.length : Int) - j = d → 0 ≤ s → s ≤ j * m → d < k → laws_total.l0 k s l l.length j = some (s + tot (l.drop j.toNat)) := by
  induction d with
  | zero =>
    intro k s j j0 j1 hd s0 s1 hk
    obtain ⟨k, rfl⟩ : ∃ m, k = m + 1 := ⟨k - 1, by omega⟩
    rw [laws_total.l0, if_neg (by omega), drop_end l (by omega)]; simp [tot]
  | succ d ih =>
    intro k s j j0 j1 hd s0 s1 hk
    obtain ⟨k, rfl⟩ : ∃ m, k = m + 1 := ⟨k - 1, by omega⟩
    have hv : 0 ≤ at_ l j ∧ at_ l j ≤ m := hA _ (at_mem j0 (by omega))
    have hb := mul_bd (c := 1048576) (d := 1048576) j0 (by omega) (show 0 ≤ m by omega) hm
    have e : (j + 1) * m = j * m + m := by rw [Int.add_mul, Int.one_mul]
    rw [laws_total.l0, if_pos (by omega), if_pos j0, if_pos (by omega), rd_at, w64 (x := s + _) (by omega) (by omega), w64 (x := j + 1) (by omega) (by omega), ih k _ (j + 1) (by omega) (by omega) (by omega) (by omega) (by omega) (by omega), drop_at l j0 (by omega), tot, Int.add_assoc]
theorem tot_c {l : List Int} (hl : l.length ≤ 1048576) {m : Int} (hA : All m l) (hm : m ≤ 1048576) {k : Nat} (hk : 1100000 ≤ k) : laws_total.f k l = some (tot l) := by
  unfold laws_total.f
  rw [totl_c l hl hA hm l.length k 0 0 (by omega) (by omega) (by omega) (by omega) (by omega) (by omega), Int.zero_add]; rfl
theorem within_i {l : List Int} (hl : l.length ≤ 1048576) (m : Int) : impl_within.f l m = some (decide (All m l)) := by
  unfold impl_within.f
  rw [if_pos (by omega)]; simp only [Option.some.injEq]
  rw [Bool.eq_iff_iff, List.all_eq_true, decide_eq_true_iff]
  exact ⟨fun h v hv => of_decide_eq_true (h v hv), fun h v hv => decide_eq_true (h v hv)⟩
theorem size_i (W H : Int) : impl_sized.f W H = some (decide (Sz W H)) := by
  unfold impl_sized.f
  by_cases h : 1 ≤ W ∧ W ≤ 64 ∧ 1 ≤ H ∧ H ≤ 64
  · have := mul_bd (c := 64) (d := 64) (show 0 ≤ W by omega) h.2.1 (show 0 ≤ H by omega) h.2.2.2
    rw [if_pos (by omega), if_pos (by omega), if_pos (by omega), if_pos (by omega), w64 (by omega) (by omega)]
    exact dec_dd (by unfold Sz; omega)
  · repeat' split
    all_goals first | exact dec_ff (by unfold Sz; omega) | (exfalso; omega)
theorem pict_i {W H : Int} {l : List Int} (hl : l.length ≤ 1048576) : impl_IsPicture.f W H l = some (decide (Up W H l 255)) := by
  unfold impl_IsPicture.f
  rw [size_i, Option.bind_some]
  by_cases h : Sz W H
  · have := h.area
    rw [if_pos (decide_eq_true h), w64 (by omega) (by omega), within_i hl]
    by_cases e : (l.length : Int) = W * H
    · rw [if_pos e]; exact dec_dd ⟨fun x => ⟨h, e, x⟩, fun x => x.2.2⟩
    · rw [if_neg e]; exact dec_ff (fun x => e x.2.1)
  · rw [if_neg (by rw [decide_eq_true_iff]; exact h)]; exact dec_ff (fun x => h x.1)
theorem plate_i {W H : Int} {l : List Int} (hl : l.length ≤ 1048576) : impl_IsPlate.f W H l = some (decide (Up W H l 1)) := by
  unfold impl_IsPlate.f
  rw [pict_i hl, Option.bind_some, within_i hl]
  by_cases h : Up W H l 255
  · rw [if_pos (decide_eq_true h)]; exact dec_dd ⟨fun x => ⟨h.1, h.2.1, x⟩, fun x => x.2.2⟩
  · rw [if_neg (by rw [decide_eq_true_iff]; exact h)]; exact dec_ff (fun x => h ⟨x.1, x.2.1, fun v hv => ⟨(x.2.2 v hv).1, by have := (x.2.2 v hv).2; omega⟩⟩)
theorem alike_i (a b c d : Int) {l m : List Int} (hl : l.length ≤ 1048576) (hm : m.length ≤ 1048576) : impl_alike.f a b l c d m = some (decide ((Up a b l 255 ∧ Up c d m 255) ∧ a = c ∧ b = d)) := by
  unfold impl_alike.f
  rw [pict_i hl, Option.bind_some, pict_i hm, Option.bind_some]
  by_cases h : Up a b l 255
  · rw [if_pos (decide_eq_true h)]
    by_cases h2 : Up c d m 255
    · rw [if_pos (decide_eq_true h2)]
      by_cases h3 : a = c
      · rw [if_pos h3]
        by_cases h4 : b = d
        · rw [decide_eq_true (show (Up a b l 255 ∧ Up c d m 255) ∧ a = c ∧ b = d from ⟨⟨h, h2⟩, h3, h4⟩), beq_iff_eq.mpr h4]
        · rw [beq_eq_false_iff_ne.mpr h4]; exact dec_ff (fun x => h4 x.2.2)
      · rw [if_neg h3]; exact dec_ff (fun x => h3 x.2.1)
    · rw [if_neg (by rw [decide_eq_true_iff]; exact h2)]; exact dec_ff (fun x => h2 x.1.2)
  · rw [if_neg (by rw [decide_eq_true_iff]; exact h)]; exact dec_ff (fun x => h x.1.1)
/-- every one a plate of the first one's size -/
def likeF (a b : Int) (l : List S25) : Prop := ∀ x ∈ l, Up x.f0 x.f1 x.f2 1 ∧ x.f0 = a ∧ x.f1 = b
instance (a b : Int) (l : List S25) : Decidable (likeF a b l) := inferInstanceAs (Decidable (∀ x ∈ l, _))
def Stk (l : List S25) : Prop := (1 ≤ l.length ∧ l.length ≤ 4) ∧ likeF (rd_T25 l 0).f0 (rd_T25 l 0).f1 l
instance (l : List S25) : Decidable (Stk l) := inferInstanceAs (Decidable (_ ∧ _))
theorem likeF_cons {a b : Int} {x : S25} {l : List S25} : likeF a b (x :: l) ↔ (Up x.f0 x.f1 x.f2 1 ∧ x.f0 = a ∧ x.f1 = b) ∧ likeF a b l := by simp [likeF]
theorem stackl_i {l : List S25} (hl : l.length ≤ 4) (hq : ∀ x ∈ l, x.f2.length ≤ 1048576) (d : Nat) : ∀ (k : Nat) (i : Int), 0 ≤ i → i ≤ l.length → (l.length : Int) - i = d → (0 < i → Up (rd_T25 l 0).f0 (rd_T25 l 0).f1 (rd_T25 l 0).f2 1) → d < k →
    impl_IsStack.l0 k l l l.length i = some (decide (likeF (rd_T25 l 0).f0 (rd_T25 l 0).f1 (l.drop i.toNat))) := by
  induction d with
  | zero =>
    intro k i i0 i1 hd h0 hk
    obtain ⟨k, rfl⟩ : ∃ m, k = m + 1 := ⟨k - 1, by omega⟩
    rw [impl_IsStack.l0, if_neg (by omega), List.drop_eq_nil_of_le (by omega), decide_eq_true (show likeF _ _ [] from fun x hx => by simp at hx)]
  | succ d ih =>
    intro k i i0 i1 hd h0 hk
    obtain ⟨k, rfl⟩ : ∃ m, k = m + 1 := ⟨k - 1, by omega⟩
    have hi : i < l.length := by omega
    rw [impl_IsStack.l0, if_pos hi, if_pos i0, if_pos hi, plate_i (hq _ (mem_p i0 hi)), Option.bind_some, drop_p l i0 hi, w64 (by omega) (by omega)]
    by_cases h : Up (rd_T25 l i).f0 (rd_T25 l i).f1 (rd_T25 l i).f2 1
    · have hu : Up (rd_T25 l 0).f0 (rd_T25 l 0).f1 (rd_T25 l 0).f2 1 := by
        by_cases e : 0 < i
        · exact h0 e
        · rw [show i = 0 by omega] at h; exact h
      rw [if_pos (decide_eq_true h), if_pos (by omega), alike_i _ _ _ _ (hq _ (mem_p i0 hi)) (hq _ (mem_p (by omega) (by omega))), Option.bind_some]
      by_cases h1 : (rd_T25 l i).f0 = (rd_T25 l 0).f0 ∧ (rd_T25 l i).f1 = (rd_T25 l 0).f1
      · rw [if_pos (decide_eq_true ⟨⟨up_wide h, up_wide hu⟩, h1⟩), ih k (i + 1) (by omega) (by omega) (by omega) (fun _ => hu) (by omega)]
        exact dec_dd (by rw [likeF_cons]; exact ⟨fun x => ⟨⟨h, h1⟩, x⟩, fun x => x.2⟩)
      · rw [if_neg (by rw [decide_eq_true_iff]; exact fun x => h1 x.2)]; exact dec_ff (by rw [likeF_cons]; exact fun x => h1 x.1.2)
    · rw [if_neg (by rw [decide_eq_true_iff]; exact h)]; exact dec_ff (by rw [likeF_cons]; exact fun x => h x.1.1)
theorem stack_i {l : List S25} (hl : l.length ≤ 1048576) (hq : ∀ x ∈ l, x.f2.length ≤ 1048576) {k : Nat} (hk : 100 ≤ k) : impl_IsStack.f k l = some (decide (Stk l)) := by
  obtain ⟨k, rfl⟩ : ∃ m, k = m + 1 := ⟨k - 1, by omega⟩
  unfold impl_IsStack.f
  by_cases h : 1 ≤ (l.length : Int) ∧ (l.length : Int) ≤ 4
  · rw [if_neg (by omega), impl_IsStack.j0, if_neg (by rw [decide_eq_true_iff]; omega), stackl_i (by omega) hq l.length k 0 (by omega) (by omega) (by omega) (fun z => by omega) (by omega)]
    exact dec_dd (by unfold Stk; exact ⟨fun x => ⟨by omega, x⟩, fun x => x.2⟩)
  · have e : some false = some (decide (Stk l)) := dec_ff (fun x => h (by have := x.1; omega))
    by_cases h1 : (l.length : Int) < 1
    · rw [if_pos h1, impl_IsStack.j0, if_pos rfl, e]
    · rw [if_neg h1, impl_IsStack.j0, if_pos (by rw [decide_eq_true_iff]; omega), e]
theorem stk_up {l : List S25} (h : Stk l) : ∀ x ∈ l, Up (rd_T25 l 0).f0 (rd_T25 l 0).f1 x.f2 1 := by
  intro x hx
  obtain ⟨h1, h2, h3⟩ := h.2 x hx
  rw [← h2, ← h3]; exact h1
theorem stk_sz {l : List S25} (h : Stk l) : Sz (rd_T25 l 0).f0 (rd_T25 l 0).f1 := by
  have := h.1
  exact (stk_up h _ (mem_p (l := l) (i := 0) (by omega) (by omega))).1
theorem shl_bit {b j : Int} (hb : In 1 b) (h0 : 0 ≤ j) (h1 : j ≤ 3) : shl .i64 b j = b * p2 j := by
  unfold In at hb
  unfold shl
  have hj : j = 0 ∨ j = 1 ∨ j = 2 ∨ j = 3 := by omega
  rcases hj with rfl | rfl | rfl | rfl
  · show IntKind.i64.wrap (b * 1) = b * 1
    rw [i64_w, w64 (by omega) (by omega)]
  · show IntKind.i64.wrap (b * 2) = b * 2
    rw [i64_w, w64 (by omega) (by omega)]
  · show IntKind.i64.wrap (b * 4) = b * 4
    rw [i64_w, w64 (by omega) (by omega)]
  · show IntKind.i64.wrap (b * 8) = b * 8
    rw [i64_w, w64 (by omega) (by omega)]
def mkL (i : Int) : List S25 → Int → Int → Int
  | [], _, s => s
  | x :: r, j, s => mkL i r (j + 1) (wrap64 (s + shl .i64 (at_ x.f2 i) j))
theorem mkL_bd (i : Int) : ∀ (r : List S25) (j s : Int), (∀ x ∈ r, In 1 (at_ x.f2 i)) → 0 ≤ j → j + r.length ≤ 4 → 0 ≤ s → s < p2 j → 0 ≤ mkL i r j s ∧ mkL i r j s < p2 (j + r.length) := by
  intro r
  induction r with
  | nil => intro j s _ _ _ s0 s1; simp [mkL]; exact ⟨s0, s1⟩
  | cons x r ih =>
    intro j s hx j0 j1 s0 s1
    rw [List.length_cons] at j1
    have hb : 0 ≤ at_ x.f2 i ∧ at_ x.f2 i ≤ 1 := hx x List.mem_cons_self
    have hp := p2_bd j
    have hst := p2_step j0 (by omega)
    rw [mkL, shl_bit hb j0 (by omega)]
    have e : at_ x.f2 i * p2 j = 0 ∨ at_ x.f2 i * p2 j = p2 j := by
      have : at_ x.f2 i = 0 ∨ at_ x.f2 i = 1 := by omega
      rcases this with h | h <;> rw [h] <;> simp
    rw [w64 (by omega) (by omega)]
    have := ih (j + 1) (s + at_ x.f2 i * p2 j) (fun y hy => hx y (List.mem_cons_of_mem _ hy)) (by omega) (by omega) (by omega) (by omega)
    rw [List.length_cons, show j + ((r.length + 1 : Nat) : Int) = j + 1 + r.length by omega]; exact this
theorem mkL_stk {l : List S25} (h : Stk l) {i : Int} (i0 : 0 ≤ i) (i1 : i < (rd_T25 l 0).f0 * (rd_T25 l 0).f1) : 0 ≤ mkL i l 0 0 ∧ mkL i l 0 0 < p2 l.length := by
  have h1 := h.1
  have := mkL_bd i l 0 0 (fun x hx => by
    have hu := stk_up h x hx; have := hu.2.1
    exact hu.2.2 _ (at_mem i0 (by omega))) (by omega) (by omega) (by omega) (by decide)
  rw [Int.zero_add] at this; exact this
theorem shl_one {n : Nat} (h : 1 ≤ n ∧ n ≤ 4) : shl .i64 1 (n : Int) = p2 n := by
  have : n = 1 ∨ n = 2 ∨ n = 3 ∨ n = 4 := by omega
  rcases this with rfl | rfl | rfl | rfl <;> rfl
theorem markl_i {l : List S25} (hl : l.length ≤ 1048576) {i : Int} (i0 : 0 ≤ i) (hi : ∀ x ∈ l, i < (x.f2.length : Int)) (d : Nat) : ∀ (k : Nat) (s j : Int), 0 ≤ j → j ≤ l.length → (l.length : Int) - j = d → d < k →
    impl_mark.l0 k i s l l.length j = some (mkL i (l.drop j.toNat) j s) := by
  induction d with
  | zero =>
    intro k s j j0 j1 hd hk
    obtain ⟨k, rfl⟩ : ∃ m, k = m + 1 := ⟨k - 1, by omega⟩
    rw [impl_mark.l0, if_neg (by omega), List.drop_eq_nil_of_le (by omega)]; rfl
  | succ d ih =>
    intro k s j j0 j1 hd hk
    obtain ⟨k, rfl⟩ : ∃ m, k = m + 1 := ⟨k - 1, by omega⟩
    have hj : j < l.length := by omega
    rw [impl_mark.l0, if_pos hj, if_pos j0, if_pos hj, if_pos i0, if_pos (hi _ (mem_p j0 hj)), w64 (x := j + 1) (by omega) (by omega), ih k _ (j + 1) (by omega) (by omega) (by omega) (by omega), drop_p l j0 hj, mkL, rd_at]
theorem mark_i {l : List S25} (h : Stk l) {i : Int} (i0 : 0 ≤ i) (i1 : i < (rd_T25 l 0).f0 * (rd_T25 l 0).f1) {k : Nat} (hk : 10 ≤ k) : impl_mark.f k l i = some (mkL i l 0 0) := by
  unfold impl_mark.f
  have := h.1
  rw [markl_i (by omega) i0 (fun x hx => by have := (stk_up h x hx).2.1; omega) l.length k 0 0 (by omega) (by omega) (by omega) (by omega)]; rfl
def cntL (l : List S25) : Nat → Int → List Int → List Int
  | 0, _, c => c
  | d + 1, i, c => cntL l d (i + 1) (c.set (mkL i l 0 0).toNat (wrap64 (at_ c (mkL i l 0 0) + 1)))
theorem cntL_len (l : List S25) : ∀ (d : Nat) (i : Int) (c : List Int), (cntL l d i c).length = c.length := by
  intro d
  induction d with
  | zero => intro i c; rfl
  | succ d ih => intro i c; rw [cntL, ih, List.length_set]
def countsOf (l : List S25) : List Int := if Stk l then cntL l (rd_T25 l 0).f2.length 0 (List.replicate (p2 l.length).toNat 0) else []
theorem countsOf_len {l : List S25} (h : Stk l) : ((countsOf l).length : Int) = p2 l.length := by
  have := p2_bd l.length
  unfold countsOf; rw [if_pos h, cntL_len, List.length_replicate]; omega
theorem countsl_i {l : List S25} (h : Stk l) (n : Nat) (hn : n ≤ (rd_T25 l 0).f0 * (rd_T25 l 0).f1) (d : Nat) : ∀ (k : Nat) (c : List Int) (i : Int), 0 ≤ i → i ≤ n → (n : Int) - i = d → (c.length : Int) = p2 l.length → d + 20 < k →
    impl_MarkCounts.l0 k l c n i = some (cntL l d i c) := by
  have hp := p2_bd l.length
  have hs := (stk_sz h).area
  induction d with
  | zero =>
    intro k c i i0 i1 hd hc hk
    obtain ⟨k, rfl⟩ : ∃ m, k = m + 1 := ⟨k - 1, by omega⟩
    rw [impl_MarkCounts.l0, if_neg (by omega)]; rfl
  | succ d ih =>
    intro k c i i0 i1 hd hc hk
    obtain ⟨k, rfl⟩ : ∃ m, k = m + 1 := ⟨k - 1, by omega⟩
    have hm := mkL_stk h i0 (by omega)
    rw [impl_MarkCounts.l0, if_pos (by omega), mark_i h i0 (by omega) (by omega), Option.bind_some, if_pos hm.1, if_pos (by omega), w64 (x := i + 1) (by omega) (by omega), rd_at, ih k _ (i + 1) (by omega) (by omega) (by omega) (by rw [List.length_set]; exact hc) (by omega)]; rfl
theorem counts_i {l : List S25} (hl : l.length ≤ 1048576) (hq : ∀ x ∈ l, x.f2.length ≤ 1048576) {k : Nat} (hk : 1300000 ≤ k) : impl_MarkCounts.f k l = some (countsOf l) := by
  unfold impl_MarkCounts.f countsOf
  rw [stack_i hl hq (by omega), Option.bind_some]
  by_cases h : Stk l
  · have h1 := h.1
    have hp := p2_bd l.length
    have hs := (stk_sz h).area
    have hu := stk_up h _ (mem_p (l := l) (i := 0) (by omega) (by omega))
    have hun := hu.2.1
    rw [if_pos (decide_eq_true h), if_pos h, shl_one h1, if_pos (by omega), if_pos (by omega), if_pos (by omega)]
    exact countsl_i h (rd_T25 l 0).f2.length (by omega) _ k _ 0 (by omega) (by omega) (by omega) (by rw [List.length_replicate]; omega) (by omega)
  · rw [if_neg (by rw [decide_eq_true_iff]; exact h), if_neg h]
theorem likel_c (xs : List Int) (hl : xs.length ≤ 140737488351232) {W H : Int} (hs : Sz W H) (d : Nat) : ∀ (k : Nat) (j i h : Int) (M : List Int), 0 ≤ i → i ≤ xs.length → 0 ≤ j → Up W H M 1 → W * H - j = d → d < k →
    ∃ l, spec_MakeLike.l0 k (W * H) j xs i h W H M = some (W, H, l) ∧ Up W H l 1 := by
  have ha := hs.area
  induction d with
  | zero =>
    intro k j i h M i0 i1 j0 hu hd hk
    obtain ⟨k, rfl⟩ : ∃ m, k = m + 1 := ⟨k - 1, by omega⟩
    rw [spec_MakeLike.l0, if_neg (by omega)]; exact ⟨M, rfl, hu⟩
  | succ d ih =>
    intro k j i h M i0 i1 j0 hu hd hk
    obtain ⟨k, rfl⟩ : ∃ m, k = m + 1 := ⟨k - 1, by omega⟩
    have hln := hu.2.1
    obtain ⟨r, i', h', e, r0, r1, a0, a1⟩ := below_c xs hl i h 2 i0 i1 (by omega) (by omega)
    rw [spec_MakeLike.l0, if_pos (by omega), e, Option.bind_some]
    simp only
    rw [if_pos j0, if_pos (by omega), w64 (by omega) (by omega)]
    exact ih k (j + 1) i' h' _ a0 a1 (by omega) (hu.set ⟨r0, by omega⟩) (by omega) (by omega)
theorem like_c (xs : List Int) (hl : xs.length ≤ 140737488351232) {W H : Int} (hs : Sz W H) (m : List Int) {k : Nat} (hk : 5000 ≤ k) : ∃ l, spec_MakeLike.f k xs W H m = some (W, H, l) ∧ Up W H l 1 := by
  obtain ⟨h, e⟩ := new_c xs k (by omega)
  have ha := hs.area
  unfold spec_MakeLike.f
  rw [e, Option.bind_some, empty_s hs, Option.bind_some]
  have hu : Up W H (List.replicate (W * H).toNat 0) 1 := ⟨hs, by rw [List.length_replicate]; omega, fun v hv => by rw [(List.mem_replicate.mp hv).2]; exact ⟨by omega, by omega⟩⟩
  have hl2 := hu.2.1
  simp only
  rw [hl2]
  exact likel_c xs hl hs (W * H).toNat k 0 0 h _ (by omega) (by omega) (by omega) hu (by omega) (by omega)
theorem freshl_c (xs : List Int) (a : Int) (d : Nat) : ∀ (k : Nat) (o : List Int) (i : Int), 0 ≤ i → i ≤ 600 → 600 - i = d → (o.length : Int) = i + 1 → d < k → ∃ ys, laws_fresh.l0 k xs a o i = some ys ∧ ys.length ≤ 700 := by
  induction d with
  | zero =>
    intro k o i i0 i1 hd ho hk
    obtain ⟨k, rfl⟩ : ∃ m, k = m + 1 := ⟨k - 1, by omega⟩
    have h6 : ¬ i < 600 := by omega
    rw [laws_fresh.l0]
    by_cases h : i < (xs.length : Int)
    · rw [if_pos h, if_neg h6]; exact ⟨o, rfl, by omega⟩
    · rw [if_neg h]; exact ⟨o, rfl, by omega⟩
  | succ d ih =>
    intro k o i i0 i1 hd ho hk
    obtain ⟨k, rfl⟩ : ∃ m, k = m + 1 := ⟨k - 1, by omega⟩
    rw [laws_fresh.l0]
    by_cases h : i < (xs.length : Int)
    · rw [if_pos h, if_pos (by omega), if_pos i0, if_pos (by omega), w64 (x := i + 1) (by omega) (by omega)]
      exact ih k _ (i + 1) (by omega) (by omega) (by omega) (by rw [List.length_append]; simp; omega) (by omega)
    · rw [if_neg h]; exact ⟨o, rfl, by omega⟩
theorem fresh_c (xs : List Int) (a : Int) {k : Nat} (hk : 1000 ≤ k) : ∃ ys, laws_fresh.f k xs a = some ys ∧ ys.length ≤ 700 := by
  unfold laws_fresh.f
  exact freshl_c xs a 600 k _ 0 (by omega) (by omega) (by omega) (by simp) (by omega)
theorem pow_one_le (d : Nat) : (1 : Int) ≤ 2 ^ d := by
  induction d with
  | zero => simp
  | succ d ih => rw [Int.pow_succ]; omega
theorem powerl_c (d : Nat) : ∀ (k : Nat) (m : Int), d < k → d ≤ 60 → 0 ≤ m → m * 2 ^ d ≤ 4611686018427387904 → laws_power.l0 k d m = some (m * 2 ^ d) := by
  induction d with
  | zero =>
    intro k m hk _ _ _
    obtain ⟨k, rfl⟩ : ∃ m, k = m + 1 := ⟨k - 1, by omega⟩
    rw [laws_power.l0, if_neg (by decide)]; simp
  | succ d ih =>
    intro k m hk hd m0 hb
    obtain ⟨k, rfl⟩ : ∃ m, k = m + 1 := ⟨k - 1, by omega⟩
    have e : m * 2 ^ (d + 1) = 2 * m * 2 ^ d := by rw [Int.pow_succ, Int.mul_comm 2 m, Int.mul_assoc, Int.mul_comm (2 ^ d) 2]
    rw [e] at hb
    have h1 := pow_one_le d
    have h2 := Int.mul_le_mul_of_nonneg_left h1 (show 0 ≤ 2 * m by omega)
    rw [laws_power.l0, if_pos (by omega), w64 (x := ((d + 1 : Nat) : Int) - 1) (by omega) (by omega), w64 (x := 2 * m) (by omega) (by omega), show ((d + 1 : Nat) : Int) - 1 = d by omega, ih k (2 * m) (by omega) (by omega) (by omega) hb, e]
theorem power_c {n : Nat} (hn : n ≤ 4) {k : Nat} (hk : 10 ≤ k) : laws_power.f k n = some (p2 n) := by
  have hc : n = 0 ∨ n = 1 ∨ n = 2 ∨ n = 3 ∨ n = 4 := by omega
  unfold laws_power.f
  rcases hc with rfl | rfl | rfl | rfl | rfl <;> (rw [powerl_c _ k 1 (by omega) (by omega) (by omega) (by decide)]; rfl)
/-- the bits of a mark are the points of the plates -/
theorem mark_bit {l : List S25} (h1 : 1 ≤ l.length) (h4 : l.length ≤ 4) {i : Int} (hx : ∀ x ∈ l, In 1 (at_ x.f2 i)) {q : Int} (q0 : 0 ≤ q) (q1 : q < l.length) : bitF (p2 q) (mkL i l 0 0) = at_ (rd_T25 l q).f2 i := by
  have b : ∀ x ∈ l, at_ x.f2 i = 0 ∨ at_ x.f2 i = 1 := fun x hx' => by have := hx x hx'; unfold In at this; omega
  match l, h1, h4 with
  | [a], _, _ =>
    have ha := hx a (by simp); have ba := b a (by simp)
    have e1 : shl .i64 (at_ a.f2 i) 0 = at_ a.f2 i * 1 := shl_bit ha (by omega) (by omega)
    simp only [mkL]
    rw [e1, w64 (x := 0 + at_ a.f2 i * 1) (by omega) (by omega)]
    have hq : q = 0 := by simp at q1; omega
    subst hq
    show bitF 1 _ = at_ a.f2 i
    unfold bitF
    rcases ba with z | z <;> rw [z] <;> decide
  | [a, c], _, _ =>
    have ha := hx a (by simp); have ba := b a (by simp); have hc := hx c (by simp); have bc := b c (by simp)
    have e1 : shl .i64 (at_ a.f2 i) 0 = at_ a.f2 i * 1 := shl_bit ha (by omega) (by omega)
    have e2 : shl .i64 (at_ c.f2 i) (0 + 1) = at_ c.f2 i * 2 := shl_bit (j := 1) hc (by omega) (by omega)
    simp only [mkL]
    rw [e1, e2, w64 (x := 0 + at_ a.f2 i * 1) (by omega) (by omega), w64 (x := 0 + at_ a.f2 i * 1 + at_ c.f2 i * 2) (by omega) (by omega)]
    have hq : q = 0 ∨ q = 1 := by simp at q1; omega
    rcases hq with rfl | rfl
    · show bitF 1 _ = at_ a.f2 i
      unfold bitF
      rcases ba with z | z <;> rcases bc with y | y <;> rw [z, y] <;> decide
    · show bitF 2 _ = at_ c.f2 i
      unfold bitF
      rcases ba with z | z <;> rcases bc with y | y <;> rw [z, y] <;> decide
  | [a, c, d], _, _ =>
    have ha := hx a (by simp); have ba := b a (by simp); have hc := hx c (by simp); have bc := b c (by simp); have hd := hx d (by simp); have bd := b d (by simp)
    have e1 : shl .i64 (at_ a.f2 i) 0 = at_ a.f2 i * 1 := shl_bit ha (by omega) (by omega)
    have e2 : shl .i64 (at_ c.f2 i) (0 + 1) = at_ c.f2 i * 2 := shl_bit (j := 1) hc (by omega) (by omega)
    have e3 : shl .i64 (at_ d.f2 i) (0 + 1 + 1) = at_ d.f2 i * 4 := shl_bit (j := 2) hd (by omega) (by omega)
    simp only [mkL]
    rw [e1, e2, e3, w64 (x := 0 + at_ a.f2 i * 1) (by omega) (by omega), w64 (x := 0 + at_ a.f2 i * 1 + at_ c.f2 i * 2) (by omega) (by omega), w64 (x := 0 + at_ a.f2 i * 1 + at_ c.f2 i * 2 + at_ d.f2 i * 4) (by omega) (by omega)]
    have hq : q = 0 ∨ q = 1 ∨ q = 2 := by simp at q1; omega
    rcases hq with rfl | rfl | rfl
    · show bitF 1 _ = at_ a.f2 i
      unfold bitF
      rcases ba with z | z <;> rcases bc with y | y <;> rcases bd with x | x <;> rw [z, y, x] <;> decide
    · show bitF 2 _ = at_ c.f2 i
      unfold bitF
      rcases ba with z | z <;> rcases bc with y | y <;> rcases bd with x | x <;> rw [z, y, x] <;> decide
    · show bitF 4 _ = at_ d.f2 i
      unfold bitF
      rcases ba with z | z <;> rcases bc with y | y <;> rcases bd with x | x <;> rw [z, y, x] <;> decide
  | [a, c, d, e], _, _ =>
    have ha := hx a (by simp); have ba := b a (by simp); have hc := hx c (by simp); have bc := b c (by simp); have hd := hx d (by simp); have bd := b d (by simp); have he := hx e (by simp); have be := b e (by simp)
    have e1 : shl .i64 (at_ a.f2 i) 0 = at_ a.f2 i * 1 := shl_bit ha (by omega) (by omega)
    have e2 : shl .i64 (at_ c.f2 i) (0 + 1) = at_ c.f2 i * 2 := shl_bit (j := 1) hc (by omega) (by omega)
    have e3 : shl .i64 (at_ d.f2 i) (0 + 1 + 1) = at_ d.f2 i * 4 := shl_bit (j := 2) hd (by omega) (by omega)
    have e4 : shl .i64 (at_ e.f2 i) (0 + 1 + 1 + 1) = at_ e.f2 i * 8 := shl_bit (j := 3) he (by omega) (by omega)
    simp only [mkL]
    rw [e1, e2, e3, e4, w64 (x := 0 + at_ a.f2 i * 1) (by omega) (by omega), w64 (x := 0 + at_ a.f2 i * 1 + at_ c.f2 i * 2) (by omega) (by omega), w64 (x := 0 + at_ a.f2 i * 1 + at_ c.f2 i * 2 + at_ d.f2 i * 4) (by omega) (by omega), w64 (x := 0 + at_ a.f2 i * 1 + at_ c.f2 i * 2 + at_ d.f2 i * 4 + at_ e.f2 i * 8) (by omega) (by omega)]
    have hq : q = 0 ∨ q = 1 ∨ q = 2 ∨ q = 3 := by simp at q1; omega
    rcases hq with rfl | rfl | rfl | rfl
    · show bitF 1 _ = at_ a.f2 i
      unfold bitF
      rcases ba with z | z <;> rcases bc with y | y <;> rcases bd with x | x <;> rcases be with v | v <;> rw [z, y, x, v] <;> decide
    · show bitF 2 _ = at_ c.f2 i
      unfold bitF
      rcases ba with z | z <;> rcases bc with y | y <;> rcases bd with x | x <;> rcases be with v | v <;> rw [z, y, x, v] <;> decide
    · show bitF 4 _ = at_ d.f2 i
      unfold bitF
      rcases ba with z | z <;> rcases bc with y | y <;> rcases bd with x | x <;> rcases be with v | v <;> rw [z, y, x, v] <;> decide
    · show bitF 8 _ = at_ e.f2 i
      unfold bitF
      rcases ba with z | z <;> rcases bc with y | y <;> rcases bd with x | x <;> rcases be with v | v <;> rw [z, y, x, v] <;> decide
/-- what the marks add to a weighted sum of the counts -/
def SB (f : Int → Int) (l : List S25) : Nat → Int → Int
  | 0, _ => 0
  | d + 1, i => f (mkL i l 0 0) + SB f l d (i + 1)
theorem cntL_sum {l : List S25} (h : Stk l) (f : Int → Int) (d : Nat) : ∀ (i : Int) (c : List Int), 0 ≤ i → i + d ≤ (rd_T25 l 0).f0 * (rd_T25 l 0).f1 → (c.length : Int) = p2 l.length → (∀ j : Int, 0 ≤ j → j < c.length → 0 ≤ at_ c j ∧ at_ c j ≤ i) →
    S1 (fun j => f j * at_ (cntL l d i c) j) c.length = S1 (fun j => f j * at_ c j) c.length + SB f l d i ∧ (∀ j : Int, 0 ≤ j → j < c.length → 0 ≤ at_ (cntL l d i c) j ∧ at_ (cntL l d i c) j ≤ i + d) := by
  have hs := (stk_sz h).area
  induction d with
  | zero => intro i c i0 _ _ hb; exact ⟨by rw [cntL, SB]; omega, fun j j0 j1 => by have := hb j j0 j1; rw [cntL]; omega⟩
  | succ d ih =>
    intro i c i0 i1 hc hb
    have hm := mkL_stk h i0 (show i < (rd_T25 l 0).f0 * (rd_T25 l 0).f1 by omega)
    have hbm := hb _ hm.1 (by omega)
    have hset : ∀ j : Int, 0 ≤ j → at_ (c.set (mkL i l 0 0).toNat (wrap64 (at_ c (mkL i l 0 0) + 1))) j = if j = mkL i l 0 0 then at_ c (mkL i l 0 0) + 1 else at_ c j := fun j j0 => by
      rw [at_set hm.1 (by omega) j0, w64 (by omega) (by omega)]
    obtain ⟨h1, h2⟩ := ih (i + 1) (c.set (mkL i l 0 0).toNat (wrap64 (at_ c (mkL i l 0 0) + 1))) (by omega) (by omega) (by rw [List.length_set]; exact hc) (fun j j0 j1 => by
      rw [List.length_set] at j1
      have := hb j j0 j1
      rw [hset j j0]; split <;> omega)
    rw [List.length_set] at h1 h2
    refine ⟨?_, fun j j0 j1 => by have := h2 j j0 j1; rw [cntL]; omega⟩
    rw [cntL, h1, SB, S1_at (g := fun j => f j * at_ c j) (m := mkL i l 0 0) (e := f (mkL i l 0 0)) hm.1 (by omega) (by rw [hset _ hm.1, if_pos rfl, Int.mul_add, Int.mul_one]) (fun j j0 j1 hj => by rw [hset j j0, if_neg hj])]
    omega
theorem SB_one (l : List S25) (d : Nat) : ∀ i, SB (fun _ => 1) l d i = d := by
  induction d with
  | zero => intro i; rfl
  | succ d ih => intro i; rw [SB, ih]; omega
theorem SB_bit {l : List S25} (h : Stk l) {q : Int} (q0 : 0 ≤ q) (q1 : q < l.length) (d : Nat) : ∀ i : Int, 0 ≤ i → i + d = (rd_T25 l q).f2.length → SB (bitF (p2 q)) l d i = tot ((rd_T25 l q).f2.drop i.toNat) := by
  have hq := stk_up h _ (mem_p (l := l) q0 q1)
  induction d with
  | zero => intro i i0 hi; rw [SB, drop_end _ (by omega)]; rfl
  | succ d ih =>
    intro i i0 hi
    have hln := hq.2.1
    rw [SB, ih (i + 1) (by omega) (by omega), drop_at _ i0 (by omega), tot, mark_bit h.1.1 h.1.2 (fun x hx => by
      have hu := stk_up h x hx; have := hu.2.1
      exact hu.2.2 _ (at_mem i0 (by omega))) q0 q1]
theorem counts_sum {l : List S25} (h : Stk l) : tot (countsOf l) = (rd_T25 l 0).f2.length ∧ (∀ v ∈ countsOf l, 0 ≤ v ∧ v ≤ 1024) ∧ ∀ q : Int, 0 ≤ q → q < l.length → selL (p2 q) (countsOf l) 0 = tot (rd_T25 l q).f2 := by
  have h1 := h.1
  have hp := p2_bd l.length
  have hs := (stk_sz h).area
  have hu0 := (stk_up h _ (mem_p (l := l) (i := 0) (by omega) (by omega))).2.1
  have hcl := countsOf_len h
  have hz : ∀ j : Int, 0 ≤ j → j < (List.replicate (p2 l.length).toNat (0 : Int)).length → 0 ≤ at_ (List.replicate (p2 l.length).toNat (0 : Int)) j ∧ at_ (List.replicate (p2 l.length).toNat (0 : Int)) j ≤ 0 := by
    intro j j0 j1
    rw [List.length_replicate] at j1
    unfold at_; rw [List.getD_eq_getElem?_getD, List.getElem?_replicate, if_pos (by omega)]; simp
  have hz0 : ∀ f : Int → Int, S1 (fun j => f j * at_ (List.replicate (p2 l.length).toNat (0 : Int)) j) (List.replicate (p2 l.length).toNat (0 : Int)).length = 0 := by
    intro f
    rw [S1_congr (h := fun _ => 0) (fun j j0 j1 => by have := hz j j0 j1; rw [show at_ (List.replicate (p2 l.length).toNat (0 : Int)) j = 0 by omega, Int.mul_zero]), S1_const, Int.mul_zero]
  have key := fun f : Int → Int => cntL_sum h f (rd_T25 l 0).f2.length 0 (List.replicate (p2 l.length).toNat 0) (by omega) (by omega) (by rw [List.length_replicate]; omega) hz
  have hco : countsOf l = cntL l (rd_T25 l 0).f2.length 0 (List.replicate (p2 l.length).toNat 0) := by unfold countsOf; rw [if_pos h]
  have hlen : (List.replicate (p2 l.length).toNat (0 : Int)).length = (countsOf l).length := by rw [hco, cntL_len]
  refine ⟨?_, ?_, ?_⟩
  · have k1 := (key (fun _ => 1)).1
    rw [hz0, SB_one, ← hco, hlen] at k1
    rw [tot_S1, S1_congr (h := fun j => 1 * at_ (countsOf l) j) (fun j _ _ => (Int.one_mul _).symm), k1]; omega
  · intro v hv
    obtain ⟨j, hj, rfl⟩ := List.getElem_of_mem hv
    have := (key (fun _ => 1)).2 j (by omega) (by omega)
    rw [← hco, at_nat _ j hj] at this; omega
  · intro q q0 q1
    have hq := (stk_up h _ (mem_p (l := l) q0 q1)).2.1
    have k1 := (key (bitF (p2 q))).1
    rw [hz0, SB_bit h q0 q1 _ 0 (by omega) (by omega), ← hco, hlen] at k1
    rw [selL_S1, S1_congr (h := fun j => bitF (p2 q) j * at_ (countsOf l) j) (fun j _ _ => by rw [Int.zero_add]), k1]; simp
theorem marks2 {C : List Int} (hC : C.length ≤ 16) (hv : ∀ v ∈ C, 0 ≤ v ∧ v ≤ 1024) {L : List S25} {q : Int} (q0 : 0 ≤ q) (q1 : q ≤ 3) {W H : Int} {l : List Int} (hu : Up W H l 1) {K : Nat} (hnext : ∀ k, K ≤ k → laws_FnMarks.l1 k C L L.length (q + 1) = some true) (d : Nat) :
    ∀ (k : Nat) (s j : Int), 0 ≤ j → (C.length : Int) - j = d → 0 ≤ s → s ≤ j * 1024 → s + selL (p2 q) (C.drop j.toNat) j = tot l → d + K + 1200000 < k → laws_FnMarks.l2 k C q s L L.length q C C.length j W H l = some true := by
  have hp := p2_bd q; have ha := hu.1.area; have hln := hu.2.1
  induction d with
  | zero =>
    intro k s j j0 hd s0 s1 hs hk
    obtain ⟨k, rfl⟩ : ∃ m, k = m + 1 := ⟨k - 1, by omega⟩
    rw [drop_end C (by omega), selL, Int.add_zero] at hs
    rw [laws_FnMarks.l2, if_neg (by omega), tot_c (by omega) hu.2.2 (by omega) (by omega), Option.bind_some, if_pos hs, w64 (by omega) (by omega)]
    exact hnext k (by omega)
  | succ d ih =>
    intro k s j j0 hd s0 s1 hs hk
    obtain ⟨k, rfl⟩ : ∃ m, k = m + 1 := ⟨k - 1, by omega⟩
    have hvj := hv _ (at_mem j0 (show j < (C.length : Int) by omega))
    have c0 := Int.ediv_nonneg j0 (show 0 ≤ p2 q by omega); have c1 := Int.ediv_le_self (p2 q) j0
    obtain ⟨qn, rfl⟩ : ∃ qn : Nat, q = qn := ⟨q.toNat, by omega⟩
    rw [drop_at C j0 (by omega), selL] at hs
    rw [laws_FnMarks.l2, if_pos (by omega), if_pos j0, if_pos (by omega), power_c (by omega) (by omega), Option.bind_some, if_neg (by omega), tdiv_pos j0, w64 (x := j / p2 qn) (by omega) (by omega), tmod_pos c0, w64 (x := j + 1) (by omega) (by omega), rd_at]
    by_cases e : j / p2 qn % 2 = 1
    · rw [if_pos e, w64 (x := s + _) (by omega) (by omega)]
      rw [if_pos e] at hs
      exact ih k _ (j + 1) (by omega) (by omega) (by omega) (by omega) (by omega) (by omega)
    · rw [if_neg e]
      rw [if_neg e] at hs
      exact ih k _ (j + 1) (by omega) (by omega) (by omega) (by omega) (by omega) (by omega)
theorem marks1 {L : List S25} (h : Stk L) (d : Nat) : ∀ (k : Nat) (q : Int), 0 ≤ q → (L.length : Int) - q = d → (d : Int) * 1300000 < k → laws_FnMarks.l1 k (countsOf L) L L.length q = some true := by
  have h1 := h.1
  obtain ⟨_, hv, hsel⟩ := counts_sum h
  have hcl := countsOf_len h
  have hp := p2_bd L.length
  induction d with
  | zero =>
    intro k q q0 hd hk
    obtain ⟨k, rfl⟩ : ∃ m, k = m + 1 := ⟨k - 1, by omega⟩
    rw [laws_FnMarks.l1, if_neg (by omega)]
  | succ d ih =>
    intro k q q0 hd hk
    obtain ⟨k, rfl⟩ : ∃ m, k = m + 1 := ⟨k - 1, by omega⟩
    have hq : q < L.length := by omega
    have hx := h.2 _ (mem_p (l := L) q0 hq)
    rw [laws_FnMarks.l1, if_pos hq, if_pos q0, if_pos hq]
    obtain ⟨K, hK⟩ : ∃ K : Nat, (K : Int) = (d : Int) * 1300000 + 1 := ⟨d * 1300000 + 1, by rw [Int.natCast_add, Int.natCast_mul]; rfl⟩
    have hnext : ∀ k, K ≤ k → laws_FnMarks.l1 k (countsOf L) L L.length (q + 1) = some true := fun k hk => ih k (q + 1) (by omega) (by omega) (by omega)
    have hk2 : (countsOf L).length + K + 1200000 < k := by omega
    exact marks2 (by omega) hv q0 (by omega) hx.1 (K := K) hnext (countsOf L).length k 0 0 (by omega) (by omega) (by omega) (by omega) (by rw [Int.zero_add]; simpa using hsel q q0 hq) hk2
theorem marks0 {l0 : List Int} (hl0 : l0.length ≤ 140737488351232) (hw : ∀ x ∈ l0, (Lit.int .u8 x).wf = true) {v : Int} (ev : laws_at.f l0 1 = some v) (v0 : 0 ≤ v) {W H : Int} {l : List Int} (hu : Up W H l 1) (d : Nat) : ∀ (k : Nat) (L : List S25) (j : Int), 1 ≤ j → (L.length : Int) = j → 1 + v % 4 - j = d → (∀ x ∈ L, Up x.f0 x.f1 x.f2 1 ∧ x.f0 = W ∧ x.f1 = H) → d + 8000000 < k → laws_FnMarks.l0 k l0 L j W H l = some true := by
  have hv4 : 0 ≤ v % 4 ∧ v % 4 < 4 := by omega
  have ha := hu.1.area; have hln := hu.2.1
  induction d with
  | zero =>
    intro k L j j1 hj hd hL hk
    obtain ⟨k, rfl⟩ : ∃ m, k = m + 2 := ⟨k - 2, by omega⟩
    have hLl : 1 ≤ L.length ∧ L.length ≤ 4 := by omega
    have h00 := hL _ (mem_p (l := L) (i := 0) (by omega) (by omega))
    have hst : Stk L := ⟨hLl, fun x hx => by obtain ⟨a, b, c⟩ := hL x hx; exact ⟨a, by rw [b, h00.2.1], by rw [c, h00.2.2]⟩⟩
    have hq : ∀ x ∈ L, x.f2.length ≤ 1048576 := fun x hx => by have := (hL x hx).1.2.1; have := (hL x hx).1.1.area; omega
    obtain ⟨ht, hvs, hsel⟩ := counts_sum hst
    have hcl := countsOf_len hst
    have hp := p2_bd L.length
    have hn : ((rd_T25 L 0).f2.length : Int) = l.length := by have := h00.1.2.1; rw [h00.2.1, h00.2.2] at this; omega
    have hall : All 1024 (countsOf L) := hvs
    rw [laws_FnMarks.l0, ev, Option.bind_some, tmod_pos v0, w64 (x := 1 + v % 4) (by omega) (by omega), if_neg (by omega), counts_i (by omega) hq (by omega), Option.bind_some, stack_i (by omega) hq (by omega), Option.bind_some, if_pos (decide_eq_true hst), power_c hLl.2 (by omega), Option.bind_some, if_pos hcl, tot_c (by omega) hall (by omega) (by omega), Option.bind_some, ht, hn, bne_self_eq_false, laws_FnMarks.j1, if_neg (by decide)]
    exact marks1 hst L.length k 0 (by omega) (by omega) (by omega)
  | succ d ih =>
    intro k L j j1 hj hd hL hk
    obtain ⟨k, rfl⟩ : ∃ m, k = m + 1 := ⟨k - 1, by omega⟩
    obtain ⟨ys, ey, hy⟩ := fresh_c l0 j (k := k) (by omega)
    obtain ⟨m, em, hm⟩ := like_c ys (by omega) hu.1 l (k := k) (by omega)
    rw [laws_FnMarks.l0, ev, Option.bind_some, tmod_pos v0, w64 (x := 1 + v % 4) (by omega) (by omega), if_pos (by omega), ey, Option.bind_some, em, Option.bind_some, if_pos (by omega), w64 (x := j + 1) (by omega) (by omega)]
    refine ih k _ (j + 1) (by omega) (by rw [List.length_append]; simp; omega) (by omega) ?_ (by omega)
    intro x hx
    rcases List.mem_append.mp hx with z | z
    · exact hL x z
    · rw [List.mem_singleton.mp z]; exact ⟨hm, rfl, rfl⟩
theorem pure_FnMarks (l0 : List Int) (h0 : l0.length ≤ maxLen) (hl : l0.length * 1 ≤ 140737488351232) (hw : ∀ x ∈ l0, (Lit.int .u8 x).wf = true) : ∃ k, laws_FnMarks.f k l0 = some true := by
  obtain ⟨m, hm⟩ : ∃ m : Nat, 9000000 ≤ m := ⟨9000000, Nat.le_refl _⟩
  refine ⟨m + 8, ?_⟩
  unfold laws_FnMarks.f
  by_cases h : (l0.length : Int) > 1048576
  · rw [if_pos h]
  · rw [if_neg h]
    obtain ⟨W, H, l, e, hW, hH, hu⟩ := plate_c l0 (by omega) 7 (by omega) (by omega) (k := m + 8) (by omega)
    obtain ⟨v, ev, v0, v1⟩ := at_c l0 (by omega) hw 1 (by omega) (by omega)
    rw [e]; simp only [Option.bind_some]
    exact marks0 (by omega) hw ev v0 hu (v % 4).toNat (m + 8) _ 1 (by omega) rfl (by omega) (fun x hx => by rw [List.mem_singleton.mp hx]; exact ⟨hu, rfl, rfl⟩) (by omega)
end Go.Proofs.Ytheihidfbalioaa.PFnMarks
