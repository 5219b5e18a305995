/- What the functions that laws.FnDesk reaches compute on the script of the law, and that the law is true: over numbers and texts alone. -/
import Derived.Test.YtkcgnnepgebekaaGreatDoorPFnDeskx13
import Derived.Test.YtkcgnnepgebekaaGreatDoorPic2
import Derived.Laws.Strings
namespace Go.Proofs.YtkcgnnepgebekaaGreatDoor.PFnDesk
open Go.RowKit Go.Proofs.YtkcgnnepgebekaaGreatDoorW.PrintWords Go.Proofs.YtkcgnnepgebekaaGreatDoorW.PrintLast Go.Proofs.YtkcgnnepgebekaaGreatDoorW.PrintMore Go.Proofs.YtkcgnnepgebekaaGreatDoor.Pic
set_option linter.unusedVariables false
set_option linter.unusedSimpArgs false
set_option maxRecDepth 4000
set_option linter.unusedSimpArgs false
open Pic
theorem w64 {x : Int} (h1 : -9223372036854775808 ≤ x) (h2 : x ≤ 9223372036854775807) : wrap64 x = x := by unfold wrap64; omega
theorem rd_at (l : List Int) (i : Int) : rd l i = at_ l i := rfl
theorem tmod_pos {n x : Int} (h : 0 ≤ x) : Int.tmod x n = x % n := Int.tmod_eq_emod_of_nonneg h
theorem tdiv_pos {n x : Int} (h : 0 ≤ x) : Int.tdiv x n = x / n := Int.tdiv_eq_ediv_of_nonneg h
theorem dec_ff {p : Prop} [Decidable p] (h : ¬ p) : some false = some (decide p) := by rw [decide_eq_false h]
theorem dec_dd {p q : Prop} [Decidable p] [Decidable q] (h : p ↔ q) : some (decide p) = some (decide q) := by rw [decide_eq_decide.mpr h]
theorem up_wide {W H : Int} {l : List Int} (h : Up W H l 1) : Up W H l 255 := ⟨h.1, h.2.1, fun v hv => ⟨(h.2.2 v hv).1, by have := (h.2.2 v hv).2; omega⟩⟩
theorem size_i (W H : Int) : impl_sized.f W H = some (decide (Sz W H)) := by
  unfold impl_sized.f
  by_cases h : 1 ≤ W ∧ W ≤ 64 ∧ 1 ≤ H ∧ H ≤ 64
  · have := mul_bd (c := 64) (d := 64) (show 0 ≤ W by omega) h.2.1 (show 0 ≤ H by omega) h.2.2.2
    rw [if_pos (by omega), if_pos (by omega), if_pos (by omega), if_pos (by omega), w64 (by omega) (by omega)]
    exact dec_dd (by unfold Sz; omega)
  · repeat' split
    all_goals first | exact dec_ff (by unfold Sz; omega) | (exfalso; omega)
theorem nwB_eq (n : Int) : ∀ (l seen : List Int), Ext.nwB n l seen = decide (newL n l seen) := by
  intro l
  induction l with
  | nil => intro seen; rw [Ext.nwB, decide_eq_true (show newL n [] seen from trivial)]
  | cons v l ih =>
    intro seen
    rw [Ext.nwB, ih]
    by_cases h : (0 ≤ v ∧ v < n) ∧ v ∉ seen
    · rw [if_pos h]; exact decide_eq_decide.mpr ⟨fun z => ⟨h.1, h.2, z⟩, fun z => z.2.2⟩
    · rw [if_neg h, decide_eq_false (fun z => h ⟨z.1, z.2.1⟩)]
theorem mtx_i {W H : Int} {l : List Int} (hl : l.length ≤ 1048576) : impl_IsMatrix.f W H l = some (decide (Mtx W H l)) := by
  unfold impl_IsMatrix.f
  rw [if_pos (by omega)]
  simp only [Option.some.injEq]
  unfold Ext.mtxB
  have e : Ext.celB W H = true ↔ Cel W H := by unfold Ext.celB Cel; exact decide_eq_true_iff
  by_cases h : Ext.celB W H = true ∧ (l.length : Int) = W * H
  · rw [if_pos h, nwB_eq]; exact decide_eq_decide.mpr ⟨fun z => ⟨e.mp h.1, h.2, z⟩, fun z => z.2.2⟩
  · rw [if_neg h, decide_eq_false (fun z => h ⟨e.mpr z.1, z.2.1⟩)]
theorem mod_i {x n : Int} (h0 : 0 < n) (h1 : n ≤ 9223372036854775807) : impl_mod.f x n = some (x % n) := by
  unfold impl_mod.f
  rw [if_neg (by omega)]
  have h2 := Int.emod_nonneg x (show n ≠ 0 by omega)
  have h3 := Int.emod_lt_of_pos x h0
  have e := Int.tmod_eq_emod (a := x) (b := n)
  by_cases hc : 0 ≤ x ∨ n ∣ x
  · rw [if_pos hc] at e
    rw [e, if_neg (by omega)]; simp
  · rw [if_neg hc] at e
    rw [e, if_pos (by omega), w64 (by omega) (by omega)]; simp only [Option.some.injEq]; omega
theorem within_i {l : List Int} (hl : l.length ≤ 1048576) (m : Int) : impl_within.f l m = some (decide (All m l)) := by
  unfold impl_within.f
  rw [if_pos (by omega)]; simp only [Option.some.injEq]
  rw [Bool.eq_iff_iff, List.all_eq_true, decide_eq_true_iff]
  exact ⟨fun h v hv => of_decide_eq_true (h v hv), fun h v hv => decide_eq_true (h v hv)⟩
theorem pict_i {W H : Int} {l : List Int} (hl : l.length ≤ 1048576) : impl_IsPicture.f W H l = some (decide (Up W H l 255)) := by
  unfold impl_IsPicture.f
  rw [size_i, Option.bind_some]
  by_cases h : Sz W H
  · have := h.area
    rw [if_pos (decide_eq_true h), w64 (by omega) (by omega), within_i hl]
    by_cases e : (l.length : Int) = W * H
    · rw [if_pos e]; exact dec_dd ⟨fun x => ⟨h, e, x⟩, fun x => x.2.2⟩
    · rw [if_neg e]; exact dec_ff (fun x => e x.2.1)
  · rw [if_neg (by rw [decide_eq_true_iff]; exact h)]; exact dec_ff (fun x => h x.1)
theorem one_i (b : Bool) : impl_one.f b = some (if b = true then 1 else 0) := by unfold impl_one.f; split <;> rfl
theorem suml_i {l : List Int} (hl : l.length ≤ 1048576) (hA : All 1 l) (d : Nat) : ∀ (k : Nat) (s j : Int), 0 ≤ j → j ≤ l.length → 0 ≤ s → s ≤ j → (l.length : Int) - j = d → d < k → impl_SumInk.l0 k s l l.length j = some (s + cnt 1 (l.drop j.toNat)) := by
  induction d with
  | zero =>
    intro k s j j0 j1 s0 s1 hd hk
    obtain ⟨k, rfl⟩ : ∃ m, k = m + 1 := ⟨k - 1, by omega⟩
    rw [impl_SumInk.l0, if_neg (by omega), drop_end l (by omega)]; simp [cnt]
  | succ d ih =>
    intro k s j j0 j1 s0 s1 hd hk
    obtain ⟨k, rfl⟩ : ∃ m, k = m + 1 := ⟨k - 1, by omega⟩
    have ha : 0 ≤ at_ l j ∧ at_ l j ≤ 1 := hA _ (at_mem j0 (by omega))
    rw [impl_SumInk.l0, if_pos (by omega), if_pos j0, if_pos (by omega), drop_at l j0 (by omega), rd_at, w64 (x := s + _) (by omega) (by omega), w64 (x := j + 1) (by omega) (by omega), ih k _ (j + 1) (by omega) (by omega) (by omega) (by omega) (by omega) (by omega), cnt]
    split <;> (simp only [Option.some.injEq]; omega)
theorem sum_i {W H : Int} {l : List Int} (h : Up W H l 1) {k : Nat} (hk : 1100000 ≤ k) : impl_SumInk.f k W H l = some ((cnt 1 l : Nat) : Int) := by
  have := h.1.area; have := h.2.1
  unfold impl_SumInk.f
  rw [pict_i (by omega), Option.bind_some, if_pos (decide_eq_true ⟨h.1, h.2.1, fun v hv => ⟨(h.2.2 v hv).1, by have := (h.2.2 v hv).2; omega⟩⟩), suml_i (by omega) h.2.2 l.length k 0 0 (by omega) (by omega) (by omega) (by omega) (by omega) (by omega), Int.zero_add]; rfl
theorem gcd_i (d : Nat) : ∀ (k : Nat) (a b : Int), b.natAbs < d → d < k → impl_gcd.l0 k a b = some (gcdF d a b) := by
  induction d with
  | zero => intro k a b h _; omega
  | succ d ih =>
    intro k a b h hk
    obtain ⟨k, rfl⟩ : ∃ m, k = m + 1 := ⟨k - 1, by omega⟩
    rw [impl_gcd.l0, gcdF]
    by_cases e : b = 0
    · rw [if_pos e, if_pos e]
    · rw [if_neg e, if_neg e]
      refine ih k b _ ?_ (by omega)
      rw [Int.natAbs_tmod]
      have := Nat.mod_lt a.natAbs (show 0 < b.natAbs by omega)
      omega
theorem plate_i {W H : Int} {l : List Int} (hl : l.length ≤ 1048576) : impl_IsPlate.f W H l = some (decide (Up W H l 1)) := by
  unfold impl_IsPlate.f
  rw [pict_i hl, Option.bind_some, within_i hl]
  by_cases h : Up W H l 255
  · rw [if_pos (decide_eq_true h)]; exact dec_dd ⟨fun x => ⟨h.1, h.2.1, x⟩, fun x => x.2.2⟩
  · rw [if_neg (by rw [decide_eq_true_iff]; exact h)]; exact dec_ff (fun x => h ⟨x.1, x.2.1, fun v hv => ⟨(x.2.2 v hv).1, by have := (x.2.2 v hv).2; omega⟩⟩)
def dotL (W : Int) : List Int → Int → List Int
  | [], _ => []
  | v :: r, j => (if v = 1 then 35 else 46) :: (if j % W = W - 1 then 10 :: dotL W r (j + 1) else dotL W r (j + 1))
def dotT (W H : Int) (l : List Int) : ByteArray := if Up W H l 1 then strOfNums (dotL W l 0) else ⟨#[]⟩
theorem dotL_C {W : Int} (hW : 1 ≤ W) : ∀ (r : List Int) (j : Int), 0 ≤ j → dotL W r j = dotC W r (j % W) := by
  intro r
  induction r with
  | nil => intro j _; rfl
  | cons v r ih =>
    intro j h0
    have a1 := Int.emod_nonneg j (show W ≠ 0 by omega); have a2 := Int.emod_lt_of_pos j (show 0 < W by omega)
    rw [dotL, dotC, ih (j + 1) (by omega), ← Int.emod_add_emod j W 1]
    by_cases e : j % W = W - 1
    · rw [if_pos e, if_pos e, show j % W + 1 = W by omega, Int.emod_self]
    · rw [if_neg e, if_neg e, Int.emod_eq_of_lt (a := j % W + 1) (by omega) (by omega)]
theorem dot_b {v : Int} (h : In 1 v) : bt (⟨#[46, 35]⟩ : ByteArray) v = if v = 1 then 35 else 46 := by
  unfold In at h
  by_cases e : v = 1
  · subst e; rfl
  · have : v = 0 := by omega
    subst this; rfl
theorem dotl_i {W H : Int} {L : List Int} (hL : L.length ≤ 1048576) (hA : All 1 L) (hW : 1 ≤ W) (hW2 : W ≤ 64) (d : Nat) : ∀ (k : Nat) (a : List Int) (j : Int), 0 ≤ j → j ≤ L.length → (L.length : Int) - j = d → a.length ≤ 2 * j → d < k →
    impl_DotText.l0 k a L L.length j W H L = some (strOfNums (a ++ dotL W (L.drop j.toNat) j)) := by
  induction d with
  | zero =>
    intro k a j j0 j1 hd ha hk
    obtain ⟨k, rfl⟩ : ∃ m, k = m + 1 := ⟨k - 1, by omega⟩
    rw [impl_DotText.l0, if_neg (by omega), drop_end L (by omega), dotL, List.append_nil]
  | succ d ih =>
    intro k a j j0 j1 hd ha hk
    obtain ⟨k, rfl⟩ : ∃ m, k = m + 1 := ⟨k - 1, by omega⟩
    have hm : 0 ≤ at_ L j ∧ at_ L j ≤ 1 := hA _ (at_mem j0 (by omega))
    have z : ∀ c : Int, ((a ++ [c]).length : Int) ≤ 2 * (j + 1) := fun c => by simp; omega
    have z2 : ∀ c e : Int, (((a ++ [c]) ++ [e]).length : Int) ≤ 2 * (j + 1) := fun c e => by simp; omega
    rw [impl_DotText.l0, if_pos (by omega), if_pos j0, if_pos (by omega), drop_at L j0 (by omega), w64 (x := j + 1) (by omega) (by omega), w64 (x := W - 1) (by omega) (by omega), rd_at, if_pos hm.1, if_pos (by omega), if_pos (by omega), dot_b hm, Option.bind_some, if_neg (by omega), tmod_pos j0, dotL]
    generalize (if at_ L j = 1 then (35 : Int) else 46) = c
    by_cases e : j % W = W - 1
    · rw [if_pos e, if_pos e, if_pos (by simp; omega), ih k _ (j + 1) (by omega) (by omega) (by omega) (z2 _ 10) (by omega)]; simp
    · rw [if_neg e, if_neg e, ih k _ (j + 1) (by omega) (by omega) (by omega) (z _) (by omega)]; simp
theorem dots_i {W H : Int} {l : List Int} (hl : l.length ≤ 1048576) {k : Nat} (hk : 1100000 ≤ k) : impl_DotText.f k W H l = some (dotT W H l) := by
  unfold impl_DotText.f dotT
  rw [plate_i hl, Option.bind_some]
  by_cases h : Up W H l 1
  · rw [if_pos (decide_eq_true h), if_pos h]
    exact dotl_i hl h.2.2 h.1.1 h.1.2.1 l.length k [] 0 (by omega) (by omega) (by omega) (by simp) (by omega)
  · rw [if_neg (by rw [decide_eq_true_iff]; exact h), if_neg h]
theorem copied_i (W H : Int) {l : List Int} (hl : l.length ≤ 1048576) : impl_copied.f W H l = some (W, H, l) := by
  unfold impl_copied.f slices_Clone_int_int.f; rw [if_pos (by omega), Option.bind_some]
theorem at_c (xs : List Int) (hl : xs.length ≤ 140737488351232) (hw : ∀ x ∈ xs, (Lit.int .u8 x).wf = true) (i : Int) (h0 : 0 ≤ i) (h1 : i ≤ 1000) : ∃ v, laws_at.f xs i = some v ∧ 0 ≤ v ∧ v ≤ 255 := by
  unfold laws_at.f
  by_cases hlt : i < (xs.length : Int)
  · rw [if_pos hlt, if_pos h0]
    have hm : rd xs i ∈ xs := by
      have : i.toNat < xs.length := by omega
      unfold rd; rw [List.getD_eq_getElem?_getD, List.getElem?_eq_getElem this, Option.getD_some]; exact List.getElem_mem this
    have hb : 0 ≤ rd xs i ∧ rd xs i ≤ 255 := by
      have h := hw _ hm
      simp only [Lit.wf, Bool.and_eq_true, decide_eq_true_eq] at h
      exact h
    exact ⟨_, rfl, by rw [w64 (by omega) (by omega)]; exact hb.1, by rw [w64 (by omega) (by omega)]; exact hb.2⟩
  · rw [if_neg hlt]
    refine ⟨_, rfl, ?_⟩
    rw [w64 (x := i * 37) (by omega) (by omega), w64 (x := _ * 11) (by omega) (by omega), w64 (by omega) (by omega), tmod_pos (by omega)]
    omega
theorem idx_w {W H x y : Int} (hs : Sz W H) (x0 : 0 ≤ x) (x1 : x < W) (y0 : 0 ≤ y) (y1 : y < H) : wrap64 (wrap64 (y * W) + x) = y * W + x ∧ 0 ≤ y * W + x ∧ y * W + x < W * H ∧ (y * W + x) % W = x ∧ (y * W + x) / W = y := by
  have hi := xy_idx x0 x1 y0 y1
  have hW := hs.1; have hW2 := hs.2.1; have hH2 := hs.2.2.2.1; have ha := hs.area
  have q := mul_bd (c := 64) (d := 64) y0 (by omega) (show 0 ≤ W by omega) hW2
  refine ⟨by rw [w64 (x := y * W) (by omega) (by omega), w64 (by omega) (by omega)], hi.1, hi.2, ?_, ?_⟩
  · rw [Int.add_comm, Int.add_mul_emod_self_right, Int.emod_eq_of_lt x0 x1]
  · rw [Int.add_comm, Int.add_mul_ediv_right _ _ (by omega), Int.ediv_eq_zero_of_lt x0 x1, Int.zero_add]
def B (l : List UInt8) : ByteArray := ⟨l.toArray⟩
theorem B_l (l : List UInt8) : (B l).data.toList = l := rfl
theorem B_t (l : List UInt8) : (B l).toList = l := by rw [ByteArray.toList_eq]; rfl
theorem B_of (s : ByteArray) : B s.data.toList = s := rfl
theorem B_s (l : List UInt8) : (B l).size = l.length := rfl
theorem B_a (a b : List UInt8) : B a ++ B b = B (a ++ b) := by apply ByteArray.ext; rw [ByteArray.data_append]; simp [B]
theorem B_nums (l : List Int) : strOfNums l = B (l.map fun n => UInt8.ofNat n.toNat) := rfl
theorem index_hit1 (c : UInt8) (r : List UInt8) : ∀ l : List UInt8, c ∉ l → Lib.index (l ++ c :: r) [c] = (l.length : Int)
  | [], _ => by rw [Lib.index_one]; simp [Lib.indexByte]
  | b :: l, h => by
    have hb : b ≠ c := fun e => h (e ▸ List.mem_cons_self)
    have ih := index_hit1 c r l (fun hm => h (List.mem_cons_of_mem _ hm))
    rw [Lib.index_one] at ih ⊢
    rw [List.cons_append, Lib.indexByte, if_neg (by simpa using hb), ih, if_neg (by simp <;> omega)]
    simp
def joined (c : UInt8) : List UInt8 → List (List UInt8) → List UInt8
  | a, [] => a
  | a, b :: r => a ++ c :: joined c b r
theorem split_joined (c : UInt8) : ∀ (r : List (List UInt8)) (a : List UInt8), c ∉ a → (∀ x ∈ r, c ∉ x) → Lib.splitK [c] 0 r.length (joined c a r) = a :: r
  | [], a, _, _ => rfl
  | b :: r, a, h, hr => by
    have ih := split_joined c r b (hr b List.mem_cons_self) (fun x hx => hr x (List.mem_cons_of_mem _ hx))
    rw [joined, List.length_cons, Lib.splitK, index_hit1 c _ a h, if_neg (by simp <;> omega)]
    simp only [Int.toNat_natCast, Nat.add_zero, List.take_left', List.length_singleton]
    rw [show (a ++ c :: joined c b r).drop (a.length + 1) = joined c b r by simp, ih]
theorem count_joined (c : UInt8) : ∀ (r : List (List UInt8)) (a : List UInt8), c ∉ a → (∀ x ∈ r, c ∉ x) → (joined c a r).count c = r.length
  | [], a, h, _ => by rw [joined, List.count_eq_zero.2 h]; rfl
  | b :: r, a, h, hr => by
    have ih := count_joined c r b (hr b List.mem_cons_self) (fun x hx => hr x (List.mem_cons_of_mem _ hx))
    rw [joined, List.count_append, List.count_eq_zero.2 h, List.count_cons_self, ih, List.length_cons]; omega
theorem splitB_map (c : UInt8) (k : Nat) (l : List UInt8) : Lib.splitB (B [c]) 0 k (B l) = (Lib.splitK [c] 0 k l).map B := by
  have h := Lib.splitB_data (B [c]) 0 k (B l)
  rw [B_l, B_l] at h
  rw [← h, List.map_map]
  conv => lhs; rw [← List.map_id (Lib.splitB (B [c]) 0 k (B l))]
  exact List.map_congr_left fun x _ => (B_of x).symm
theorem split_c (c : UInt8) (r : List (List UInt8)) (a : List UInt8) (h : c ∉ a) (hr : ∀ x ∈ r, c ∉ x) (hs : (joined c a r).length < 4294967281) : strings_Split.f (B (joined c a r)) (B [c]) = some ((a :: r).map B) := by
  unfold strings_Split.f Ext.splitF
  rw [if_pos ⟨hs, Nat.le_refl 1⟩]
  have e : Lib.countB (B (joined c a r)) (B [c]) = r.length := by
    show Lib.count _ _ = _
    rw [B_l, B_l, Lib.count_one, count_joined c r a h hr]
  rw [e, splitB_map, split_joined c r a h hr]
theorem trim_none (s : List UInt8) (c : UInt8) (hb : s.getLast? ≠ some c) (hs : s.length < 1000000) : strings_TrimSuffix.f (B s) (B [c]) = some (B s) := by
  unfold strings_TrimSuffix.f Ext.trimF
  rw [if_pos (by rw [B_s]; omega), B_l, B_l, Lib.trimSuffix, if_neg]
  · rfl
  · rw [Lib.hasSuffix, List.isSuffixOf_iff_suffix]
    rintro ⟨t, e⟩
    exact hb (by rw [← e]; simp)
theorem trim_one (l : List UInt8) (c : UInt8) (hs : l.length < 1000000) : strings_TrimSuffix.f (B (l ++ [c])) (B [c]) = some (B l) := by
  unfold strings_TrimSuffix.f Ext.trimF
  rw [if_pos (by rw [B_s]; simp; omega), B_l, B_l, Lib.trimSuffix, if_pos]
  · simp [B]
  · rw [Lib.hasSuffix, List.isSuffixOf_iff_suffix]; exact ⟨l, rfl⟩
def swapB (c d : UInt8) (l : List UInt8) : List UInt8 := l.map fun b => if b = c then d else b
theorem swap_none (c d : UInt8) : ∀ l : List UInt8, c ∉ l → swapB c d l = l
  | [], _ => rfl
  | b :: l, h => by
    have hb : b ≠ c := fun e => h (e ▸ List.mem_cons_self)
    rw [swapB, List.map_cons, if_neg hb]
    exact congrArg _ (swap_none c d l (fun hm => h (List.mem_cons_of_mem _ hm)))
theorem cut_at (c : UInt8) : ∀ l : List UInt8, c ∈ l → ∃ a r, l = a ++ c :: r ∧ c ∉ a
  | b :: l, h => by
    by_cases hb : b = c
    · exact ⟨[], l, by rw [hb]; rfl, by simp⟩
    · obtain ⟨a, r, e, ha⟩ := cut_at c l ((List.mem_cons.1 h).resolve_left (fun e => hb e.symm))
      exact ⟨b :: a, r, by rw [e]; rfl, fun hm => (List.mem_cons.1 hm).elim (fun e => hb e.symm) ha⟩
theorem repl_swap (c d : UInt8) : ∀ (n : Nat) (l : List UInt8), l.count c = n → Lib.replaceK [c] [d] n l = swapB c d l
  | 0, l, h => by rw [Lib.replaceK, swap_none c d l (List.count_eq_zero.1 h)]
  | n + 1, l, h => by
    obtain ⟨a, r, rfl, ha⟩ := cut_at c l (List.count_pos_iff.1 (by omega))
    have hr : r.count c = n := by rw [List.count_append, List.count_eq_zero.2 ha, List.count_cons_self] at h; omega
    rw [Lib.replaceK_hit _ _ _ _ _ (index_hit1 c r a ha)]
    have e := repl_swap c d n r hr
    simp only [List.take_left', List.length_singleton]
    rw [show (a ++ c :: r).drop (a.length + 1) = r by simp, e]
    have := swap_none c d a ha
    unfold swapB at this ⊢
    rw [List.map_append, this, List.map_cons, if_pos rfl, List.append_assoc]; rfl
theorem repl_c (c d : UInt8) (hcd : c ≠ d) (l : List UInt8) (hs : l.length < 1000000) : strings_ReplaceAll.f (B l) (B [c]) (B [d]) = some (B (swapB c d l)) := by
  unfold strings_ReplaceAll.f Ext.replF
  have e : Lib.countB (B l) (B [c]) = l.count c := by
    show Lib.count _ _ = _
    rw [B_l, B_l, Lib.count_one]
  have hc : l.count c ≤ l.length := List.count_le_length
  rw [if_pos ⟨by rw [B_s]; omega, Nat.le_refl 1, by rw [e, B_s, B_s]; simp; omega⟩, B_l, B_l, B_l, Lib.replaceAll, Lib.replace, if_neg (by simpa using hcd), Lib.replaceNum, if_pos (by omega), Lib.count_one, repl_swap c d _ l rfl]
  rfl
theorem st01 : wrap64 (0 + 1) = 1 := w64 (x := 0 + 1) (by omega) (by omega)
theorem st12 : wrap64 (1 + 1) = 2 := w64 (x := 1 + 1) (by omega) (by omega)
theorem st23 : wrap64 (2 + 1) = 3 := w64 (x := 2 + 1) (by omega) (by omega)
theorem st34 : wrap64 (3 + 1) = 4 := w64 (x := 3 + 1) (by omega) (by omega)
theorem st45 : wrap64 (4 + 1) = 5 := w64 (x := 4 + 1) (by omega) (by omega)
theorem st56 : wrap64 (5 + 1) = 6 := w64 (x := 5 + 1) (by omega) (by omega)
theorem num_one {n : Int} (h0 : 0 ≤ n) (h1 : n ≤ 9) : strOfNums [wrap64 (48 + n) % 256] = B (Lib.decDigits n.toNat) := by
  rw [w64 (x := 48 + n) (by omega) (by omega), Int.emod_eq_of_lt (by omega) (by omega), B_nums, Lib.decDigits_one (by omega)]
  simp only [List.map_cons, List.map_nil]
  rw [show (48 + n).toNat = 48 + n.toNat by omega]
theorem num_last {n : Int} (h0 : 9 < n) (h1 : n ≤ 1000000) : strOfNums [wrap64 (48 + Int.tmod n 10) % 256] = B [UInt8.ofNat (48 + n.toNat % 10)] := by
  rw [tmod_pos (by omega), w64 (x := 48 + n % 10) (by omega) (by omega), Int.emod_eq_of_lt (by omega) (by omega), B_nums]
  simp only [List.map_cons, List.map_nil]
  rw [show (48 + n % 10).toNat = 48 + n.toNat % 10 by omega]
theorem dec_l : ∀ (k : Nat) (n : Int) (a : List UInt8), 0 ≤ n → n < k → n ≤ 1000000 → a.length + n ≤ 2000000 → laws_decimal.l0 k n (B a) = some (B (Lib.decDigits n.toNat ++ a))
  | 0, n, a, h0, h, _, _ => by omega
  | k + 1, n, a, h0, h, h1, ha => by
    rw [laws_decimal.l0]
    by_cases e : n > 9
    · rw [if_pos e, Option.bind_some, num_last e h1, B_a, if_pos (by rw [B_s, B_s]; simp; omega), tdiv_pos h0, w64 (x := n / 10) (by omega) (by omega),
        dec_l k (n / 10) _ (by omega) (by omega) (by omega) (by simp; omega)]
      conv => rhs; rw [Lib.decDigits, dif_neg (by omega)]
      rw [show (n / 10).toNat = n.toNat / 10 by omega, List.append_assoc]
    · rw [if_neg e, Option.bind_some, num_one h0 (by omega), B_a, if_pos (by rw [B_s, B_s, Lib.decDigits_one (by omega)]; simp; omega)]
theorem dec_c {k : Nat} {n : Int} (h0 : 0 ≤ n) (h1 : n ≤ 10000) (hk : 1000000 ≤ k) : laws_decimal.f k n = some (B (Lib.itoa n)) := by
  obtain ⟨k, rfl⟩ : ∃ m, k = m + 1 := ⟨k - 1, by omega⟩
  rw [laws_decimal.f, if_neg (by omega)]
  have := dec_l k n [] h0 (by omega) (by omega) (by simp; omega)
  rw [List.append_nil] at this
  rw [Lib.itoa, if_neg (by omega)]
  exact this
theorem digit_plain : ∀ (u : Nat), ∀ c ∈ Lib.decDigits u, c ≠ 10 ∧ c ≠ 32 := by
  intro u
  induction u using Nat.strongRecOn with
  | ind u ih =>
    intro c hc
    rw [Lib.decDigits] at hc
    have dd : ∀ v : Nat, v < 10 → UInt8.ofNat (48 + v) ≠ 10 ∧ UInt8.ofNat (48 + v) ≠ 32 := by decide
    split at hc
    · rw [List.mem_singleton] at hc; subst hc; exact dd u (by omega)
    · rcases List.mem_append.1 hc with h | h
      · exact ih (u / 10) (by omega) c h
      · rw [List.mem_singleton] at h; subst h; exact dd _ (by omega)
theorem itoa_plain {n : Int} (h0 : 0 ≤ n) : (10 : UInt8) ∉ Lib.itoa n ∧ (32 : UInt8) ∉ Lib.itoa n := by
  rw [Lib.itoa, if_neg (by omega)]
  exact ⟨fun h => (digit_plain _ _ h).1 rfl, fun h => (digit_plain _ _ h).2 rfl⟩
theorem dec_len : ∀ (k u : Nat), u < k → (Lib.decDigits u).length ≤ k := by
  intro k
  induction k with
  | zero => intro u h; omega
  | succ k ih =>
    intro u h
    rw [Lib.decDigits]
    split
    · simp
    · have := ih (u / 10) (by omega)
      simp; omega
theorem itoa_len {n : Int} (h0 : 0 ≤ n) (h1 : n ≤ 10000) : (Lib.itoa n).length ≤ 10001 := by
  rw [Lib.itoa, if_neg (by omega)]
  exact Nat.le_trans (dec_len (n.toNat + 1) _ (by omega)) (by omega)
theorem itoa_c {n : Int} (h0 : 0 ≤ n) (h1 : n ≤ 10000) : strconv_Itoa.f n = some (B (Lib.itoa n)) := by
  unfold strconv_Itoa.f Ext.itoaF
  rw [if_pos (by omega)]; rfl
theorem itoa_small {n : Nat} (h : n < 100) : Lib.itoa (n : Int) = if n < 10 then [UInt8.ofNat (48 + n)] else [UInt8.ofNat (48 + n / 10), UInt8.ofNat (48 + n % 10)] := by
  rw [Lib.itoa, if_neg (by omega), Int.toNat_natCast]
  split
  · exact Lib.decDigits_one (by assumption)
  · exact Lib.decDigits_two (by assumption) h
theorem num_c {n : Int} (h0 : 0 ≤ n) (h1 : n ≤ 99) : impl_number.f (B (Lib.itoa n)) = some (n, true) := by
  obtain ⟨n, rfl⟩ : ∃ m : Nat, n = (m : Int) := ⟨n.toNat, by omega⟩
  have hd : ∀ m : Nat, m < 100 → Lib.atoi (if m < 10 then [UInt8.ofNat (48 + m)] else [UInt8.ofNat (48 + m / 10), UInt8.ofNat (48 + m % 10)]) = some (m : Int) := by decide +kernel
  have ha : strconv_Atoi.f (B (Lib.itoa (n : Int))) = some ((n : Int), none) := by
    unfold strconv_Atoi.f Ext.atoiF
    rw [B_s, B_l, itoa_small (by omega), hd n (by omega), if_pos (by split <;> simp)]
    rfl
  unfold impl_number.f
  rw [ha, Option.bind_some]
  simp only [Option.isNone_none, if_true]
  rw [itoa_c (by omega) (by omega), Option.bind_some]
  simp
theorem join_c (a b : List UInt8) (ha : a.length ≤ 20000) (hb : b.length ≤ 20000) : strings_Join.f [B a, B b] (B [32]) = some (B (a ++ 32 :: b)) := by
  unfold strings_Join.f Ext.joinF
  have e : Lib.join ([B a, B b].map (·.data.toList)) (B [32]).data.toList = a ++ 32 :: b := by
    show Lib.join [a, b] [32] = _
    rw [Lib.join_cons]; simp [Lib.joinTail]
  rw [e, if_pos ⟨by simp, by simp; omega⟩]; rfl
theorem listed_c {k : Nat} {a b : Int} (a0 : 0 ≤ a) (a1 : a ≤ 10000) (b0 : 0 ≤ b) (b1 : b ≤ 10000) (hk : 10 ≤ k) : impl_listed.f k [a, b] = some (B (Lib.itoa a ++ 32 :: Lib.itoa b)) := by
  obtain ⟨k, rfl⟩ : ∃ m, k = m + 3 := ⟨k - 3, by omega⟩
  unfold impl_listed.f
  rw [impl_listed.l0, if_pos (by simp), if_pos (by simp), if_pos (by simp), show rd [a, b] 0 = a from rfl, itoa_c a0 a1, Option.bind_some, if_pos (by simp), st01,
    impl_listed.l0, if_pos (by simp), if_pos (by simp), if_pos (by simp), show rd [a, b] 1 = b from rfl, itoa_c b0 b1, Option.bind_some, if_pos (by simp), st12,
    impl_listed.l0, if_neg (by simp)]
  have h1 := itoa_len a0 a1; have h2 := itoa_len b0 b1
  have := join_c (Lib.itoa a) (Lib.itoa b) (by omega) (by omega)
  rw [show (⟨#[32]⟩ : ByteArray) = B [32] from rfl]
  simp only [List.nil_append, List.singleton_append]
  rw [this, Option.bind_some]
theorem drawn_g {W H m : Int} (hs : Sz W H) {AT : Int → Int → Option Int} {g : Int → Int → Int} (h : ∀ x y, 0 ≤ x → x < W → 0 ≤ y → y < H → AT x y = some (g x y)) (hm : ∀ x y, 0 ≤ x → x < W → 0 ≤ y → y < H → In m (g x y)) :
    ∃ L, (if 1 ≤ W ∧ W ≤ 1024 ∧ 0 ≤ H ∧ H ≤ 1024 ∧ W * H ≤ 1024 then (Ext.gridO W H AT).map fun l => (W, H, l) else none) = some (W, H, L) ∧ Up W H L m := by
  have hW := hs.1; have hW2 := hs.2.1; have hH := hs.2.2.1; have hH2 := hs.2.2.2.1; have ha := hs.area
  rw [if_pos (by omega), Ext.gridO_of (g := g) hW (by omega) h]
  refine ⟨_, rfl, hs, ?_, ?_⟩
  · unfold Ext.grid Ext.pref; simp; omega
  · intro v hv
    unfold Ext.grid Ext.pref at hv
    obtain ⟨i, hi, rfl⟩ := List.mem_map.1 hv
    have hi := List.mem_range.1 hi
    refine hm _ _ (Int.emod_nonneg _ (by omega)) (Int.emod_lt_of_pos _ (by omega)) (Int.ediv_nonneg (by omega) (by omega)) (Int.ediv_lt_of_lt_mul (by omega) ?_)
    rw [Int.mul_comm]; omega
theorem ramp_e {W H : Int} (hs : Sz W H) : ∃ P, impl_RampPicture.f W H = some (W, H, P, true) ∧ Up W H P 255 := by
  have hW := hs.1; have hW2 := hs.2.1
  obtain ⟨L, e, hu⟩ := drawn_g (m := 255) hs (AT := fun x y => impl_RampPicture_1.f x y W) (g := fun x y => if W = 1 then 0 else x * 255 / (W - 1)) (fun x y x0 x1 y0 y1 => by
    unfold impl_RampPicture_1.f
    split
    · rfl
    · rw [w64 (x := W - 1) (by omega) (by omega), if_neg (by omega), w64 (x := x * 255) (by omega) (by omega), tdiv_pos (by omega)]
      have q1 : 0 ≤ x * 255 / (W - 1) := Int.ediv_nonneg (by omega) (by omega)
      have q2 : x * 255 / (W - 1) ≤ 255 := Int.ediv_le_of_le_mul (by omega) (by omega)
      rw [w64 (by omega) (by omega)]) (fun x y x0 x1 y0 y1 => by
    show In 255 (if W = 1 then 0 else x * 255 / (W - 1))
    split
    · exact ⟨by omega, by omega⟩
    · exact ⟨Int.ediv_nonneg (by omega) (by omega), Int.ediv_le_of_le_mul (by omega) (by omega)⟩)
  refine ⟨L, ?_, hu⟩
  unfold impl_RampPicture.f impl_RampPicture_1.drawn.f
  rw [size_i, Option.bind_some, if_pos (decide_eq_true hs), e]; rfl
theorem rank_m {W H : Int} {M : List Int} (h : Mtx W H M) (x y : Int) : ∃ r, impl_rank.f W H M x y = some r := by
  have hc := h.1; have hW := hc.1; have hW2 := hc.2.1; have hH := hc.2.2.1; have hH2 := hc.2.2.2.1; have ha := hc.area; have hl := h.2.1
  have x0 := Int.emod_nonneg x (show W ≠ 0 by omega); have x1 := Int.emod_lt_of_pos x (show 0 < W by omega)
  have y0 := Int.emod_nonneg y (show H ≠ 0 by omega); have y1 := Int.emod_lt_of_pos y (show 0 < H by omega)
  have hi := xy_idx x0 x1 y0 y1
  have q := mul_bd (c := 256) (d := 256) y0 (by omega) (show 0 ≤ W by omega) hW2
  unfold impl_rank.f
  rw [mod_i (by omega) (by omega), Option.bind_some, mod_i (by omega) (by omega), Option.bind_some, w64 (x := y % H * W) (by omega) (by omega), w64 (by omega) (by omega), if_pos hi.1, if_pos (by omega)]
  exact ⟨_, rfl⟩
theorem mtx_len {W H : Int} {M : List Int} (h : Mtx W H M) : M.length ≤ 256 := by
  have ha := h.1.area; have hl := h.2.1; omega
theorem up_len {W H m : Int} {l : List Int} (h : Up W H l m) : l.length ≤ 1024 ∧ 1 ≤ l.length := by
  have ha := h.1.area; have hl := h.2.1; omega
theorem screen_e {W H A C : Int} {P M : List Int} (hp : Up W H P 255) (hm : Mtx A C M) : ∃ Q, impl_ScreenPicture.f A C M W H P = some (W, H, Q) ∧ Up W H Q 1 := by
  have hs := hp.1
  have hpl := up_len hp; have hml := mtx_len hm
  have key : ∀ x y, 0 ≤ x → x < W → 0 ≤ y → y < H → ∃ v, impl_ScreenPicture_1.f x y A C M W H P = some v ∧ In 1 v := fun x y x0 x1 y0 y1 => by
    obtain ⟨r, hr⟩ := rank_m hm x y
    have hi := idx_w hs x0 x1 y0 y1
    have hl := hp.2.1
    unfold impl_ScreenPicture_1.f
    rw [hr, Option.bind_some, hi.1, if_pos hi.2.1, if_pos (by omega)]
    simp only [impl_level.f, Option.bind_some, one_i]
    exact ⟨_, rfl, by split <;> exact ⟨by omega, by omega⟩⟩
  obtain ⟨L, e, hu⟩ := drawn_g (m := 1) hs (AT := fun x y => impl_ScreenPicture_1.f x y A C M W H P) (g := fun x y => (impl_ScreenPicture_1.f x y A C M W H P).getD 0) (fun x y x0 x1 y0 y1 => by
    obtain ⟨v, hv, _⟩ := key x y x0 x1 y0 y1
    show impl_ScreenPicture_1.f x y A C M W H P = some ((impl_ScreenPicture_1.f x y A C M W H P).getD 0)
    rw [hv]; rfl) (fun x y x0 x1 y0 y1 => by
    obtain ⟨v, hv, hb⟩ := key x y x0 x1 y0 y1
    show In 1 ((impl_ScreenPicture_1.f x y A C M W H P).getD 0)
    rw [hv]; exact hb)
  refine ⟨L, ?_, hu⟩
  unfold impl_ScreenPicture.f impl_ScreenPicture_1.drawn.f
  rw [mtx_i (by omega), Option.bind_some, if_pos (decide_eq_true hm), pict_i (by omega), Option.bind_some, if_pos (decide_eq_true hp), e]; rfl
theorem mean_e {W H : Int} {Q : List Int} (h : Up W H Q 1) : ∃ a b, (∀ k : Nat, 1200000 ≤ k → impl_MeanOf.f k W H Q = some (a, b)) ∧ 0 ≤ a ∧ a ≤ 1024 ∧ 0 ≤ b ∧ b ≤ 1024 := by
  have hl := up_len h
  have hc := cnt_le 1 Q
  have hd : ((Q.length : Int)).natAbs < 2000 := by omega
  have g0 := gcdF_pos 2000 (cnt 1 Q : Int) Q.length hd (by omega) (by omega)
  have g1 := gcdF_ne 2000 (cnt 1 Q : Int) Q.length hd (by omega)
  generalize hg : gcdF 2000 (cnt 1 Q : Int) Q.length = g at g0 g1
  have u1 : 0 ≤ (cnt 1 Q : Int) / g := Int.ediv_nonneg (by omega) g0
  have u2 : (cnt 1 Q : Int) / g ≤ 1024 := Int.le_trans (Int.ediv_le_self g (by omega)) (by omega)
  have v1 : 0 ≤ (Q.length : Int) / g := Int.ediv_nonneg (by omega) g0
  have v2 : (Q.length : Int) / g ≤ 1024 := Int.le_trans (Int.ediv_le_self g (by omega)) (by omega)
  refine ⟨_, _, fun k hk => ?_, u1, u2, v1, v2⟩
  unfold impl_MeanOf.f
  rw [pict_i (by omega), Option.bind_some, if_pos (decide_eq_true (up_wide h)), sum_i h (by omega), Option.bind_some]
  unfold impl_gcd.f
  rw [gcd_i 2000 k _ _ hd (by omega), Option.bind_some, hg, if_neg g1, tdiv_pos (by omega), w64 (by omega) (by omega), w64 (by omega) (by omega)]
theorem bayer_e {n : Int} (n0 : 0 ≤ n) (n1 : n ≤ 3) : ∃ A C M, (∀ k : Nat, 10 ≤ k → impl_BayerMatrix.f k n = some (A, C, M, true)) ∧ Mtx A C M := by
  have d0 : Mtx 1 1 [0] := by decide +kernel
  have e1 : impl_DoubleMatrix.f 1 1 [0] = some (2, 2, [0, 2, 3, 1], true) := by decide +kernel
  have m1 : Mtx 2 2 [0, 2, 3, 1] := by decide +kernel
  have e2 : impl_DoubleMatrix.f 2 2 [0, 2, 3, 1] = some (4, 4, [0, 8, 2, 10, 12, 4, 14, 6, 3, 11, 1, 9, 15, 7, 13, 5], true) := by decide +kernel
  have m2 : Mtx 4 4 [0, 8, 2, 10, 12, 4, 14, 6, 3, 11, 1, 9, 15, 7, 13, 5] := by decide +kernel
  have e3 : impl_DoubleMatrix.f 4 4 [0, 8, 2, 10, 12, 4, 14, 6, 3, 11, 1, 9, 15, 7, 13, 5] = some (8, 8, [0, 32, 8, 40, 2, 34, 10, 42, 48, 16, 56, 24, 50, 18, 58, 26, 12, 44, 4, 36, 14, 46, 6, 38, 60, 28, 52, 20, 62, 30, 54, 22, 3, 35, 11, 43, 1, 33, 9, 41, 51, 19, 59, 27, 49, 17, 57, 25, 15, 47, 7, 39, 13, 45, 5, 37, 63, 31, 55, 23, 61, 29, 53, 21], true) := by decide +kernel
  have m3 : Mtx 8 8 [0, 32, 8, 40, 2, 34, 10, 42, 48, 16, 56, 24, 50, 18, 58, 26, 12, 44, 4, 36, 14, 46, 6, 38, 60, 28, 52, 20, 62, 30, 54, 22, 3, 35, 11, 43, 1, 33, 9, 41, 51, 19, 59, 27, 49, 17, 57, 25, 15, 47, 7, 39, 13, 45, 5, 37, 63, 31, 55, 23, 61, 29, 53, 21] := by decide +kernel
  have go : ∀ k : Nat, 10 ≤ k → ∃ j, k = j + 6 := fun k hk => ⟨k - 6, by omega⟩
  rcases (show n = 0 ∨ n = 1 ∨ n = 2 ∨ n = 3 by omega) with rfl | rfl | rfl | rfl
  · refine ⟨_, _, _, fun k hk => ?_, d0⟩
    obtain ⟨k, rfl⟩ := go k hk
    rw [impl_BayerMatrix.f, if_neg (by omega), impl_BayerMatrix.j0, if_neg (by decide), impl_BayerMatrix.l0, if_neg (by decide)]
  · refine ⟨_, _, _, fun k hk => ?_, m1⟩
    obtain ⟨k, rfl⟩ := go k hk
    rw [impl_BayerMatrix.f, if_neg (by omega), impl_BayerMatrix.j0, if_neg (by decide), impl_BayerMatrix.l0, if_pos (by decide), e1, Option.bind_some, st01, impl_BayerMatrix.l0, if_neg (by decide)]
  · refine ⟨_, _, _, fun k hk => ?_, m2⟩
    obtain ⟨k, rfl⟩ := go k hk
    rw [impl_BayerMatrix.f, if_neg (by omega), impl_BayerMatrix.j0, if_neg (by decide), impl_BayerMatrix.l0, if_pos (by decide), e1, Option.bind_some, st01, impl_BayerMatrix.l0, if_pos (by decide), e2, Option.bind_some, st12, impl_BayerMatrix.l0, if_neg (by decide)]
  · refine ⟨_, _, _, fun k hk => ?_, m3⟩
    obtain ⟨k, rfl⟩ := go k hk
    rw [impl_BayerMatrix.f, if_neg (by omega), impl_BayerMatrix.j0, if_neg (by decide), impl_BayerMatrix.l0, if_pos (by decide), e1, Option.bind_some, st01, impl_BayerMatrix.l0, if_pos (by decide), e2, Option.bind_some, st12, impl_BayerMatrix.l0, if_pos (by decide), e3, Option.bind_some, st23, impl_BayerMatrix.l0, if_neg (by decide)]
def Good (a b : Int) (P : List Int) (m n : Int) (M : List Int) (L : List S27) : Prop := Up a b P 255 ∧ Mtx m n M ∧ (L = [] ∨ ∃ Q, L = [⟨a, b, Q⟩] ∧ Up a b Q 1)
section
variable {a b m n : Int} {P M : List Int} {L : List S27}
theorem copy_d (h : Good a b P m n M L) {k : Nat} (hk : 10 ≤ k) : impl_deskCopy.f k a b P m n M L = some (a, b, P, m, n, M, L) := by
  obtain ⟨k, rfl⟩ : ∃ j, k = j + 2 := ⟨k - 2, by omega⟩
  have h1 := up_len h.1; have h2 := mtx_len h.2.1
  unfold impl_deskCopy.f
  rw [copied_i _ _ (by omega), Option.bind_some, slices_Clone_int_int.f, if_pos (by omega), Option.bind_some]
  rcases h.2.2 with rfl | ⟨Q, rfl, hq⟩
  · rw [impl_deskCopy.l0, if_neg (by simp)]
  · have h3 := up_len hq
    rw [impl_deskCopy.l0, if_pos (by simp), if_pos (by simp), if_pos (by simp), show rd_T27 [(⟨a, b, Q⟩ : S27)] 0 = ⟨a, b, Q⟩ from rfl, copied_i _ _ (by show Q.length ≤ _; omega), Option.bind_some, if_pos (by simp), st01, impl_deskCopy.l0, if_neg (by simp)]
    rfl
theorem alike_t {Q R : List Int} (hq : Up a b Q 255) (hr : Up a b R 255) : impl_alike.f a b Q a b R = some true := by
  have h1 := up_len hq; have h2 := up_len hr
  unfold impl_alike.f
  rw [pict_i (by omega), Option.bind_some, if_pos (decide_eq_true hq), pict_i (by omega), Option.bind_some, if_pos (decide_eq_true hr), if_pos rfl, beq_self_eq_true]
theorem ok_d (h : Good a b P m n M L) {k : Nat} (hk : 10 ≤ k) : impl_DeskOk.f k a b P m n M L = some true := by
  have h1 := up_len h.1; have h2 := mtx_len h.2.1
  unfold impl_DeskOk.f
  rw [pict_i (by omega), Option.bind_some, if_pos (decide_eq_true h.1), mtx_i (by omega), Option.bind_some, if_pos (decide_eq_true h.2.1)]
  rcases h.2.2 with rfl | ⟨Q, rfl, hq⟩
  · rw [if_pos (by simp)]
  · obtain ⟨k, rfl⟩ : ∃ j, k = j + 3 := ⟨k - 3, by omega⟩
    have h3 := up_len hq
    have e : rd_T27 [(⟨a, b, Q⟩ : S27)] 0 = ⟨a, b, Q⟩ := rfl
    have s : impl_IsStack.f (k + 3) [(⟨a, b, Q⟩ : S27)] = some true := by
      unfold impl_IsStack.f
      rw [if_neg (by simp), impl_IsStack.j0, if_neg (by simp), impl_IsStack.l0, if_pos (by simp), if_pos (by simp), if_pos (by simp), e, plate_i (by show Q.length ≤ _; omega), Option.bind_some, if_pos (decide_eq_true hq), if_pos (by simp)]
      show (impl_alike.f a b Q a b Q).bind _ = _
      rw [alike_t (up_wide hq) (up_wide hq), Option.bind_some, if_pos rfl, st01, impl_IsStack.l0, if_neg (by simp)]
    rw [if_neg (by simp), s, Option.bind_some, if_pos rfl, if_pos (by simp), e]
    show (impl_alike.f a b P a b Q).bind _ = _
    rw [alike_t h.1 (up_wide hq)]; rfl
theorem line_0 (h : Good a b P m n M L) {k : Nat} (hk : 10 ≤ k) : impl_RunLine.f k a b P m n M L (B []) = some (a, b, P, m, n, M, L, B []) := by
  unfold impl_RunLine.f
  rw [copy_d h hk, Option.bind_some, ok_d h hk, Option.bind_some, if_pos rfl, if_pos (B_t [])]; rfl
theorem line_w (h : Good a b P m n M L) {k : Nat} (hk : 10 ≤ k) (w : List UInt8) (r : List (List UInt8)) (hw : (32 : UInt8) ∉ w) (hr : ∀ x ∈ r, (32 : UInt8) ∉ x) (hne : joined 32 w r ≠ []) (hd : w ≠ [100, 105, 102, 102, 117, 115, 101]) (hs : (joined 32 w r).length < 4294967281) :
    impl_RunLine.f k a b P m n M L (B (joined 32 w r)) = impl_RunLine.l0 k ((w :: r).map B) [] (r.map B) (r.map B).length 0 a b P m n M L := by
  unfold impl_RunLine.f
  rw [copy_d h hk, Option.bind_some, ok_d h hk, Option.bind_some, if_pos rfl, if_neg (by rw [B_t]; exact hne), show (⟨#[32]⟩ : ByteArray) = B [32] from rfl, split_c 32 r w hw hr hs, Option.bind_some, if_pos (by simp),
    show rdOf ByteArray.empty ((w :: r).map B) 0 = B w from rfl, if_neg (by rw [B_t]; exact hd), if_pos (by simp; omega)]
  rfl
def wRamp : List UInt8 := [114, 97, 109, 112]
def wBayer : List UInt8 := [98, 97, 121, 101, 114]
def wScreen : List UInt8 := [115, 99, 114, 101, 101, 110]
def wMean : List UInt8 := [109, 101, 97, 110]
def wShow : List UInt8 := [115, 104, 111, 119]
def wOk : List UInt8 := [111, 107]
theorem wanted_r : Ext.wanted (B wRamp) = 2 := by decide +kernel
theorem wanted_b : Ext.wanted (B wBayer) = 1 := by decide +kernel
theorem line_ramp (h : Good a b P m n M L) {k : Nat} (hk : 10 ≤ k) {W H : Int} (hs : Sz W H) : ∃ R, impl_RampPicture.f W H = some (W, H, R, true) ∧ Up W H R 255 ∧ impl_RunLine.f k a b P m n M L (B (joined 32 wRamp [Lib.itoa W, Lib.itoa H])) = some (W, H, R, m, n, M, [], B wOk) := by
  obtain ⟨R, e, hu⟩ := ramp_e hs
  have hW := hs.1; have hW2 := hs.2.1; have hH := hs.2.2.1; have hH2 := hs.2.2.2.1
  have l1 := itoa_len (n := W) (by omega) (by omega); have l2 := itoa_len (n := H) (by omega) (by omega)
  refine ⟨R, e, hu, ?_⟩
  rw [line_w h hk wRamp _ (by decide) (by
    intro x hx
    simp only [List.mem_cons, List.mem_nil_iff, or_false] at hx
    rcases hx with rfl | rfl <;> exact (itoa_plain (by omega)).2) (by simp [joined, wRamp]) (by decide) (by simp [joined, wRamp]; omega)]
  obtain ⟨k, rfl⟩ : ∃ j, k = j + 4 := ⟨k - 4, by omega⟩
  simp only [List.map_cons, List.map_nil]
  rw [impl_RunLine.l0, if_pos (by simp), if_pos (by simp), if_pos (by simp), show rdOf ByteArray.empty [B (Lib.itoa W), B (Lib.itoa H)] 0 = B (Lib.itoa W) from rfl, num_c (by omega) (by omega), Option.bind_some, if_pos rfl, if_pos (by simp), st01,
    impl_RunLine.l0, if_pos (by simp), if_pos (by simp), if_pos (by simp), show rdOf ByteArray.empty [B (Lib.itoa W), B (Lib.itoa H)] 1 = B (Lib.itoa H) from rfl, num_c (by omega) (by omega), Option.bind_some, if_pos rfl, if_pos (by simp), st12,
    impl_RunLine.l0, if_neg (by simp), if_pos (by simp)]
  simp only [show rdOf ByteArray.empty [B wRamp, B (Lib.itoa W), B (Lib.itoa H)] 0 = B wRamp from rfl, B_t]
  rw [if_neg (by decide), if_pos (by decide), impl_RunLine.j1, if_pos (by decide), if_pos (by simp)]
  simp only [show rdOf ByteArray.empty [B wRamp, B (Lib.itoa W), B (Lib.itoa H)] 0 = B wRamp from rfl]
  unfold impl_Desk_numbered.f
  rw [if_pos (by decide), if_pos (by rw [wanted_r]; simp), B_t, if_neg (by decide), if_pos (by decide), if_pos (by simp), if_pos (by simp)]
  show ((((impl_RampPicture.f W H).bind _ : Option _).bind _ : Option _)) = _
  rw [e, Option.bind_some]
  unfold impl_Desk_pictured.f
  rw [if_pos rfl]; rfl
theorem line_bayer (h : Good a b P m n M L) {k : Nat} (hk : 100 ≤ k) {i : Int} (i0 : 0 ≤ i) (i1 : i ≤ 3) {A C : Int} {N : List Int} (e : ∀ k : Nat, 10 ≤ k → impl_BayerMatrix.f k i = some (A, C, N, true)) : impl_RunLine.f k a b P m n M L (B (joined 32 wBayer [Lib.itoa i])) = some (a, b, P, A, C, N, L, B wOk) := by
  have l1 := itoa_len (n := i) (by omega) (by omega)
  rw [line_w h (by omega) wBayer _ (by decide) (by
    intro x hx
    simp only [List.mem_cons, List.mem_nil_iff, or_false] at hx
    subst hx; exact (itoa_plain (by omega)).2) (by simp [joined, wBayer]) (by decide) (by simp [joined, wBayer]; omega)]
  obtain ⟨k, rfl⟩ : ∃ j, k = j + 4 := ⟨k - 4, by omega⟩
  simp only [List.map_cons, List.map_nil]
  rw [impl_RunLine.l0, if_pos (by simp), if_pos (by simp), if_pos (by simp), show rdOf ByteArray.empty [B (Lib.itoa i)] 0 = B (Lib.itoa i) from rfl, num_c (by omega) (by omega), Option.bind_some, if_pos rfl, if_pos (by simp), st01,
    impl_RunLine.l0, if_neg (by simp), if_pos (by simp)]
  simp only [show rdOf ByteArray.empty [B wBayer, B (Lib.itoa i)] 0 = B wBayer from rfl, B_t]
  rw [if_neg (by decide), if_neg (by decide), if_pos (by decide), impl_RunLine.j1, if_pos (by decide), if_pos (by simp)]
  simp only [show rdOf ByteArray.empty [B wBayer, B (Lib.itoa i)] 0 = B wBayer from rfl]
  unfold impl_Desk_numbered.f
  rw [if_pos (by decide), if_pos (by rw [wanted_b]; simp), B_t, if_neg (by decide), if_neg (by decide), if_pos (by decide), if_pos (by simp)]
  show ((((impl_BayerMatrix.f (k + 1) i).bind _ : Option _).bind _ : Option _)) = _
  rw [e _ (by omega), Option.bind_some]
  unfold impl_Desk_screened.f
  rw [if_pos rfl]; rfl
end
section
variable {a b m n : Int} {P M : List Int} {L : List S27}
theorem line_one (h : Good a b P m n M L) {k : Nat} (hk : 10 ≤ k) (w : List UInt8) (hw : (32 : UInt8) ∉ w) (hne : w ≠ []) (hs : w.length < 4294967281) (hd : w ≠ [100, 105, 102, 102, 117, 115, 101])
    (h1 : w ≠ [102, 108, 97, 116]) (h2 : w ≠ [114, 97, 109, 112]) (h3 : w ≠ [98, 97, 121, 101, 114]) (h4 : w ≠ [115, 112, 105, 114, 97, 108]) (h5 : w ≠ [115, 112, 111, 116]) (h6 : w ≠ [115, 104, 105, 102, 116]) (h7 : w ≠ [114, 97, 110, 107]) (h8 : w ≠ [108, 101, 118, 101, 108]) :
    ∃ j, k = j + 2 ∧ impl_RunLine.f k a b P m n M L (B w) = (impl_Desk_plain.f j a b P m n M L (B w)).bind fun z => some (z.1, z.2.1, z.2.2.1, z.2.2.2.1, z.2.2.2.2.1, z.2.2.2.2.2.1, z.2.2.2.2.2.2.1, z.2.2.2.2.2.2.2) := by
  obtain ⟨k, rfl⟩ : ∃ j, k = j + 2 := ⟨k - 2, by omega⟩
  refine ⟨k, rfl, ?_⟩
  have e := line_w h hk w [] hw (fun x hx => by cases hx) hne hd hs
  rw [joined] at e
  rw [e]
  simp only [List.map_cons, List.map_nil]
  rw [impl_RunLine.l0, if_neg (by simp), if_pos (by simp)]
  simp only [show rdOf ByteArray.empty [B w] 0 = B w from rfl, B_t]
  rw [if_neg h1, if_neg h2, if_neg h3, if_neg h4, if_neg h5, if_neg h6, if_neg h7, impl_RunLine.j1, if_neg (by rw [beq_iff_eq]; exact h8), if_neg (by simp), if_pos (by simp)]
  rfl
theorem line_screen (h : Good a b P m n M []) {k : Nat} (hk : 10 ≤ k) : ∃ Q, impl_ScreenPicture.f m n M a b P = some (a, b, Q) ∧ Up a b Q 1 ∧ impl_RunLine.f k a b P m n M [] (B wScreen) = some (a, b, P, m, n, M, [⟨a, b, Q⟩], B wOk) := by
  obtain ⟨Q, e, hu⟩ := screen_e h.1 h.2.1
  refine ⟨Q, e, hu, ?_⟩
  obtain ⟨j, rfl, he⟩ := line_one h hk wScreen (by decide) (by decide) (by decide) (by decide) (by decide) (by decide) (by decide) (by decide) (by decide) (by decide) (by decide) (by decide)
  rw [he, impl_Desk_plain.f, B_t, if_neg (by decide), if_pos (by decide), if_neg (by simp), e, Option.bind_some, if_pos (by simp)]
  rfl
theorem plain_j {Q : List Int} {k : Nat} (w : List UInt8) : impl_Desk_plain.j0 (k + 1) (B w) true a b P m n M [⟨a, b, Q⟩] = (impl_Desk_last.f k a b P m n M [⟨a, b, Q⟩] (B w)).bind fun z => some (z.1, z.2.1, z.2.2.1, z.2.2.2.1, z.2.2.2.2.1, z.2.2.2.2.2.1, z.2.2.2.2.2.2.1, z.2.2.2.2.2.2.2) := by
  rw [impl_Desk_plain.j0, if_pos rfl, if_neg (by simp)]
theorem last_0 {Q : List Int} : rd_T27 [(⟨a, b, Q⟩ : S27)] (wrap64 (([(⟨a, b, Q⟩ : S27)].length : Int) - 1)) = ⟨a, b, Q⟩ := by
  rw [w64 (by simp) (by simp)]; rfl
theorem last_p {Q : List Int} : 0 ≤ wrap64 (([(⟨a, b, Q⟩ : S27)].length : Int) - 1) ∧ wrap64 (([(⟨a, b, Q⟩ : S27)].length : Int) - 1) < ([(⟨a, b, Q⟩ : S27)].length : Int) := by
  rw [w64 (by simp) (by simp)]; simp
theorem line_mean {Q : List Int} (h : Good a b P m n M [⟨a, b, Q⟩]) {k : Nat} (hk : 1300000 ≤ k) {u v : Int} (e : ∀ k : Nat, 1200000 ≤ k → impl_MeanOf.f k a b Q = some (u, v)) (u0 : 0 ≤ u) (u1 : u ≤ 1024) (v0 : 0 ≤ v) (v1 : v ≤ 1024) :
    impl_RunLine.f k a b P m n M [⟨a, b, Q⟩] (B wMean) = some (a, b, P, m, n, M, [⟨a, b, Q⟩], B (Lib.itoa u ++ 32 :: Lib.itoa v)) := by
  obtain ⟨j, rfl, he⟩ := line_one (k := k) h (by omega) wMean (by decide) (by decide) (by decide) (by decide) (by decide) (by decide) (by decide) (by decide) (by decide) (by decide) (by decide) (by decide)
  obtain ⟨j, rfl⟩ : ∃ i, j = i + 1 := ⟨j - 1, by omega⟩
  rw [he, impl_Desk_plain.f, B_t, if_neg (by decide), if_neg (by decide), if_neg (by decide), if_neg (by decide), if_neg (by decide), if_neg (by decide), if_neg (by decide), if_neg (by decide), if_pos (by decide), show (wMean == ([109, 101, 97, 110] : List UInt8)) = true by decide, plain_j,
    impl_Desk_last.f, if_pos last_p.1, if_pos last_p.2, B_t, if_neg (by decide), if_neg (by decide), if_neg (by decide), if_neg (by decide), if_neg (by decide), if_neg (by decide), if_pos (by decide), last_0]
  show (((impl_MeanOf.f j a b Q).bind _ : Option _).bind _).bind _ = _
  rw [e _ (by omega), Option.bind_some]
  show (((impl_listed.f j [u, v]).bind _ : Option _).bind _).bind _ = _
  rw [listed_c u0 (by omega) v0 (by omega) (by omega)]
  rfl
theorem line_show {Q : List Int} (h : Good a b P m n M [⟨a, b, Q⟩]) {k : Nat} (hk : 1300000 ≤ k) {T : List UInt8} (hT : T.length < 1000000) (e : ∀ k : Nat, 1200000 ≤ k → impl_DotText.f k a b Q = some (B (T ++ [10]))) :
    impl_RunLine.f k a b P m n M [⟨a, b, Q⟩] (B wShow) = some (a, b, P, m, n, M, [⟨a, b, Q⟩], B (swapB 10 47 T)) := by
  obtain ⟨j, rfl, he⟩ := line_one (k := k) h (by omega) wShow (by decide) (by decide) (by decide) (by decide) (by decide) (by decide) (by decide) (by decide) (by decide) (by decide) (by decide) (by decide)
  obtain ⟨j, rfl⟩ : ∃ i, j = i + 1 := ⟨j - 1, by omega⟩
  rw [he, impl_Desk_plain.f, B_t, if_neg (by decide), if_neg (by decide), if_neg (by decide), if_neg (by decide), if_neg (by decide), if_neg (by decide), if_pos (by decide), show (wShow == ([115, 104, 111, 119] : List UInt8)) = true by decide, plain_j,
    impl_Desk_last.f, if_pos last_p.1, if_pos last_p.2, B_t, if_neg (by decide), if_neg (by decide), if_neg (by decide), if_neg (by decide), if_pos (by decide), last_0]
  show (((impl_DotText.f j a b Q).bind _ : Option _).bind _).bind _ = _
  rw [e _ (by omega), Option.bind_some, show (⟨#[10]⟩ : ByteArray) = B [10] from rfl, show (⟨#[47]⟩ : ByteArray) = B [47] from rfl, trim_one T 10 hT, Option.bind_some, repl_c 10 47 (by decide) T hT]
  rfl
end
theorem flat_e : ∃ F, impl_FlatPicture.f 1 1 0 = some (1, 1, F, true) ∧ Up 1 1 F 255 := by
  have hs : Sz 1 1 := by decide
  obtain ⟨L, e, hu⟩ := drawn_g (m := 255) hs (AT := fun x y => impl_FlatPicture_1.f x y 0) (g := fun _ _ => 0) (fun x y x0 x1 y0 y1 => rfl) (fun x y x0 x1 y0 y1 => ⟨by omega, by omega⟩)
  refine ⟨L, ?_, hu⟩
  unfold impl_FlatPicture.f impl_FlatPicture_1.drawn.f
  rw [size_i, Option.bind_some, if_pos (decide_eq_true hs), if_neg (by omega), if_neg (by omega), e]; rfl
theorem new_e : ∃ F A C N, (∀ k : Nat, 10 ≤ k → impl_NewDesk.f k = some (1, 1, F, A, C, N, [])) ∧ Good 1 1 F A C N [] := by
  obtain ⟨F, e, hu⟩ := flat_e
  obtain ⟨A, C, N, e2, hm⟩ := bayer_e (n := 0) (by omega) (by omega)
  refine ⟨F, A, C, N, fun k hk => ?_, hu, hm, .inl rfl⟩
  unfold impl_NewDesk.f
  rw [e, Option.bind_some, e2 k hk]; rfl
theorem joined_last (c : UInt8) (z : List UInt8) (x : UInt8) : ∀ (r : List (List UInt8)) (a : List UInt8), ∃ l, joined c a (r ++ [z ++ [x]]) = l ++ [x]
  | [], a => ⟨a ++ c :: z, by simp [joined]⟩
  | b :: r, a => by
    obtain ⟨l, e⟩ := joined_last c z x r b
    exact ⟨a ++ c :: l, by rw [List.cons_append, joined, e]; simp⟩
def script (W H i : Int) : List UInt8 := joined 10 (joined 32 wRamp [Lib.itoa W, Lib.itoa H]) [joined 32 wBayer [Lib.itoa i], wScreen, wMean, [], wShow]
def told (u v : Int) (T : List UInt8) : List UInt8 := wOk ++ [10] ++ (wOk ++ [10]) ++ (wOk ++ [10]) ++ (Lib.itoa u ++ 32 :: Lib.itoa v ++ [10]) ++ (swapB 10 47 T ++ [10])
theorem script_c {W H i : Int} (hs : Sz W H) (i0 : 0 ≤ i) (i1 : i ≤ 3) {P M Q : List Int} {A C u v : Int} {T : List UInt8} {k : Nat} (hk : 1400000 ≤ k)
    (eP : impl_RampPicture.f W H = some (W, H, P, true)) (hP : Up W H P 255) (eM : ∀ k : Nat, 10 ≤ k → impl_BayerMatrix.f k i = some (A, C, M, true)) (hM : Mtx A C M)
    (eQ : impl_ScreenPicture.f A C M W H P = some (W, H, Q)) (hQ : Up W H Q 1)
    (eU : ∀ k : Nat, 1200000 ≤ k → impl_MeanOf.f k W H Q = some (u, v)) (u0 : 0 ≤ u) (u1 : u ≤ 1024) (v0 : 0 ≤ v) (v1 : v ≤ 1024)
    (hT : T.length < 10000) (hT0 : T ≠ []) (eT : ∀ k : Nat, 1200000 ≤ k → impl_DotText.f k W H Q = some (B (T ++ [10]))) :
    impl_RunScript.f k (B (script W H i)) = some (B (told u v T), 6) := by
  obtain ⟨F, A0, C0, N0, eN, g0⟩ := new_e
  have hW := hs.1; have hW2 := hs.2.1; have hH := hs.2.2.1; have hH2 := hs.2.2.2.1
  have l1 := itoa_len (n := W) (by omega) (by omega); have l2 := itoa_len (n := H) (by omega) (by omega); have l3 := itoa_len (n := i) (by omega) (by omega)
  have l4 := itoa_len (n := u) (by omega) (by omega); have l5 := itoa_len (n := v) (by omega) (by omega)
  have sl : (script W H i).length < 100000 := by
    simp [script, joined, wRamp, wBayer, wScreen, wMean, wShow]; omega
  have hsw : (swapB 10 47 T).length = T.length := by simp [swapB]
  unfold impl_RunScript.f
  rw [if_neg (by rw [B_t]; simp [script, joined, wRamp]), show (⟨#[10]⟩ : ByteArray) = B [10] from rfl, trim_none (script W H i) 10 (by
    obtain ⟨l, e⟩ := joined_last 10 [115, 104, 111] 119 [joined 32 wBayer [Lib.itoa i], wScreen, wMean, []] (joined 32 wRamp [Lib.itoa W, Lib.itoa H])
    rw [show script W H i = l ++ [119] from e]
    simp) (by omega), Option.bind_some]
  unfold script at sl ⊢
  have p1 := itoa_plain (n := W) (by omega); have p2 := itoa_plain (n := H) (by omega); have p3 := itoa_plain (n := i) (by omega)
  rw [split_c 10 _ _ (by simp [joined, wRamp, p1.1, p2.1]) (by
    intro x hx
    simp only [List.mem_cons, List.mem_nil_iff, or_false] at hx
    rcases hx with rfl | rfl | rfl | rfl | rfl
    · simp [joined, wBayer, p3.1]
    all_goals decide) (by omega), Option.bind_some]
  simp only [List.map_cons, List.map_nil]
  obtain ⟨k, rfl⟩ : ∃ j, k = j + 8 := ⟨k - 8, by omega⟩
  rw [impl_RunScript.j0, if_neg (by simp), eN _ (by omega), Option.bind_some]
  generalize hY : [B (joined 32 wRamp [Lib.itoa W, Lib.itoa H]), B (joined 32 wBayer [Lib.itoa i]), B wScreen, B wMean, B [], B wShow] = Y
  have y0 : rdOf ByteArray.empty Y 0 = B (joined 32 wRamp [Lib.itoa W, Lib.itoa H]) := by subst hY; rfl
  have y1 : rdOf ByteArray.empty Y 1 = B (joined 32 wBayer [Lib.itoa i]) := by subst hY; rfl
  have y2 : rdOf ByteArray.empty Y 2 = B wScreen := by subst hY; rfl
  have y3 : rdOf ByteArray.empty Y 3 = B wMean := by subst hY; rfl
  have y4 : rdOf ByteArray.empty Y 4 = B [] := by subst hY; rfl
  have y5 : rdOf ByteArray.empty Y 5 = B wShow := by subst hY; rfl
  have hL : (Y.length : Int) = 6 := by subst hY; rfl
  clear hY
  obtain ⟨P', eP', hP', r0⟩ := line_ramp g0 (k := k + 6) (by omega) hs
  obtain rfl : P' = P := by rw [eP] at eP'; simp only [Option.some.injEq, Prod.mk.injEq, true_and, and_true] at eP'; exact eP'.symm
  have g1 : Good W H P' A0 C0 N0 [] := ⟨hP, g0.2.1, .inl rfl⟩
  have r1 := line_bayer g1 (k := k + 5) (by omega) i0 i1 eM
  have g2 : Good W H P' A C M [] := ⟨hP, hM, .inl rfl⟩
  obtain ⟨Q', eQ', hQ', r2⟩ := line_screen g2 (k := k + 4) (by omega)
  obtain rfl : Q' = Q := by rw [eQ] at eQ'; simp only [Option.some.injEq, Prod.mk.injEq, true_and, and_true] at eQ'; exact eQ'.symm
  have g3 : Good W H P' A C M [⟨W, H, Q'⟩] := ⟨hP, hM, .inr ⟨Q', rfl, hQ⟩⟩
  have r3 := line_mean g3 (k := k + 3) (by omega) eU u0 u1 v0 v1
  have r4 := line_0 g3 (k := k + 2) (by omega)
  have r5 := line_show g3 (k := k + 1) (by omega) (by omega) eT
  rw [hL]
  rw [impl_RunScript.l0, if_pos (by omega), if_pos (by omega), if_pos (by omega), y0, r0, Option.bind_some, B_t, if_neg (by decide), show (⟨#[10]⟩ : ByteArray) = B [10] from rfl, show (⟨#[]⟩ : ByteArray) = B [] from rfl, B_a, if_pos (by show (B wOk).size + 1 ≤ 9223372036854775807; decide), B_a, if_pos (by decide), st01]
  rw [impl_RunScript.l0, if_pos (by omega), if_pos (by omega), if_pos (by omega), y1, r1, Option.bind_some, B_t, if_neg (by decide), show (⟨#[10]⟩ : ByteArray) = B [10] from rfl, B_a, if_pos (by show (B wOk).size + 1 ≤ 9223372036854775807; decide), B_a, if_pos (by decide), st12]
  rw [impl_RunScript.l0, if_pos (by omega), if_pos (by omega), if_pos (by omega), y2, r2, Option.bind_some, B_t, if_neg (by decide), show (⟨#[10]⟩ : ByteArray) = B [10] from rfl, B_a, if_pos (by show (B wOk).size + 1 ≤ 9223372036854775807; decide), B_a, if_pos (by decide), st23]
  rw [impl_RunScript.l0, if_pos (by omega), if_pos (by omega), if_pos (by omega), y3, r3, Option.bind_some, B_t, if_neg (by simp), show (⟨#[10]⟩ : ByteArray) = B [10] from rfl, B_a, if_pos (by rw [B_s]; simp; omega), B_a, if_pos (by rw [B_s, B_s]; simp [wOk]; omega), st34]
  rw [impl_RunScript.l0, if_pos (by omega), if_pos (by omega), if_pos (by omega), y4, r4, Option.bind_some, B_t, if_pos rfl, st45]
  rw [impl_RunScript.l0, if_pos (by omega), if_pos (by omega), if_pos (by omega), y5, r5, Option.bind_some, B_t, if_neg (by unfold swapB; simpa using hT0), show (⟨#[10]⟩ : ByteArray) = B [10] from rfl, B_a, if_pos (by show (B (swapB 10 47 T)).size + 1 ≤ 9223372036854775807; rw [B_s]; omega), B_a, if_pos (by rw [B_s, B_s]; simp [wOk, hsw]; omega), st56]
  rw [impl_RunScript.l0, if_neg (by omega), hL]
  rfl
theorem dotC_end {W : Int} (hW : 1 ≤ W) : ∀ (r : List Int) (c : Int), r ≠ [] → 0 ≤ c → c < W → (c + r.length) % W = 0 → ∃ T, dotC W r c = T ++ [10] ∧ T ≠ []
  | [], _, h, _, _, _ => absurd rfl h
  | v :: r, c, _, c0, c1, hm => by
    rw [dotC]
    by_cases e : c = W - 1
    · rw [if_pos e]
      cases r with
      | nil => exact ⟨[if v = 1 then 35 else 46], by simp [dotC], by simp⟩
      | cons x r =>
        obtain ⟨T, eT, _⟩ := dotC_end hW (x :: r) 0 (by simp) (by omega) (by omega) (by
          rw [List.length_cons, show c + ((x :: r).length + 1 : Nat) = (0 + ((x :: r).length : Int)) + W by omega, Int.add_emod_right] at hm
          exact hm)
        exact ⟨(if v = 1 then 35 else 46) :: 10 :: T, by rw [eT]; rfl, by simp⟩
    · rw [if_neg e]
      have hr : r ≠ [] := fun h => by
        subst h
        rw [show c + (([v] : List Int).length : Int) = c + 1 by simp, Int.emod_eq_of_lt (by omega) (by omega)] at hm
        omega
      obtain ⟨T, eT, _⟩ := dotC_end hW r (c + 1) hr (by omega) (by omega) (by
        rw [List.length_cons, show c + (r.length + 1 : Nat) = c + 1 + (r.length : Int) by omega] at hm
        exact hm)
      exact ⟨(if v = 1 then 35 else 46) :: T, by rw [eT]; rfl, by simp⟩
theorem dots_e {W H : Int} {Q : List Int} (h : Up W H Q 1) : ∃ T, T.length < 10000 ∧ T ≠ [] ∧ ∀ k : Nat, 1200000 ≤ k → impl_DotText.f k W H Q = some (B (T ++ [10])) := by
  have hl := up_len h
  have hW := h.1.1
  obtain ⟨Y, e, hY⟩ := dotC_end hW Q 0 (by intro e; subst e; simp at hl) (by omega) (by omega) (by rw [Int.zero_add, h.2.1, Int.mul_emod_right])
  have hlen := dotC_len W Q 0
  rw [e, List.length_append, List.length_singleton] at hlen
  refine ⟨Y.map fun n => UInt8.ofNat n.toNat, by rw [List.length_map]; omega, by simpa using hY, fun k hk => ?_⟩
  rw [dots_i (by omega) (by omega), dotT, if_pos h, dotL_C hW Q 0 (by omega), Int.zero_emod, e, B_nums]
  simp
theorem b_at (T : List UInt8) (c : UInt8) {j : Int} (h0 : 0 ≤ j) (h : j < T.length) : ∃ x, T.drop j.toNat = x :: T.drop (j + 1).toNat ∧ bt (B (T ++ [c])) j = (x.toNat : Int) := by
  have hj : j.toNat < T.length := by omega
  refine ⟨T[j.toNat], by rw [show (j + 1).toNat = j.toNat + 1 by omega]; exact List.drop_eq_getElem_cons hj, ?_⟩
  have hs : j.toNat < (B (T ++ [c])).size := by rw [B_s]; simp; omega
  rw [← bt_at (B (T ++ [c])) j hs]
  have e1 : (B (T ++ [c]))[j.toNat]'hs = (T ++ [c])[j.toNat]'(by simp; omega) := rfl
  rw [e1, List.getElem_append_left hj]
def putB (x : UInt8) : Int := if x = 10 then 47 else (x.toNat : Int)
theorem law_l (S : ByteArray) (u v : Int) (T : List UInt8) (hT : T.length < 10000) (k : Nat) : ∀ (d : Nat) (acc : List Int) (j : Int), 0 ≤ j → j ≤ T.length → (T.length : Int) - j = d → acc.length ≤ j →
    laws_FnDesk.l0 (k + d) S u v (B (T ++ [10])) acc j = laws_FnDesk.l0 k S u v (B (T ++ [10])) (acc ++ (T.drop j.toNat).map putB) T.length
  | 0, acc, j, j0, j1, hd, ha => by
    obtain rfl : j = T.length := by omega
    simp
  | d + 1, acc, j, j0, j1, hd, ha => by
    have hz : ((B (T ++ [10])).size : Int) = T.length + 1 := by rw [B_s]; simp
    obtain ⟨x, hx, hb⟩ := b_at T 10 j0 (show j < T.length by omega)
    rw [← Nat.add_assoc, laws_FnDesk.l0, hz, w64 (x := (T.length : Int) + 1 - 1) (by omega) (by omega), if_pos (by omega), if_pos j0, if_pos (by omega), hb, w64 (x := j + 1) (by omega) (by omega), hx, List.map_cons]
    by_cases e : x = 10
    · rw [if_pos (by subst e; rfl), if_pos (by omega), law_l S u v T hT k d _ (j + 1) (by omega) (by omega) (by omega) (by simp; omega), putB, if_pos e]; simp
    · have hn : ¬ ((x.toNat : Int) = 10) := fun h => e (UInt8.toNat_inj.1 (by simp; omega))
      rw [if_neg hn, if_pos (by omega), law_l S u v T hT k d _ (j + 1) (by omega) (by omega) (by omega) (by simp; omega), putB, if_neg e]; simp
theorem put_nums (T : List UInt8) : strOfNums (T.map putB) = B (swapB 10 47 T) := by
  rw [B_nums, List.map_map, swapB]
  congr 1
  apply List.map_congr_left
  intro x _
  simp only [Function.comp, putB]
  split
  · rfl
  · simp
theorem pureDesk : laws_FnDesk.Pure := by
  intro l hl hl2 hw
  refine ⟨2000000, ?_⟩
  generalize hk : (2000000 : Nat) = k
  unfold laws_FnDesk.f
  by_cases hbig : (l.length : Int) > 1048576
  · rw [if_pos hbig]
  rw [if_neg hbig]
  obtain ⟨t1, e1, a1, b1⟩ := at_c l (by omega) hw 1 (by omega) (by omega)
  obtain ⟨t2, e2, a2, b2⟩ := at_c l (by omega) hw 2 (by omega) (by omega)
  obtain ⟨t3, e3, a3, b3⟩ := at_c l (by omega) hw 3 (by omega) (by omega)
  rw [e1, Option.bind_some, e2, Option.bind_some, e3, Option.bind_some, tmod_pos a1, tmod_pos a2, tmod_pos a3, w64 (x := 1 + t1 % 20) (by omega) (by omega), w64 (x := 1 + t2 % 9) (by omega) (by omega)]
  generalize hWe : 1 + t1 % 20 = W
  generalize hHe : 1 + t2 % 9 = H
  generalize hie : t3 % 4 = i
  have w0 : 1 ≤ W ∧ W ≤ 20 := by omega
  have h0 : 1 ≤ H ∧ H ≤ 9 := by omega
  have i0 : 0 ≤ i ∧ i ≤ 3 := by omega
  have q := mul_bd (c := 20) (d := 9) (show 0 ≤ W by omega) w0.2 (show 0 ≤ H by omega) h0.2
  have hs : Sz W H := ⟨w0.1, by omega, h0.1, by omega, by omega⟩
  have l1 := itoa_len (n := W) (by omega) (by omega); have l2 := itoa_len (n := H) (by omega) (by omega); have l3 := itoa_len (n := i) (by omega) (by omega)
  obtain ⟨P, eP, hP⟩ := ramp_e hs
  obtain ⟨A, C, M, eM, hM⟩ := bayer_e i0.1 i0.2
  obtain ⟨Q, eQ, hQ⟩ := screen_e hP hM
  obtain ⟨u, v, eU, u0, u1, v0, v1⟩ := mean_e hQ
  obtain ⟨T, hT, hT0, eT⟩ := dots_e hQ
  have l4 := itoa_len (n := u) (by omega) (by omega); have l5 := itoa_len (n := v) (by omega) (by omega)
  have hsw : (swapB 10 47 T).length = T.length := by simp [swapB]
  rw [dec_c (by omega) (by omega) (by omega), Option.bind_some, show (⟨#[114, 97, 109, 112, 32]⟩ : ByteArray) = B [114, 97, 109, 112, 32] from rfl, show (⟨#[32]⟩ : ByteArray) = B [32] from rfl, if_pos (by rw [B_s]; omega), B_a, if_pos (by rw [B_s]; simp; omega),
    dec_c (by omega) (by omega) (by omega), Option.bind_some, B_a, if_pos (by rw [B_s, B_s]; simp; omega), B_a, if_pos (by rw [B_s]; simp; omega), dec_c i0.1 (by omega) (by omega), Option.bind_some,
    show (⟨#[10, 98, 97, 121, 101, 114, 32]⟩ : ByteArray) = B [10, 98, 97, 121, 101, 114, 32] from rfl, B_a, if_pos (by rw [B_s, B_s]; simp; omega), B_a, if_pos (by rw [B_s]; simp; omega), eP, Option.bind_some, eM _ (by omega), Option.bind_some, eQ, Option.bind_some, eU _ (by omega), Option.bind_some, eT _ (by omega), Option.bind_some,
    show (⟨#[10, 115, 99, 114, 101, 101, 110, 10, 109, 101, 97, 110, 10, 10, 115, 104, 111, 119]⟩ : ByteArray) = B [10, 115, 99, 114, 101, 101, 110, 10, 109, 101, 97, 110, 10, 10, 115, 104, 111, 119] from rfl, B_a]
  generalize hS : B ([114, 97, 109, 112, 32] ++ Lib.itoa W ++ [32] ++ Lib.itoa H ++ [10, 98, 97, 121, 101, 114, 32] ++ Lib.itoa i ++ [10, 115, 99, 114, 101, 101, 110, 10, 109, 101, 97, 110, 10, 10, 115, 104, 111, 119]) = S
  have hS2 : S = B (script W H i) := by rw [← hS]; simp [script, joined, wRamp, wBayer, wScreen, wMean, wShow]
  obtain ⟨k2, rfl⟩ : ∃ k2, k = k2 + 1 + T.length := ⟨k - 1 - T.length, by omega⟩
  rw [law_l S u v T hT (k2 + 1) T.length [] 0 (by omega) (by omega) (by omega) (by simp)]
  have hz : ((B (T ++ [10])).size : Int) = T.length + 1 := by rw [B_s]; simp
  rw [laws_FnDesk.l0, hz, w64 (x := (T.length : Int) + 1 - 1) (by omega) (by omega), if_neg (by omega), hS2, script_c hs i0.1 i0.2 (by omega) eP hP eM hM eQ hQ eU u0 u1 v0 v1 hT hT0 eT, Option.bind_some, if_pos rfl,
    dec_c u0 (by omega) (by omega), Option.bind_some, if_pos (by rw [B_s]; omega), show (⟨#[111, 107, 10, 111, 107, 10, 111, 107, 10]⟩ : ByteArray) = B [111, 107, 10, 111, 107, 10, 111, 107, 10] from rfl, B_a, if_pos (by rw [B_s]; simp; omega), dec_c v0 (by omega) (by omega), Option.bind_some,
    show (⟨#[32]⟩ : ByteArray) = B [32] from rfl, B_a, if_pos (by rw [B_s, B_s]; simp; omega), B_a, if_pos (by rw [B_s]; simp; omega), show (⟨#[10]⟩ : ByteArray) = B [10] from rfl, B_a, Int.toNat_zero, List.drop_zero, List.nil_append, put_nums, if_pos (by rw [B_s, B_s]; simp [hsw]; omega), B_a, if_pos (by rw [B_s]; simp [hsw]; omega), B_a, B_t, B_t]
  simp [told, wOk]

end Go.Proofs.YtkcgnnepgebekaaGreatDoor.PFnDesk
