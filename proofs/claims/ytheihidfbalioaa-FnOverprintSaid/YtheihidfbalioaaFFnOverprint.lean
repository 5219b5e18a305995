/- What the functions that laws.FnOverprint reaches compute, and that the law is true: over numbers alone. -/
import Derived.Test.YtheihidfbalioaaPFnOverprintx
import Derived.Test.YtheihidfbalioaaPic2
import Derived.Laws.Strings
namespace Go.Proofs.Ytheihidfbalioaa.PFnOverprint
open Go.RowKit Go.Proofs.YtheihidfbalioaaW.PrintWords Go.Proofs.YtheihidfbalioaaW.PrintLast Go.Proofs.YtheihidfbalioaaW.PrintMore
set_option linter.unusedVariables false
set_option linter.unusedSimpArgs false
set_option linter.unusedSimpArgs false
open Pic
theorem w64 {x : Int} (h1 : -9223372036854775808 ≤ x) (h2 : x ≤ 9223372036854775807) : wrap64 x = x := by unfold wrap64; omega
theorem rd_at (l : List Int) (i : Int) : rd l i = at_ l i := rfl
theorem tmod_pos {n x : Int} (h : 0 ≤ x) : Int.tmod x n = x % n := Int.tmod_eq_emod_of_nonneg h
theorem tdiv_pos {n x : Int} (h : 0 ≤ x) : Int.tdiv x n = x / n := Int.tdiv_eq_ediv_of_nonneg h
theorem dec_ff {p : Prop} [Decidable p] (h : ¬ p) : some false = some (decide p) := by rw [decide_eq_false h]
theorem dec_dd {p q : Prop} [Decidable p] [Decidable q] (h : p ↔ q) : some (decide p) = some (decide q) := by rw [decide_eq_decide.mpr h]
theorem mn_eq (a b : Int) : mn a b = if b < a then b else a := rfl
theorem up_wide {W H : Int} {l : List Int} (h : Up W H l 1) : Up W H l 255 := ⟨h.1, h.2.1, fun v hv => ⟨(h.2.2 v hv).1, by have := (h.2.2 v hv).2; omega⟩⟩
theorem mk_neg (n : Nat) : ¬ ((1 : Int) + n < 0) := by omega
theorem drop_p (l : List S25) {i : Int} (h0 : 0 ≤ i) (h : i < l.length) : l.drop i.toNat = rd_T25 l i :: l.drop (i + 1).toNat := by
  have hj : i.toNat < l.length := by omega
  have e : rd_T25 l i = l[i.toNat] := by unfold rd_T25; rw [List.getD_eq_getElem?_getD, List.getElem?_eq_getElem hj, Option.getD_some]
  rw [List.drop_eq_getElem_cons hj, e, show (i + 1).toNat = i.toNat + 1 by omega]
theorem mem_p {l : List S25} {i : Int} (h0 : 0 ≤ i) (h : i < l.length) : rd_T25 l i ∈ l := by
  have : rd_T25 l i ∈ l.drop i.toNat := by rw [drop_p l h0 h]; exact List.mem_cons_self
  exact List.mem_of_mem_drop this
theorem at_c (xs : List Int) (hl : xs.length ≤ 140737488351232) (hw : ∀ x ∈ xs, (Lit.int .u8 x).wf = true) (i : Int) (h0 : 0 ≤ i) (h1 : i ≤ 1000) : ∃ v, laws_at.f xs i = some v ∧ 0 ≤ v ∧ v ≤ 255 := by
  unfold laws_at.f
  by_cases hlt : i < (xs.length : Int)
  · rw [if_pos hlt, if_pos h0]
    have hm : rd xs i ∈ xs := by
      have : i.toNat < xs.length := by omega
      unfold rd; rw [List.getD_eq_getElem?_getD, List.getElem?_eq_getElem this, Option.getD_some]; exact List.getElem_mem this
    have hb : 0 ≤ rd xs i ∧ rd xs i ≤ 255 := by
      have h := hw _ hm
      simp only [Lit.wf, Bool.and_eq_true, decide_eq_true_eq] at h
      exact h
    exact ⟨_, rfl, by rw [w64 (by omega) (by omega)]; exact hb.1, by rw [w64 (by omega) (by omega)]; exact hb.2⟩
  · rw [if_neg hlt]
    refine ⟨_, rfl, ?_⟩
    rw [w64 (x := i * 37) (by omega) (by omega), w64 (x := _ * 11) (by omega) (by omega), w64 (by omega) (by omega), tmod_pos (by omega)]
    omega
theorem totl_c (l : List Int) (hl : l.length ≤ 1048576) {m : Int} (hA : All m l) (hm : m ≤ 1048576) (d : Nat) : ∀ (k : Nat) (s j : Int), 0 ≤ j → j ≤ l.length → (l.length : Int) - j = d → 0 ≤ s → s ≤ j * m → d < k → laws_total.l0 k s l l.length j = some (s + tot (l.drop j.toNat)) := by
  induction d with
  | zero =>
    intro k s j j0 j1 hd s0 s1 hk
    obtain ⟨k, rfl⟩ : ∃ m, k = m + 1 := ⟨k - 1, by omega⟩
    rw [laws_total.l0, if_neg (by omega), drop_end l (by omega)]; simp [tot]
  | succ d ih =>
    intro k s j j0 j1 hd s0 s1 hk
    obtain ⟨k, rfl⟩ : ∃ m, k = m + 1 := ⟨k - 1, by omega⟩
    have hv : 0 ≤ at_ l j ∧ at_ l j ≤ m := hA _ (at_mem j0 (by omega))
    have hb := mul_bd (c := 1048576) (d := 1048576) j0 (by omega) (show 0 ≤ m by omega) hm
    have e : (j + 1) * m = j * m + m := by rw [Int.add_mul, Int.one_mul]
    rw [laws_total.l0, if_pos (by omega), if_pos j0, if_pos (by omega), rd_at, w64 (x := s + _) (by omega) (by omega), w64 (x := j + 1) (by omega) (by omega), ih k _ (j + 1) (by omega) (by omega) (by omega) (by omega) (by omega) (by omega), drop_at l j0 (by omega), tot, Int.add_assoc]
theorem tot_c {l : List Int} (hl : l.length ≤ 1048576) {m : Int} (hA : All m l) (hm : m ≤ 1048576) {k : Nat} (hk : 1100000 ≤ k) : laws_total.f k l = some (tot l) := by
  unfold laws_total.f
  rw [totl_c l hl hA hm l.length k 0 0 (by omega) (by omega) (by omega) (by omega) (by omega) (by omega), Int.zero_add]; rfl
theorem within_i {l : List Int} (hl : l.length ≤ 1048576) (m : Int) : impl_within.f l m = some (decide (All m l)) := by
  unfold impl_within.f
  rw [if_pos (by omega)]; simp only [Option.some.injEq]
  rw [Bool.eq_iff_iff, List.all_eq_true, decide_eq_true_iff]
  exact ⟨fun h v hv => of_decide_eq_true (h v hv), fun h v hv => decide_eq_true (h v hv)⟩
theorem size_i (W H : Int) : impl_sized.f W H = some (decide (Sz W H)) := by
  unfold impl_sized.f
  by_cases h : 1 ≤ W ∧ W ≤ 64 ∧ 1 ≤ H ∧ H ≤ 64
  · have := mul_bd (c := 64) (d := 64) (show 0 ≤ W by omega) h.2.1 (show 0 ≤ H by omega) h.2.2.2
    rw [if_pos (by omega), if_pos (by omega), if_pos (by omega), if_pos (by omega), w64 (by omega) (by omega)]
    exact dec_dd (by unfold Sz; omega)
  · repeat' split
    all_goals first | exact dec_ff (by unfold Sz; omega) | (exfalso; omega)
theorem pict_i {W H : Int} {l : List Int} (hl : l.length ≤ 1048576) : impl_IsPicture.f W H l = some (decide (Up W H l 255)) := by
  unfold impl_IsPicture.f
  rw [size_i, Option.bind_some]
  by_cases h : Sz W H
  · have := h.area
    rw [if_pos (decide_eq_true h), w64 (by omega) (by omega), within_i hl]
    by_cases e : (l.length : Int) = W * H
    · rw [if_pos e]; exact dec_dd ⟨fun x => ⟨h, e, x⟩, fun x => x.2.2⟩
    · rw [if_neg e]; exact dec_ff (fun x => e x.2.1)
  · rw [if_neg (by rw [decide_eq_true_iff]; exact h)]; exact dec_ff (fun x => h x.1)
theorem one_i (b : Bool) : impl_one.f b = some (if b = true then 1 else 0) := by unfold impl_one.f; split <;> rfl
theorem countl_i {l : List Int} (hl : l.length ≤ 1048576) (d : Nat) : ∀ (k : Nat) (s j : Int), 0 ≤ j → j ≤ l.length → 0 ≤ s → s ≤ j → (l.length : Int) - j = d → d < k → impl_CountInk.l0 k 1 s l l.length j = some (s + cnt 1 (l.drop j.toNat)) := by
  induction d with
  | zero =>
    intro k s j j0 j1 s0 s1 hd hk
    obtain ⟨k, rfl⟩ : ∃ m, k = m + 1 := ⟨k - 1, by omega⟩
    rw [impl_CountInk.l0, if_neg (by omega), drop_end l (by omega)]; simp [cnt]
  | succ d ih =>
    intro k s j j0 j1 s0 s1 hd hk
    obtain ⟨k, rfl⟩ : ∃ m, k = m + 1 := ⟨k - 1, by omega⟩
    rw [impl_CountInk.l0, if_pos (by omega), if_pos j0, if_pos (by omega), drop_at l j0 (by omega), one_i, Option.bind_some, rd_at, w64 (x := j + 1) (by omega) (by omega), cnt]
    by_cases e : at_ l j = 1
    · rw [if_pos (beq_iff_eq.mpr e), w64 (x := s + 1) (by omega) (by omega), ih k _ (j + 1) (by omega) (by omega) (by omega) (by omega) (by omega) (by omega), if_pos e]; simp only [Option.some.injEq]; omega
    · rw [if_neg (by rw [beq_iff_eq]; exact e), w64 (x := s + 0) (by omega) (by omega), ih k _ (j + 1) (by omega) (by omega) (by omega) (by omega) (by omega) (by omega), if_neg e]; simp only [Option.some.injEq]; omega
theorem count_i {W H : Int} {l : List Int} (h : Up W H l 1) {k : Nat} (hk : 1100000 ≤ k) : impl_CountInk.f k W H l 1 = some (tot l) := by
  have := h.1.area; have := h.2.1
  unfold impl_CountInk.f
  rw [pict_i (by omega), Option.bind_some, if_pos (decide_eq_true (up_wide h)), countl_i (by omega) l.length k 0 0 (by omega) (by omega) (by omega) (by omega) (by omega) (by omega), Int.zero_add, ← cnt_tot h.2.2]; rfl
theorem gridO_tab {W H : Int} {AT : Int → Int → Option Int} {F : Int → Int} (hW : 1 ≤ W) (hH : 0 ≤ H) (h : ∀ x y, 0 ≤ x → x < W → 0 ≤ y → y < H → AT x y = some (F (y * W + x))) : Ext.gridO W H AT = some (tab F (W * H).toNat 0) := by
  rw [Ext.gridO_of (g := fun x y => F (y * W + x)) hW hH h]
  simp only [Option.some.injEq]
  unfold Ext.grid Ext.pref
  rw [← tab_range]
  apply List.map_congr_left
  intro i _
  show F ((i : Int) / W * W + (i : Int) % W) = _
  rw [xy_of]
theorem drawn_some {W H : Int} (hs : Sz W H) {AT : Int → Int → Option Int} {F : Int → Int} (h : ∀ x y, 0 ≤ x → x < W → 0 ≤ y → y < H → AT x y = some (F (y * W + x))) :
    (if 1 ≤ W ∧ W ≤ 1024 ∧ 0 ≤ H ∧ H ≤ 1024 ∧ W * H ≤ 1024 then (Ext.gridO W H AT).map fun l => (W, H, l) else none) = some (W, H, tab F (W * H).toNat 0) := by
  have hW := hs.1; have hW2 := hs.2.1; have hH := hs.2.2.1; have hH2 := hs.2.2.2.1; have ha := hs.area
  rw [if_pos (by omega), gridO_tab hW (by omega) h]; rfl
theorem idx_w {W H x y : Int} (hs : Sz W H) (x0 : 0 ≤ x) (x1 : x < W) (y0 : 0 ≤ y) (y1 : y < H) : wrap64 (wrap64 (y * W) + x) = y * W + x ∧ 0 ≤ y * W + x ∧ y * W + x < W * H ∧ (y * W + x) % W = x ∧ (y * W + x) / W = y := by
  have hi := xy_idx x0 x1 y0 y1
  have hW := hs.1; have hW2 := hs.2.1; have hH2 := hs.2.2.2.1; have ha := hs.area
  have q := mul_bd (c := 64) (d := 64) y0 (by omega) (show 0 ≤ W by omega) hW2
  refine ⟨by rw [w64 (x := y * W) (by omega) (by omega), w64 (by omega) (by omega)], hi.1, hi.2, ?_, ?_⟩
  · rw [Int.add_comm, Int.add_mul_emod_self_right, Int.emod_eq_of_lt x0 x1]
  · rw [Int.add_comm, Int.add_mul_ediv_right _ _ (by omega), Int.ediv_eq_zero_of_lt x0 x1, Int.zero_add]
-- nothing on impl_CrossPlates_1
-- nothing on impl_CrossPlates_1.drawn
-- nothing on impl_CrossPlates_2
-- nothing on impl_CrossPlates_2.drawn
def cross (R C : List Int) : List S25 × Bool := if Sz C.length R.length ∧ All 1 R ∧ All 1 C then ([⟨C.length, R.length, crossA R C⟩, ⟨C.length, R.length, crossB R C⟩], true) else ([], false)
theorem cross_i {R C : List Int} (hR : R.length ≤ 1048576) (hC : C.length ≤ 1048576) {k : Nat} (hk : 10 ≤ k) : impl_CrossPlates.f k R C = some (cross R C) := by
  obtain ⟨k, rfl⟩ : ∃ m, k = m + 1 := ⟨k - 1, by omega⟩
  unfold impl_CrossPlates.f cross
  rw [size_i, Option.bind_some]
  by_cases hs : Sz C.length R.length
  · have ha := hs.area
    rw [if_pos (decide_eq_true hs), within_i hR, Option.bind_some]
    by_cases h1 : All 1 R
    · rw [if_pos (decide_eq_true h1), within_i hC, Option.bind_some, impl_CrossPlates.j0]
      by_cases h2 : All 1 C
      · rw [if_neg (by rw [decide_eq_true h2]; decide), if_pos ⟨hs, h1, h2⟩]
        unfold impl_CrossPlates_1.drawn.f impl_CrossPlates_2.drawn.f
        rw [drawn_some hs (F := fun i => at_ C (i % C.length)) (fun x y x0 x1 y0 y1 => ?_), Option.bind_some, drawn_some hs (F := fun i => at_ R (i / C.length)) (fun x y x0 x1 y0 y1 => ?_), Option.bind_some]
        · rfl
        · unfold impl_CrossPlates_2.f
          rw [if_pos y0, if_pos y1, (idx_w hs x0 x1 y0 y1).2.2.2.2, rd_at]
        · unfold impl_CrossPlates_1.f
          rw [if_pos x0, if_pos x1, (idx_w hs x0 x1 y0 y1).2.2.2.1, rd_at]
      · rw [if_pos (by rw [decide_eq_false h2]; rfl), if_neg (c := _ ∧ _ ∧ _) (fun z => h2 z.2.2)]
    · rw [if_neg (by rw [decide_eq_true_iff]; exact h1), impl_CrossPlates.j0, if_pos rfl, if_neg (c := _ ∧ _ ∧ _) (fun z => h1 z.2.1)]
  · rw [if_neg (by rw [decide_eq_true_iff]; exact hs), impl_CrossPlates.j0, if_pos rfl, if_neg (c := _ ∧ _ ∧ _) (fun z => hs z.1)]
theorem plate_i {W H : Int} {l : List Int} (hl : l.length ≤ 1048576) : impl_IsPlate.f W H l = some (decide (Up W H l 1)) := by
  unfold impl_IsPlate.f
  rw [pict_i hl, Option.bind_some, within_i hl]
  by_cases h : Up W H l 255
  · rw [if_pos (decide_eq_true h)]; exact dec_dd ⟨fun x => ⟨h.1, h.2.1, x⟩, fun x => x.2.2⟩
  · rw [if_neg (by rw [decide_eq_true_iff]; exact h)]; exact dec_ff (fun x => h ⟨x.1, x.2.1, fun v hv => ⟨(x.2.2 v hv).1, by have := (x.2.2 v hv).2; omega⟩⟩)
theorem alike_i (a b c d : Int) {l m : List Int} (hl : l.length ≤ 1048576) (hm : m.length ≤ 1048576) : impl_alike.f a b l c d m = some (decide ((Up a b l 255 ∧ Up c d m 255) ∧ a = c ∧ b = d)) := by
  unfold impl_alike.f
  rw [pict_i hl, Option.bind_some, pict_i hm, Option.bind_some]
  by_cases h : Up a b l 255
  · rw [if_pos (decide_eq_true h)]
    by_cases h2 : Up c d m 255
    · rw [if_pos (decide_eq_true h2)]
      by_cases h3 : a = c
      · rw [if_pos h3]
        by_cases h4 : b = d
        · rw [decide_eq_true (show (Up a b l 255 ∧ Up c d m 255) ∧ a = c ∧ b = d from ⟨⟨h, h2⟩, h3, h4⟩), beq_iff_eq.mpr h4]
        · rw [beq_eq_false_iff_ne.mpr h4]; exact dec_ff (fun x => h4 x.2.2)
      · rw [if_neg h3]; exact dec_ff (fun x => h3 x.2.1)
    · rw [if_neg (by rw [decide_eq_true_iff]; exact h2)]; exact dec_ff (fun x => h2 x.1.2)
  · rw [if_neg (by rw [decide_eq_true_iff]; exact h)]; exact dec_ff (fun x => h x.1.1)
/-- every one a plate of the first one's size -/
def likeF (a b : Int) (l : List S25) : Prop := ∀ x ∈ l, Up x.f0 x.f1 x.f2 1 ∧ x.f0 = a ∧ x.f1 = b
instance (a b : Int) (l : List S25) : Decidable (likeF a b l) := inferInstanceAs (Decidable (∀ x ∈ l, _))
def Stk (l : List S25) : Prop := (1 ≤ l.length ∧ l.length ≤ 4) ∧ likeF (rd_T25 l 0).f0 (rd_T25 l 0).f1 l
instance (l : List S25) : Decidable (Stk l) := inferInstanceAs (Decidable (_ ∧ _))
theorem likeF_cons {a b : Int} {x : S25} {l : List S25} : likeF a b (x :: l) ↔ (Up x.f0 x.f1 x.f2 1 ∧ x.f0 = a ∧ x.f1 = b) ∧ likeF a b l := by simp [likeF]
theorem stackl_i {l : List S25} (hl : l.length ≤ 4) (hq : ∀ x ∈ l, x.f2.length ≤ 1048576) (d : Nat) : ∀ (k : Nat) (i : Int), 0 ≤ i → i ≤ l.length → (l.length : Int) - i = d → (0 < i → Up (rd_T25 l 0).f0 (rd_T25 l 0).f1 (rd_T25 l 0).f2 1) → d < k →
    impl_IsStack.l0 k l l l.length i = some (decide (likeF (rd_T25 l 0).f0 (rd_T25 l 0).f1 (l.drop i.toNat))) := by
  induction d with
  | zero =>
    intro k i i0 i1 hd h0 hk
    obtain ⟨k, rfl⟩ : ∃ m, k = m + 1 := ⟨k - 1, by omega⟩
    rw [impl_IsStack.l0, if_neg (by omega), List.drop_eq_nil_of_le (by omega), decide_eq_true (show likeF _ _ [] from fun x hx => by simp at hx)]
  | succ d ih =>
    intro k i i0 i1 hd h0 hk
    obtain ⟨k, rfl⟩ : ∃ m, k = m + 1 := ⟨k - 1, by omega⟩
    have hi : i < l.length := by omega
    rw [impl_IsStack.l0, if_pos hi, if_pos i0, if_pos hi, plate_i (hq _ (mem_p i0 hi)), Option.bind_some, drop_p l i0 hi, w64 (by omega) (by omega)]
    by_cases h : Up (rd_T25 l i).f0 (rd_T25 l i).f1 (rd_T25 l i).f2 1
    · have hu : Up (rd_T25 l 0).f0 (rd_T25 l 0).f1 (rd_T25 l 0).f2 1 := by
        by_cases e : 0 < i
        · exact h0 e
        · rw [show i = 0 by omega] at h; exact h
      rw [if_pos (decide_eq_true h), if_pos (by omega), alike_i _ _ _ _ (hq _ (mem_p i0 hi)) (hq _ (mem_p (by omega) (by omega))), Option.bind_some]
      by_cases h1 : (rd_T25 l i).f0 = (rd_T25 l 0).f0 ∧ (rd_T25 l i).f1 = (rd_T25 l 0).f1
      · rw [if_pos (decide_eq_true ⟨⟨up_wide h, up_wide hu⟩, h1⟩), ih k (i + 1) (by omega) (by omega) (by omega) (fun _ => hu) (by omega)]
        exact dec_dd (by rw [likeF_cons]; exact ⟨fun x => ⟨⟨h, h1⟩, x⟩, fun x => x.2⟩)
      · rw [if_neg (by rw [decide_eq_true_iff]; exact fun x => h1 x.2)]; exact dec_ff (by rw [likeF_cons]; exact fun x => h1 x.1.2)
    · rw [if_neg (by rw [decide_eq_true_iff]; exact h)]; exact dec_ff (by rw [likeF_cons]; exact fun x => h x.1.1)
theorem stack_i {l : List S25} (hl : l.length ≤ 1048576) (hq : ∀ x ∈ l, x.f2.length ≤ 1048576) {k : Nat} (hk : 100 ≤ k) : impl_IsStack.f k l = some (decide (Stk l)) := by
  obtain ⟨k, rfl⟩ : ∃ m, k = m + 1 := ⟨k - 1, by omega⟩
  unfold impl_IsStack.f
  by_cases h : 1 ≤ (l.length : Int) ∧ (l.length : Int) ≤ 4
  · rw [if_neg (by omega), impl_IsStack.j0, if_neg (by rw [decide_eq_true_iff]; omega), stackl_i (by omega) hq l.length k 0 (by omega) (by omega) (by omega) (fun z => by omega) (by omega)]
    exact dec_dd (by unfold Stk; exact ⟨fun x => ⟨by omega, x⟩, fun x => x.2⟩)
  · have e : some false = some (decide (Stk l)) := dec_ff (fun x => h (by have := x.1; omega))
    by_cases h1 : (l.length : Int) < 1
    · rw [if_pos h1, impl_IsStack.j0, if_pos rfl, e]
    · rw [if_neg h1, impl_IsStack.j0, if_pos (by rw [decide_eq_true_iff]; omega), e]
theorem suml_i {l : List Int} (hl : l.length ≤ 1048576) (hA : All 1 l) (d : Nat) : ∀ (k : Nat) (s j : Int), 0 ≤ j → j ≤ l.length → 0 ≤ s → s ≤ j → (l.length : Int) - j = d → d < k → impl_SumInk.l0 k s l l.length j = some (s + cnt 1 (l.drop j.toNat)) := by
  induction d with
  | zero =>
    intro k s j j0 j1 s0 s1 hd hk
    obtain ⟨k, rfl⟩ : ∃ m, k = m + 1 := ⟨k - 1, by omega⟩
    rw [impl_SumInk.l0, if_neg (by omega), drop_end l (by omega)]; simp [cnt]
  | succ d ih =>
    intro k s j j0 j1 s0 s1 hd hk
    obtain ⟨k, rfl⟩ : ∃ m, k = m + 1 := ⟨k - 1, by omega⟩
    have ha : 0 ≤ at_ l j ∧ at_ l j ≤ 1 := hA _ (at_mem j0 (by omega))
    rw [impl_SumInk.l0, if_pos (by omega), if_pos j0, if_pos (by omega), drop_at l j0 (by omega), rd_at, w64 (x := s + _) (by omega) (by omega), w64 (x := j + 1) (by omega) (by omega), ih k _ (j + 1) (by omega) (by omega) (by omega) (by omega) (by omega) (by omega), cnt]
    split <;> (simp only [Option.some.injEq]; omega)
theorem sum_i {W H : Int} {l : List Int} (h : Up W H l 1) {k : Nat} (hk : 1100000 ≤ k) : impl_SumInk.f k W H l = some ((cnt 1 l : Nat) : Int) := by
  have := h.1.area; have := h.2.1
  unfold impl_SumInk.f
  rw [pict_i (by omega), Option.bind_some, if_pos (decide_eq_true ⟨h.1, h.2.1, fun v hv => ⟨(h.2.2 v hv).1, by have := (h.2.2 v hv).2; omega⟩⟩), suml_i (by omega) h.2.2 l.length k 0 0 (by omega) (by omega) (by omega) (by omega) (by omega) (by omega), Int.zero_add]; rfl
theorem stk_up {l : List S25} (h : Stk l) : ∀ x ∈ l, Up (rd_T25 l 0).f0 (rd_T25 l 0).f1 x.f2 1 := by
  intro x hx
  obtain ⟨h1, h2, h3⟩ := h.2 x hx
  rw [← h2, ← h3]; exact h1
theorem stk_sz {l : List S25} (h : Stk l) : Sz (rd_T25 l 0).f0 (rd_T25 l 0).f1 := by
  have := h.1
  exact (stk_up h _ (mem_p (l := l) (i := 0) (by omega) (by omega))).1
theorem shl_bit {b j : Int} (hb : In 1 b) (h0 : 0 ≤ j) (h1 : j ≤ 3) : shl .i64 b j = b * p2 j := by
  unfold In at hb
  unfold shl
  have hj : j = 0 ∨ j = 1 ∨ j = 2 ∨ j = 3 := by omega
  rcases hj with rfl | rfl | rfl | rfl
  · show IntKind.i64.wrap (b * 1) = b * 1
    rw [i64_w, w64 (by omega) (by omega)]
  · show IntKind.i64.wrap (b * 2) = b * 2
    rw [i64_w, w64 (by omega) (by omega)]
  · show IntKind.i64.wrap (b * 4) = b * 4
    rw [i64_w, w64 (by omega) (by omega)]
  · show IntKind.i64.wrap (b * 8) = b * 8
    rw [i64_w, w64 (by omega) (by omega)]
def mkL (i : Int) : List S25 → Int → Int → Int
  | [], _, s => s
  | x :: r, j, s => mkL i r (j + 1) (wrap64 (s + shl .i64 (at_ x.f2 i) j))
theorem mkL_bd (i : Int) : ∀ (r : List S25) (j s : Int), (∀ x ∈ r, In 1 (at_ x.f2 i)) → 0 ≤ j → j + r.length ≤ 4 → 0 ≤ s → s < p2 j → 0 ≤ mkL i r j s ∧ mkL i r j s < p2 (j + r.length) := by
  intro r
  induction r with
  | nil => intro j s _ _ _ s0 s1; simp [mkL]; exact ⟨s0, s1⟩
  | cons x r ih =>
    intro j s hx j0 j1 s0 s1
    rw [List.length_cons] at j1
    have hb : 0 ≤ at_ x.f2 i ∧ at_ x.f2 i ≤ 1 := hx x List.mem_cons_self
    have hp := p2_bd j
    have hst := p2_step j0 (by omega)
    rw [mkL, shl_bit hb j0 (by omega)]
    have e : at_ x.f2 i * p2 j = 0 ∨ at_ x.f2 i * p2 j = p2 j := by
      have : at_ x.f2 i = 0 ∨ at_ x.f2 i = 1 := by omega
      rcases this with h | h <;> rw [h] <;> simp
    rw [w64 (by omega) (by omega)]
    have := ih (j + 1) (s + at_ x.f2 i * p2 j) (fun y hy => hx y (List.mem_cons_of_mem _ hy)) (by omega) (by omega) (by omega) (by omega)
    rw [List.length_cons, show j + ((r.length + 1 : Nat) : Int) = j + 1 + r.length by omega]; exact this
theorem mkL_stk {l : List S25} (h : Stk l) {i : Int} (i0 : 0 ≤ i) (i1 : i < (rd_T25 l 0).f0 * (rd_T25 l 0).f1) : 0 ≤ mkL i l 0 0 ∧ mkL i l 0 0 < p2 l.length := by
  have h1 := h.1
  have := mkL_bd i l 0 0 (fun x hx => by
    have hu := stk_up h x hx; have := hu.2.1
    exact hu.2.2 _ (at_mem i0 (by omega))) (by omega) (by omega) (by omega) (by decide)
  rw [Int.zero_add] at this; exact this
theorem shl_one {n : Nat} (h : 1 ≤ n ∧ n ≤ 4) : shl .i64 1 (n : Int) = p2 n := by
  have : n = 1 ∨ n = 2 ∨ n = 3 ∨ n = 4 := by omega
  rcases this with rfl | rfl | rfl | rfl <;> rfl
def cntL (l : List S25) : Nat → Int → List Int → List Int
  | 0, _, c => c
  | d + 1, i, c => cntL l d (i + 1) (c.set (mkL i l 0 0).toNat (wrap64 (at_ c (mkL i l 0 0) + 1)))
theorem cntL_len (l : List S25) : ∀ (d : Nat) (i : Int) (c : List Int), (cntL l d i c).length = c.length := by
  intro d
  induction d with
  | zero => intro i c; rfl
  | succ d ih => intro i c; rw [cntL, ih, List.length_set]
def countsOf (l : List S25) : List Int := if Stk l then cntL l (rd_T25 l 0).f2.length 0 (List.replicate (p2 l.length).toNat 0) else []
theorem countsOf_len {l : List S25} (h : Stk l) : ((countsOf l).length : Int) = p2 l.length := by
  have := p2_bd l.length
  unfold countsOf; rw [if_pos h, cntL_len, List.length_replicate]; omega
def two (W H : Int) (l : List Int) (V G : Int) (m : List Int) : Prop := (Up W H l 1 ∧ Up V G m 1) ∧ V = W ∧ G = H
instance (W H : Int) (l : List Int) (V G : Int) (m : List Int) : Decidable (two W H l V G m) := inferInstanceAs (Decidable (_ ∧ _))
theorem stk_two (W H : Int) (l : List Int) (V G : Int) (m : List Int) : Stk [(⟨W, H, l⟩ : S25), ⟨V, G, m⟩] ↔ two W H l V G m := by
  unfold Stk two likeF
  constructor
  · intro h
    have a := h.2 ⟨W, H, l⟩ (by simp)
    have b := h.2 ⟨V, G, m⟩ (by simp)
    exact ⟨⟨a.1, b.1⟩, b.2⟩
  · intro h
    refine ⟨by simp, fun x hx => ?_⟩
    rcases List.mem_cons.mp hx with e | e
    · subst e; exact ⟨h.1.1, rfl, rfl⟩
    · rcases List.mem_cons.mp e with e | e
      · subst e; exact ⟨h.1.2, h.2⟩
      · simp at e
/-- points where both have a dot, the first alone, the second alone -/
def both : List Int → List Int → Int
  | a :: r, b :: q => a * b + both r q
  | _, _ => 0
theorem both_bd : ∀ (l m : List Int), All 1 l → All 1 m → 0 ≤ both l m ∧ both l m ≤ l.length := by
  intro l
  induction l with
  | nil => intro m _ _; simp [both]
  | cons a l ih =>
    intro m hl hm
    cases m with
    | nil => simp [both]; omega
    | cons b m =>
      obtain ⟨ha, hl'⟩ := All.cons.mp hl
      obtain ⟨hb, hm'⟩ := All.cons.mp hm
      have := ih m hl' hm'
      unfold In at ha hb
      have e : a * b = 0 ∨ a * b = 1 := by
        have h1 : a = 0 ∨ a = 1 := by omega
        have h2 : b = 0 ∨ b = 1 := by omega
        rcases h1 with e1 | e1 <;> rcases h2 with e2 | e2 <;> rw [e1, e2] <;> simp
      unfold both; rw [List.length_cons]; omega
theorem mk_two {W H V G : Int} {a b : List Int} (ha : All 1 a) (hb : All 1 b) {i : Int} (i0 : 0 ≤ i) (i1 : i < a.length) (i2 : i < b.length) :
    mkL i [(⟨W, H, a⟩ : S25), ⟨V, G, b⟩] 0 0 = at_ a i + 2 * at_ b i ∧ In 1 (at_ a i) ∧ In 1 (at_ b i) := by
  have h1 := ha _ (at_mem i0 i1)
  have h2 := hb _ (at_mem i0 i2)
  refine ⟨?_, h1, h2⟩
  have e1 : shl .i64 (at_ a i) 0 = at_ a i * 1 := shl_bit h1 (by omega) (by omega)
  have e2 : shl .i64 (at_ b i) (0 + 1) = at_ b i * 2 := shl_bit (j := 1) h2 (by omega) (by omega)
  unfold In at h1 h2
  unfold mkL mkL mkL
  rw [e1, e2, w64 (x := 0 + at_ a i * 1) (by omega) (by omega), w64 (by omega) (by omega)]; omega
theorem cnt_two_l {W H V G : Int} {a b : List Int} (ha : All 1 a) (hb : All 1 b) (hab : a.length = b.length) (hn : a.length ≤ 1024) (d : Nat) : ∀ (i c0 c1 c2 c3 : Int), 0 ≤ i → (a.length : Int) - i = d → (0 ≤ c0 ∧ c0 ≤ i) → (0 ≤ c1 ∧ c1 ≤ i) → (0 ≤ c2 ∧ c2 ≤ i) → (0 ≤ c3 ∧ c3 ≤ i) →
    ∃ e0 e1 e2 e3 : Int, cntL [(⟨W, H, a⟩ : S25), ⟨V, G, b⟩] d i [c0, c1, c2, c3] = [e0, e1, e2, e3] ∧ e3 = c3 + both (a.drop i.toNat) (b.drop i.toNat) ∧ e1 + e3 = c1 + c3 + cnt 1 (a.drop i.toNat) ∧ e2 + e3 = c2 + c3 + cnt 1 (b.drop i.toNat) := by
  induction d with
  | zero =>
    intro i c0 c1 c2 c3 i0 hd _ _ _ _
    refine ⟨c0, c1, c2, c3, rfl, ?_⟩
    rw [drop_end a (by omega), drop_end b (by omega)]; simp [both, cnt]
  | succ d ih =>
    intro i c0 c1 c2 c3 i0 hd b0 b1 b2 b3
    obtain ⟨hm, h1, h2⟩ := mk_two (W := W) (H := H) (V := V) (G := G) ha hb (i := i) i0 (by omega) (by omega)
    unfold In at h1 h2
    rw [cntL, hm, drop_at a i0 (by omega), drop_at b i0 (by omega), both, cnt, cnt]
    have ca : at_ a i = 0 ∨ at_ a i = 1 := by omega
    have cb : at_ b i = 0 ∨ at_ b i = 1 := by omega
    rcases ca with ea | ea <;> rcases cb with eb | eb <;> rw [ea, eb]
    · obtain ⟨e0, e1, e2, e3, h, h3, h4, h5⟩ := ih (i + 1) (c0 + 1) c1 c2 c3 (by omega) (by omega) (by omega) (by omega) (by omega) (by omega)
      refine ⟨e0, e1, e2, e3, ?_, by simp; omega, by simp; omega, by simp; omega⟩
      rw [← h]; show cntL _ d (i + 1) [wrap64 (c0 + 1), c1, c2, c3] = _; rw [w64 (by omega) (by omega)]
    · obtain ⟨e0, e1, e2, e3, h, h3, h4, h5⟩ := ih (i + 1) c0 c1 (c2 + 1) c3 (by omega) (by omega) (by omega) (by omega) (by omega) (by omega)
      refine ⟨e0, e1, e2, e3, ?_, by simp; omega, by simp; omega, by simp; omega⟩
      rw [← h]; show cntL _ d (i + 1) [c0, c1, wrap64 (c2 + 1), c3] = _; rw [w64 (by omega) (by omega)]
    · obtain ⟨e0, e1, e2, e3, h, h3, h4, h5⟩ := ih (i + 1) c0 (c1 + 1) c2 c3 (by omega) (by omega) (by omega) (by omega) (by omega) (by omega)
      refine ⟨e0, e1, e2, e3, ?_, by simp; omega, by simp; omega, by simp; omega⟩
      rw [← h]; show cntL _ d (i + 1) [c0, wrap64 (c1 + 1), c2, c3] = _; rw [w64 (by omega) (by omega)]
    · obtain ⟨e0, e1, e2, e3, h, h3, h4, h5⟩ := ih (i + 1) c0 c1 c2 (c3 + 1) (by omega) (by omega) (by omega) (by omega) (by omega) (by omega)
      refine ⟨e0, e1, e2, e3, ?_, by simp; omega, by simp; omega, by simp; omega⟩
      rw [← h]; show cntL _ d (i + 1) [c0, c1, c2, wrap64 (c3 + 1)] = _; rw [w64 (by omega) (by omega)]
def sharesM (W H : Int) (l : List Int) (V G : Int) (m : List Int) : Bool := if two W H l V G m then wrap64 (both l m * l.length) == wrap64 (((cnt 1 l : Nat) : Int) * ((cnt 1 m : Nat) : Int)) else false
theorem sharesl_i {W H V G : Int} {l m : List Int} (h : two W H l V G m) (d : Nat) : ∀ (k : Nat) (s j : Int), 0 ≤ j → (l.length : Int) - j = d → 0 ≤ s → s ≤ j → d + 1200000 < k →
    impl_SharesMultiply.l0 k s l l.length j W H l V G m = some (wrap64 ((s + both (l.drop j.toNat) (m.drop j.toNat)) * l.length) == wrap64 (((cnt 1 l : Nat) : Int) * ((cnt 1 m : Nat) : Int))) := by
  have hln := h.1.1.2.1; have hmn := h.1.2.2.1; have ha := h.1.1.1.area
  have hmn2 : (m.length : Int) = W * H := by rw [hmn, h.2.1, h.2.2]
  induction d with
  | zero =>
    intro k s j j0 hd s0 s1 hk
    obtain ⟨k, rfl⟩ : ∃ m, k = m + 1 := ⟨k - 1, by omega⟩
    rw [impl_SharesMultiply.l0, if_neg (by omega), sum_i h.1.1 (by omega), Option.bind_some, sum_i h.1.2 (by omega), Option.bind_some, drop_end l (by omega), show both [] (m.drop j.toNat) = 0 by simp [both], Int.add_zero]
  | succ d ih =>
    intro k s j j0 hd s0 s1 hk
    obtain ⟨k, rfl⟩ : ∃ m, k = m + 1 := ⟨k - 1, by omega⟩
    have h1 : 0 ≤ at_ l j ∧ at_ l j ≤ 1 := h.1.1.2.2 _ (at_mem j0 (by omega))
    have h2 : 0 ≤ at_ m j ∧ at_ m j ≤ 1 := h.1.2.2.2 _ (at_mem j0 (by omega))
    have q := mul_bd (c := 1) (d := 1) h1.1 h1.2 h2.1 h2.2
    rw [impl_SharesMultiply.l0, if_pos (by omega), if_pos j0, if_pos (by omega), if_pos (by omega), rd_at, rd_at, w64 (x := at_ l j * at_ m j) (by omega) (by omega), w64 (x := s + _) (by omega) (by omega), w64 (x := j + 1) (by omega) (by omega), ih k _ (j + 1) (by omega) (by omega) (by omega) (by omega) (by omega), drop_at l j0 (by omega), drop_at m j0 (by omega), both, Int.add_assoc]
theorem shares_i {W H V G : Int} {l m : List Int} (hl : l.length ≤ 1048576) (hm : m.length ≤ 1048576) {k : Nat} (hk : 1300000 ≤ k) : impl_SharesMultiply.f k W H l V G m = some (sharesM W H l V G m) := by
  obtain ⟨k, rfl⟩ : ∃ m, k = m + 1 := ⟨k - 1, by omega⟩
  unfold impl_SharesMultiply.f sharesM
  rw [alike_i W H V G hl hm, Option.bind_some]
  by_cases h : two W H l V G m
  · have hln := h.1.1.2.1; have ha := h.1.1.1.area
    rw [if_pos (decide_eq_true ⟨⟨up_wide h.1.1, up_wide h.1.2⟩, h.2.1.symm, h.2.2.symm⟩), plate_i hl, Option.bind_some, if_pos (decide_eq_true h.1.1), plate_i hm, Option.bind_some, decide_eq_true h.1.2, impl_SharesMultiply.j0, if_neg (by decide), if_pos h,
      sharesl_i h l.length k 0 0 (by omega) (by omega) (by omega) (by omega) (by omega), Int.zero_add]; rfl
  · rw [if_neg h]
    by_cases h1 : (Up W H l 255 ∧ Up V G m 255) ∧ W = V ∧ H = G
    · rw [if_pos (decide_eq_true h1), plate_i hl, Option.bind_some]
      by_cases h2 : Up W H l 1
      · rw [if_pos (decide_eq_true h2), plate_i hm, Option.bind_some, impl_SharesMultiply.j0, if_pos]
        by_cases h3 : Up V G m 1
        · exact absurd ⟨⟨h2, h3⟩, h1.2.1.symm, h1.2.2.symm⟩ h
        · rw [decide_eq_false h3]; rfl
      · rw [if_neg (by rw [decide_eq_true_iff]; exact h2), impl_SharesMultiply.j0, if_pos rfl]
    · rw [if_neg (by rw [decide_eq_true_iff]; exact h1), impl_SharesMultiply.j0, if_pos rfl]
theorem markl_i {l : List S25} (hl : l.length ≤ 1048576) {i : Int} (i0 : 0 ≤ i) (hi : ∀ x ∈ l, i < (x.f2.length : Int)) (d : Nat) : ∀ (k : Nat) (s j : Int), 0 ≤ j → j ≤ l.length → (l.length : Int) - j = d → d < k →
    impl_mark.l0 k i s l l.length j = some (mkL i (l.drop j.toNat) j s) := by
  induction d with
  | zero =>
    intro k s j j0 j1 hd hk
    obtain ⟨k, rfl⟩ : ∃ m, k = m + 1 := ⟨k - 1, by omega⟩
    rw [impl_mark.l0, if_neg (by omega), List.drop_eq_nil_of_le (by omega)]; rfl
  | succ d ih =>
    intro k s j j0 j1 hd hk
    obtain ⟨k, rfl⟩ : ∃ m, k = m + 1 := ⟨k - 1, by omega⟩
    have hj : j < l.length := by omega
    rw [impl_mark.l0, if_pos hj, if_pos j0, if_pos hj, if_pos i0, if_pos (hi _ (mem_p j0 hj)), w64 (x := j + 1) (by omega) (by omega), ih k _ (j + 1) (by omega) (by omega) (by omega) (by omega), drop_p l j0 hj, mkL, rd_at]
theorem mark_i {l : List S25} (h : Stk l) {i : Int} (i0 : 0 ≤ i) (i1 : i < (rd_T25 l 0).f0 * (rd_T25 l 0).f1) {k : Nat} (hk : 10 ≤ k) : impl_mark.f k l i = some (mkL i l 0 0) := by
  unfold impl_mark.f
  have := h.1
  rw [markl_i (by omega) i0 (fun x hx => by have := (stk_up h x hx).2.1; omega) l.length k 0 0 (by omega) (by omega) (by omega) (by omega)]; rfl
theorem countsl_i {l : List S25} (h : Stk l) (n : Nat) (hn : n ≤ (rd_T25 l 0).f0 * (rd_T25 l 0).f1) (d : Nat) : ∀ (k : Nat) (c : List Int) (i : Int), 0 ≤ i → i ≤ n → (n : Int) - i = d → (c.length : Int) = p2 l.length → d + 20 < k →
    impl_MarkCounts.l0 k l c n i = some (cntL l d i c) := by
  have hp := p2_bd l.length
  have hs := (stk_sz h).area
  induction d with
  | zero =>
    intro k c i i0 i1 hd hc hk
    obtain ⟨k, rfl⟩ : ∃ m, k = m + 1 := ⟨k - 1, by omega⟩
    rw [impl_MarkCounts.l0, if_neg (by omega)]; rfl
  | succ d ih =>
    intro k c i i0 i1 hd hc hk
    obtain ⟨k, rfl⟩ : ∃ m, k = m + 1 := ⟨k - 1, by omega⟩
    have hm := mkL_stk h i0 (by omega)
    rw [impl_MarkCounts.l0, if_pos (by omega), mark_i h i0 (by omega) (by omega), Option.bind_some, if_pos hm.1, if_pos (by omega), w64 (x := i + 1) (by omega) (by omega), rd_at, ih k _ (i + 1) (by omega) (by omega) (by omega) (by rw [List.length_set]; exact hc) (by omega)]; rfl
theorem counts_i {l : List S25} (hl : l.length ≤ 1048576) (hq : ∀ x ∈ l, x.f2.length ≤ 1048576) {k : Nat} (hk : 1300000 ≤ k) : impl_MarkCounts.f k l = some (countsOf l) := by
  unfold impl_MarkCounts.f countsOf
  rw [stack_i hl hq (by omega), Option.bind_some]
  by_cases h : Stk l
  · have h1 := h.1
    have hp := p2_bd l.length
    have hs := (stk_sz h).area
    have hu := stk_up h _ (mem_p (l := l) (i := 0) (by omega) (by omega))
    have hun := hu.2.1
    rw [if_pos (decide_eq_true h), if_pos h, shl_one h1, if_pos (by omega), if_pos (by omega), if_pos (by omega)]
    exact countsl_i h (rd_T25 l 0).f2.length (by omega) _ k _ 0 (by omega) (by omega) (by omega) (by rw [List.length_replicate]; omega) (by omega)
  · rw [if_neg (by rw [decide_eq_true_iff]; exact h), if_neg h]
theorem both_S1 : ∀ {l m : List Int}, l.length = m.length → both l m = S1 (fun i => at_ l i * at_ m i) l.length := by
  intro l
  induction l with
  | nil => intro m _; cases m <;> rfl
  | cons a l ih =>
    intro m h
    cases m with
    | nil => simp at h
    | cons b m =>
      rw [both, ih (by simpa using h), List.length_cons, Nat.add_comm, S1_app]
      have e : S1 (fun i => at_ (a :: l) i * at_ (b :: m) i) 1 = a * b := by show 0 + a * b = _; omega
      rw [e]; congr 1
      exact S1_congr (fun i h0 _ => by rw [show ((1 : Nat) : Int) = 1 from rfl, at_cons a l h0, at_cons b m h0])
theorem over_end {R C : List Int} (hR : All 1 R) (hC : All 1 C) (r0 : 1 ≤ R.length) (r1 : R.length ≤ 8) (c0 : 1 ≤ C.length) (c1 : C.length ≤ 8) {k : Nat} (hk : 2000000 ≤ k) : 
    ∃ e0 e1 e2 : Int, cross R C = ([⟨C.length, R.length, crossA R C⟩, ⟨C.length, R.length, crossB R C⟩], true) ∧ two C.length R.length (crossA R C) C.length R.length (crossB R C) ∧
    countsOf [(⟨C.length, R.length, crossA R C⟩ : S25), ⟨C.length, R.length, crossB R C⟩] = [e0, e1, e2, tot R * tot C] ∧ sharesM C.length R.length (crossA R C) C.length R.length (crossB R C) = true := by
  have hm := mul_bd (c := 8) (d := 8) (x := (C.length : Int)) (y := (R.length : Int)) (by omega) (by omega) (by omega) (by omega)
  have hs : Sz C.length R.length := ⟨by omega, by omega, by omega, by omega, by omega⟩
  have hA := crossA_up (R := R) hs hC; have hB := crossB_up (C := C) hs hR
  have htw : two C.length R.length (crossA R C) C.length R.length (crossB R C) := ⟨⟨hA, hB⟩, rfl, rfl⟩
  have hst := (stk_two _ _ _ _ _ _).mpr htw
  have lA := hA.2.1; have lB := hB.2.1
  have tA := crossA_tot (R := R) (C := C) (by omega); have tB := crossB_tot (R := R) (C := C) (by omega)
  have hb : both (crossA R C) (crossB R C) = tot R * tot C := by
    rw [both_S1 (by omega), show (crossA R C).length = C.length * R.length by rw [← Int.natCast_mul] at lA; omega, cross_both (by omega), Int.mul_comm]
  obtain ⟨e0, e1, e2, e3, he, h3, h4, h5⟩ := cnt_two_l (W := (C.length : Int)) (H := R.length) (V := C.length) (G := R.length) hA.2.2 hB.2.2 (by omega) (by omega) (crossA R C).length 0 0 0 0 0 (by omega) (by omega) (by omega) (by omega) (by omega) (by omega)
  simp only [Int.toNat_zero, List.drop_zero, Int.zero_add] at h3
  refine ⟨e0, e1, e2, by unfold cross; rw [if_pos ⟨hs, hR, hC⟩], htw, ?_, ?_⟩
  · unfold countsOf; rw [if_pos hst, ← hb, ← h3, ← he]; rfl
  · unfold sharesM
    rw [if_pos htw, cnt_tot hA.2.2, cnt_tot hB.2.2, hb, tA, tB, lA, beq_iff_eq]
    congr 1
    ac_rfl
theorem over1 {l0 : List Int} (hl0 : l0.length ≤ 140737488351232) (hw : ∀ x ∈ l0, (Lit.int .u8 x).wf = true) {v : Int} (ev : laws_at.f l0 9 = some v) (v0 : 0 ≤ v) {C : List Int} (hC : All 1 C) (c0 : 1 ≤ C.length) (c1 : C.length ≤ 8) (d : Nat) :
    ∀ (k : Nat) (R : List Int) (j : Int), All 1 R → (R.length : Int) = j → 1 + v % 8 - j = d → d + 2000010 < k → laws_FnOverprint.l1 k l0 R C j = some true := by
  have hv8 : 0 ≤ v % 8 ∧ v % 8 < 8 := by omega
  induction d with
  | zero =>
    intro k R j hR hj hd hk
    obtain ⟨k, rfl⟩ : ∃ m, k = m + 2 := ⟨k - 2, by omega⟩
    obtain ⟨e0, e1, e2, hcr, htw, hco, hsh⟩ := over_end hR hC (by omega) (by omega) c0 c1 (k := k) (by omega)
    have hst := (stk_two _ _ _ _ _ _).mpr htw
    have lA := htw.1.1.2.1; have lB := htw.1.2.2.1; have ha := htw.1.1.1.area
    have hLq : ∀ x ∈ [(⟨C.length, R.length, crossA R C⟩ : S25), ⟨C.length, R.length, crossB R C⟩], x.f2.length ≤ 1048576 := by
      intro x hx
      rcases List.mem_cons.mp hx with z | z
      · subst z; show (crossA R C).length ≤ _; omega
      · rcases List.mem_cons.mp z with z | z
        · subst z; show (crossB R C).length ≤ _; omega
        · simp at z
    have tR := tot_bd hR; have tC := tot_bd hC
    have hm1 := mul_bd (c := 8) (d := 8) (x := tot R) (y := tot C) tR.1 (by omega) tC.1 (by omega)
    have hm2 := mul_bd (c := 8) (d := 8) (x := tot C) (y := (R.length : Int)) tC.1 (by omega) (by omega) (by omega)
    rw [laws_FnOverprint.l1, ev, Option.bind_some, tmod_pos v0, w64 (x := 1 + v % 8) (by omega) (by omega), if_neg (by omega), cross_i (by omega) (by omega) (by omega), Option.bind_some, hcr]
    simp only
    rw [if_pos trivial, if_pos (by simp), stack_i (by simp) hLq (by omega), Option.bind_some, if_pos (decide_eq_true hst), if_pos (by simp), if_pos (by simp)]
    show (impl_SharesMultiply.f (k + 1) C.length R.length (crossA R C) C.length R.length (crossB R C)).bind _ = _
    rw [shares_i (by omega) (by omega) (by omega), Option.bind_some, hsh, laws_FnOverprint.j2, if_neg (by decide), counts_i (by simp) hLq (by omega), Option.bind_some, hco, if_pos (by simp), if_pos (by simp), tot_c (by omega) hR (by omega) (by omega), Option.bind_some, tot_c (by omega) hC (by omega) (by omega), Option.bind_some]
    have r3 : rd [e0, e1, e2, tot R * tot C] 3 = tot R * tot C := rfl
    rw [r3, w64 (x := tot R * tot C) (by omega) (by omega), if_pos rfl, if_pos (by simp)]
    show (impl_CountInk.f k C.length R.length (crossA R C) 1).bind _ = _
    rw [count_i htw.1.1 (by omega), Option.bind_some, Option.bind_some, w64 (by omega) (by omega), crossA_tot (by omega), Int.mul_comm, beq_self_eq_true]
  | succ d ih =>
    intro k R j hR hj hd hk
    obtain ⟨k, rfl⟩ : ∃ m, k = m + 1 := ⟨k - 1, by omega⟩
    obtain ⟨u, eu, u0, u1⟩ := at_c l0 hl0 hw (j + 10) (by omega) (by omega)
    rw [laws_FnOverprint.l1, ev, Option.bind_some, tmod_pos v0, w64 (x := 1 + v % 8) (by omega) (by omega), if_pos (by omega), w64 (x := j + 10) (by omega) (by omega), eu, Option.bind_some, if_pos (by omega), tmod_pos u0, w64 (x := j + 1) (by omega) (by omega)]
    refine ih k (R ++ [u % 2]) (j + 1) ?_ (by rw [List.length_append]; simp; omega) (by omega) (by omega)
    intro x hx
    rcases List.mem_append.mp hx with z | z
    · exact hR x z
    · rw [List.mem_singleton.mp z]; exact ⟨by omega, by omega⟩
theorem over0 {l0 : List Int} (hl0 : l0.length ≤ 140737488351232) (hw : ∀ x ∈ l0, (Lit.int .u8 x).wf = true) {v : Int} (ev : laws_at.f l0 0 = some v) (v0 : 0 ≤ v) (d : Nat) :
    ∀ (k : Nat) (C : List Int) (j : Int), All 1 C → (C.length : Int) = j → 1 + v % 8 - j = d → d + 2000100 < k → laws_FnOverprint.l0 k l0 [] C j = some true := by
  have hv8 : 0 ≤ v % 8 ∧ v % 8 < 8 := by omega
  induction d with
  | zero =>
    intro k C j hC hj hd hk
    obtain ⟨k, rfl⟩ : ∃ m, k = m + 1 := ⟨k - 1, by omega⟩
    obtain ⟨u, eu, u0, u1⟩ := at_c l0 hl0 hw 9 (by omega) (by omega)
    rw [laws_FnOverprint.l0, ev, Option.bind_some, tmod_pos v0, w64 (x := 1 + v % 8) (by omega) (by omega), if_neg (by omega)]
    exact over1 hl0 hw eu u0 hC (by omega) (by omega) (1 + u % 8).toNat k [] 0 (fun x hx => by simp at hx) rfl (by omega) (by omega)
  | succ d ih =>
    intro k C j hC hj hd hk
    obtain ⟨k, rfl⟩ : ∃ m, k = m + 1 := ⟨k - 1, by omega⟩
    obtain ⟨u, eu, u0, u1⟩ := at_c l0 hl0 hw (j + 1) (by omega) (by omega)
    rw [laws_FnOverprint.l0, ev, Option.bind_some, tmod_pos v0, w64 (x := 1 + v % 8) (by omega) (by omega), if_pos (by omega), w64 (x := j + 1) (by omega) (by omega), eu, Option.bind_some, if_pos (by omega), tmod_pos u0]
    refine ih k (C ++ [u % 2]) (j + 1) ?_ (by rw [List.length_append]; simp; omega) (by omega) (by omega)
    intro x hx
    rcases List.mem_append.mp hx with z | z
    · exact hC x z
    · rw [List.mem_singleton.mp z]; exact ⟨by omega, by omega⟩
theorem pure_FnOverprint (l0 : List Int) (h0 : l0.length ≤ maxLen) (hl : l0.length * 1 ≤ 140737488351232) (hw : ∀ x ∈ l0, (Lit.int .u8 x).wf = true) : ∃ k, laws_FnOverprint.f k l0 = some true := by
  obtain ⟨m, hm⟩ : ∃ m : Nat, 4000000 ≤ m := ⟨4000000, Nat.le_refl _⟩
  refine ⟨m + 8, ?_⟩
  unfold laws_FnOverprint.f
  by_cases h : (l0.length : Int) > 1048576
  · rw [if_pos h]
  · rw [if_neg h]
    obtain ⟨v, ev, v0, v1⟩ := at_c l0 (by omega) hw 0 (by omega) (by omega)
    exact over0 (by omega) hw ev v0 (1 + v % 8).toNat (m + 8) [] 0 (fun x hx => by simp at hx) rfl (by omega) (by omega)

end Go.Proofs.Ytheihidfbalioaa.PFnOverprint
