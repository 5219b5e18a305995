/- What the functions that laws.FnExactCrossPlates reaches compute, and that the law is true: over numbers alone. -/
import Derived.Test.YtmahpennnnajcaaPFnExactCrossPlatesx
import Derived.Test.YtmahpennnnajcaaPic2
import Derived.Laws.Strings
namespace Go.Proofs.Ytmahpennnnajcaa.PFnExactCrossPlates
open Go.RowKit Go.Proofs.YtmahpennnnajcaaW.PrintWords Go.Proofs.YtmahpennnnajcaaW.PrintLast Go.Proofs.YtmahpennnnajcaaW.PrintMore
set_option linter.unusedVariables false
set_option linter.unusedSimpArgs false
set_option linter.unusedSimpArgs false
open Pic
theorem w64 {x : Int} (h1 : -9223372036854775808 ≤ x) (h2 : x ≤ 9223372036854775807) : wrap64 x = x := by unfold wrap64; omega
theorem rd_at (l : List Int) (i : Int) : rd l i = at_ l i := rfl
theorem tmod_pos {n x : Int} (h : 0 ≤ x) : Int.tmod x n = x % n := Int.tmod_eq_emod_of_nonneg h
theorem tdiv_pos {n x : Int} (h : 0 ≤ x) : Int.tdiv x n = x / n := Int.tdiv_eq_ediv_of_nonneg h
theorem dec_ff {p : Prop} [Decidable p] (h : ¬ p) : some false = some (decide p) := by rw [decide_eq_false h]
theorem dec_dd {p q : Prop} [Decidable p] [Decidable q] (h : p ↔ q) : some (decide p) = some (decide q) := by rw [decide_eq_decide.mpr h]
theorem mn_eq (a b : Int) : mn a b = if b < a then b else a := rfl
theorem up_wide {W H : Int} {l : List Int} (h : Up W H l 1) : Up W H l 255 := ⟨h.1, h.2.1, fun v hv => ⟨(h.2.2 v hv).1, by have := (h.2.2 v hv).2; omega⟩⟩
theorem mk_neg (n : Nat) : ¬ ((1 : Int) + n < 0) := by omega
theorem drop_p (l : List S28) {i : Int} (h0 : 0 ≤ i) (h : i < l.length) : l.drop i.toNat = rd_T28 l i :: l.drop (i + 1).toNat := by
  have hj : i.toNat < l.length := by omega
  have e : rd_T28 l i = l[i.toNat] := by unfold rd_T28; rw [List.getD_eq_getElem?_getD, List.getElem?_eq_getElem hj, Option.getD_some]
  rw [List.drop_eq_getElem_cons hj, e, show (i + 1).toNat = i.toNat + 1 by omega]
theorem mem_p {l : List S28} {i : Int} (h0 : 0 ≤ i) (h : i < l.length) : rd_T28 l i ∈ l := by
  have : rd_T28 l i ∈ l.drop i.toNat := by rw [drop_p l h0 h]; exact List.mem_cons_self
  exact List.mem_of_mem_drop this
theorem l1In (x a b : Int) : spec_l1In.f x a b = some (decide (a ≤ x ∧ x ≤ b)) := by
  unfold spec_l1In.f
  split
  all_goals first | exact dec_dd (by omega) | exact dec_ff (by omega)
theorem size_s (W H : Int) : spec_l1Size.f W H = some (decide (Sz W H)) := by
  unfold spec_l1Size.f
  simp only [l1In, Option.bind_some]
  by_cases hW : 1 ≤ W ∧ W ≤ 64
  · by_cases hH : 1 ≤ H ∧ H ≤ 64
    · have := mul_bd (c := 64) (d := 64) (show 0 ≤ W by omega) hW.2 (show 0 ≤ H by omega) hH.2
      rw [if_pos (decide_eq_true hW), if_pos (decide_eq_true hH), w64 (by omega) (by omega)]
      exact dec_dd (by unfold Sz; omega)
    · rw [if_pos (decide_eq_true hW), if_neg (by rw [decide_eq_true_iff]; exact hH)]; exact dec_ff (fun h => hH ⟨h.2.2.1, h.2.2.2.1⟩)
  · rw [if_neg (by rw [decide_eq_true_iff]; exact hW)]; exact dec_ff (fun h => hW ⟨h.1, h.2.1⟩)
theorem empty_s {W H : Int} (h : Sz W H) : spec_l1Empty.f W H = some (W, H, List.replicate (W * H).toNat 0) := by
  have := h.area
  unfold spec_l1Empty.f
  rw [w64 (by omega) (by omega), if_pos (by omega), if_pos (by omega)]
theorem up_l (m : Int) (d : Nat) : ∀ (k : Nat) (l : List Int) (i : Int), 0 ≤ i → l.length ≤ 1048576 → i ≤ l.length → (l.length : Int) - i = d → d < k → spec_l1Up.l0 k m l l.length i = some (decide (All m (l.drop i.toNat))) := by
  induction d with
  | zero =>
    intro k l i h0 hl h1 hd hk
    obtain ⟨k, rfl⟩ : ∃ m, k = m + 1 := ⟨k - 1, by omega⟩
    rw [spec_l1Up.l0, if_neg (by omega), List.drop_eq_nil_of_le (by omega)]
    rw [decide_eq_true (show All m [] from fun v h => by simp at h)]
  | succ d ih =>
    intro k l i h0 hl h1 hd hk
    obtain ⟨k, rfl⟩ : ∃ m, k = m + 1 := ⟨k - 1, by omega⟩
    rw [spec_l1Up.l0, if_pos (by omega), if_pos h0, if_pos (by omega), l1In, rd_at, Option.bind_some, drop_at l h0 (by omega), w64 (by omega) (by omega)]
    by_cases h : 0 ≤ at_ l i ∧ at_ l i ≤ m
    · rw [if_pos (decide_eq_true h), ih k l (i + 1) (by omega) hl (by omega) (by omega) (by omega)]
      exact dec_dd (by rw [All.cons]; exact ⟨fun x => ⟨h, x⟩, fun x => x.2⟩)
    · rw [if_neg (by rw [decide_eq_true_iff]; exact h)]; exact dec_ff (fun x => h (All.cons.mp x).1)
theorem up_s {W H : Int} {l : List Int} (hl : l.length ≤ 1048576) (m : Int) {k : Nat} (hk : 1100000 ≤ k) : spec_l1Up.f k W H l m = some (decide (Up W H l m)) := by
  obtain ⟨k, rfl⟩ : ∃ m, k = m + 1 := ⟨k - 1, by omega⟩
  unfold spec_l1Up.f
  rw [size_s, Option.bind_some]
  by_cases h : Sz W H
  · have := h.area
    rw [if_pos (decide_eq_true h), w64 (by omega) (by omega), spec_l1Up.j0]
    by_cases e : (l.length : Int) = W * H
    · rw [if_neg (by rw [bne_iff_ne]; exact fun x => x e), up_l m l.length k l 0 (by omega) hl (by omega) (by omega) (by omega)]
      exact dec_dd ⟨fun x => ⟨h, e, x⟩, fun x => x.2.2⟩
    · rw [if_pos (by rw [bne_iff_ne]; exact e)]; exact dec_ff (fun x => e x.2.1)
  · rw [if_neg (by rw [decide_eq_true_iff]; exact h), spec_l1Up.j0, if_pos rfl]; exact dec_ff (fun x => h x.1)
theorem plate_s {W H : Int} {l : List Int} (hl : l.length ≤ 1048576) {k : Nat} (hk : 1100000 ≤ k) : spec_IsPlate.f k W H l = some (decide (Up W H l 1)) := by
  unfold spec_IsPlate.f; rw [up_s hl 1 hk]; rfl
/-- every one a plate of the first one's size -/
def likeF (a b : Int) (l : List S28) : Prop := ∀ x ∈ l, Up x.f0 x.f1 x.f2 1 ∧ x.f0 = a ∧ x.f1 = b
instance (a b : Int) (l : List S28) : Decidable (likeF a b l) := inferInstanceAs (Decidable (∀ x ∈ l, _))
def Stk (l : List S28) : Prop := (1 ≤ l.length ∧ l.length ≤ 4) ∧ likeF (rd_T28 l 0).f0 (rd_T28 l 0).f1 l
instance (l : List S28) : Decidable (Stk l) := inferInstanceAs (Decidable (_ ∧ _))
theorem likeF_cons {a b : Int} {x : S28} {l : List S28} : likeF a b (x :: l) ↔ (Up x.f0 x.f1 x.f2 1 ∧ x.f0 = a ∧ x.f1 = b) ∧ likeF a b l := by simp [likeF]
theorem stackl_s {l : List S28} (hl : l.length ≤ 4) (hq : ∀ x ∈ l, x.f2.length ≤ 1048576) (d : Nat) : ∀ (k : Nat) (i : Int), 0 ≤ i → i ≤ l.length → (l.length : Int) - i = d → d + 1100000 < k →
    spec_IsStack.l0 k l l l.length i = some (decide (likeF (rd_T28 l 0).f0 (rd_T28 l 0).f1 (l.drop i.toNat))) := by
  induction d with
  | zero =>
    intro k i i0 i1 hd hk
    obtain ⟨k, rfl⟩ : ∃ m, k = m + 1 := ⟨k - 1, by omega⟩
    rw [spec_IsStack.l0, if_neg (by omega), List.drop_eq_nil_of_le (by omega), decide_eq_true (show likeF _ _ [] from fun x hx => by simp at hx)]
  | succ d ih =>
    intro k i i0 i1 hd hk
    obtain ⟨k, rfl⟩ : ∃ m, k = m + 1 := ⟨k - 1, by omega⟩
    have hi : i < l.length := by omega
    rw [spec_IsStack.l0, if_pos hi, if_pos i0, if_pos hi, plate_s (hq _ (mem_p i0 hi)) (by omega), Option.bind_some, drop_p l i0 hi, w64 (by omega) (by omega), ih k (i + 1) (by omega) (by omega) (by omega) (by omega)]
    by_cases h : Up (rd_T28 l i).f0 (rd_T28 l i).f1 (rd_T28 l i).f2 1
    · rw [if_pos (decide_eq_true h), if_pos (by omega)]
      by_cases h1 : (rd_T28 l i).f0 = (rd_T28 l 0).f0
      · rw [if_pos h1]
        by_cases h2 : (rd_T28 l i).f1 = (rd_T28 l 0).f1
        · rw [if_pos h2]; exact dec_dd (by rw [likeF_cons]; exact ⟨fun x => ⟨⟨h, h1, h2⟩, x⟩, fun x => x.2⟩)
        · rw [if_neg h2]; exact dec_ff (by rw [likeF_cons]; exact fun x => h2 x.1.2.2)
      · rw [if_neg h1]; exact dec_ff (by rw [likeF_cons]; exact fun x => h1 x.1.2.1)
    · rw [if_neg (by rw [decide_eq_true_iff]; exact h)]; exact dec_ff (by rw [likeF_cons]; exact fun x => h x.1.1)
theorem stack_s {l : List S28} (hl : l.length ≤ 1048576) (hq : ∀ x ∈ l, x.f2.length ≤ 1048576) {k : Nat} (hk : 1200000 ≤ k) : spec_IsStack.f k l = some (decide (Stk l)) := by
  unfold spec_IsStack.f
  rw [l1In, Option.bind_some]
  by_cases h : 1 ≤ (l.length : Int) ∧ (l.length : Int) ≤ 4
  · rw [if_pos (decide_eq_true h), stackl_s (by omega) hq l.length k 0 (by omega) (by omega) (by omega) (by omega)]
    exact dec_dd (by unfold Stk; exact ⟨fun x => ⟨by omega, x⟩, fun x => x.2⟩)
  · rw [if_neg (by rw [decide_eq_true_iff]; exact h)]; exact dec_ff (fun x => h (by have := x.1; omega))
theorem stk_up {l : List S28} (h : Stk l) : ∀ x ∈ l, Up (rd_T28 l 0).f0 (rd_T28 l 0).f1 x.f2 1 := by
  intro x hx
  obtain ⟨h1, h2, h3⟩ := h.2 x hx
  rw [← h2, ← h3]; exact h1
theorem stk_sz {l : List S28} (h : Stk l) : Sz (rd_T28 l 0).f0 (rd_T28 l 0).f1 := by
  have := h.1
  exact (stk_up h _ (mem_p (l := l) (i := 0) (by omega) (by omega))).1
theorem shl_bit {b j : Int} (hb : In 1 b) (h0 : 0 ≤ j) (h1 : j ≤ 3) : shl .i64 b j = b * p2 j := by
  unfold In at hb
  unfold shl
  have hj : j = 0 ∨ j = 1 ∨ j = 2 ∨ j = 3 := by omega
  rcases hj with rfl | rfl | rfl | rfl
  · show IntKind.i64.wrap (b * 1) = b * 1
    rw [i64_w, w64 (by omega) (by omega)]
  · show IntKind.i64.wrap (b * 2) = b * 2
    rw [i64_w, w64 (by omega) (by omega)]
  · show IntKind.i64.wrap (b * 4) = b * 4
    rw [i64_w, w64 (by omega) (by omega)]
  · show IntKind.i64.wrap (b * 8) = b * 8
    rw [i64_w, w64 (by omega) (by omega)]
def mkL (i : Int) : List S28 → Int → Int → Int
  | [], _, s => s
  | x :: r, j, s => mkL i r (j + 1) (wrap64 (s + shl .i64 (at_ x.f2 i) j))
theorem mkL_bd (i : Int) : ∀ (r : List S28) (j s : Int), (∀ x ∈ r, In 1 (at_ x.f2 i)) → 0 ≤ j → j + r.length ≤ 4 → 0 ≤ s → s < p2 j → 0 ≤ mkL i r j s ∧ mkL i r j s < p2 (j + r.length) := by
  intro r
  induction r with
  | nil => intro j s _ _ _ s0 s1; simp [mkL]; exact ⟨s0, s1⟩
  | cons x r ih =>
    intro j s hx j0 j1 s0 s1
    rw [List.length_cons] at j1
    have hb : 0 ≤ at_ x.f2 i ∧ at_ x.f2 i ≤ 1 := hx x List.mem_cons_self
    have hp := p2_bd j
    have hst := p2_step j0 (by omega)
    rw [mkL, shl_bit hb j0 (by omega)]
    have e : at_ x.f2 i * p2 j = 0 ∨ at_ x.f2 i * p2 j = p2 j := by
      have : at_ x.f2 i = 0 ∨ at_ x.f2 i = 1 := by omega
      rcases this with h | h <;> rw [h] <;> simp
    rw [w64 (by omega) (by omega)]
    have := ih (j + 1) (s + at_ x.f2 i * p2 j) (fun y hy => hx y (List.mem_cons_of_mem _ hy)) (by omega) (by omega) (by omega) (by omega)
    rw [List.length_cons, show j + ((r.length + 1 : Nat) : Int) = j + 1 + r.length by omega]; exact this
theorem mkL_stk {l : List S28} (h : Stk l) {i : Int} (i0 : 0 ≤ i) (i1 : i < (rd_T28 l 0).f0 * (rd_T28 l 0).f1) : 0 ≤ mkL i l 0 0 ∧ mkL i l 0 0 < p2 l.length := by
  have h1 := h.1
  have := mkL_bd i l 0 0 (fun x hx => by
    have hu := stk_up h x hx; have := hu.2.1
    exact hu.2.2 _ (at_mem i0 (by omega))) (by omega) (by omega) (by omega) (by decide)
  rw [Int.zero_add] at this; exact this
theorem shl_one {n : Nat} (h : 1 ≤ n ∧ n ≤ 4) : shl .i64 1 (n : Int) = p2 n := by
  have : n = 1 ∨ n = 2 ∨ n = 3 ∨ n = 4 := by omega
  rcases this with rfl | rfl | rfl | rfl <;> rfl
def cntL (l : List S28) : Nat → Int → List Int → List Int
  | 0, _, c => c
  | d + 1, i, c => cntL l d (i + 1) (c.set (mkL i l 0 0).toNat (wrap64 (at_ c (mkL i l 0 0) + 1)))
theorem cntL_len (l : List S28) : ∀ (d : Nat) (i : Int) (c : List Int), (cntL l d i c).length = c.length := by
  intro d
  induction d with
  | zero => intro i c; rfl
  | succ d ih => intro i c; rw [cntL, ih, List.length_set]
def countsOf (l : List S28) : List Int := if Stk l then cntL l (rd_T28 l 0).f2.length 0 (List.replicate (p2 l.length).toNat 0) else []
theorem countsOf_len {l : List S28} (h : Stk l) : ((countsOf l).length : Int) = p2 l.length := by
  have := p2_bd l.length
  unfold countsOf; rw [if_pos h, cntL_len, List.length_replicate]; omega
def two (W H : Int) (l : List Int) (V G : Int) (m : List Int) : Prop := (Up W H l 1 ∧ Up V G m 1) ∧ V = W ∧ G = H
instance (W H : Int) (l : List Int) (V G : Int) (m : List Int) : Decidable (two W H l V G m) := inferInstanceAs (Decidable (_ ∧ _))
theorem stk_two (W H : Int) (l : List Int) (V G : Int) (m : List Int) : Stk [(⟨W, H, l⟩ : S28), ⟨V, G, m⟩] ↔ two W H l V G m := by
  unfold Stk two likeF
  constructor
  · intro h
    have a := h.2 ⟨W, H, l⟩ (by simp)
    have b := h.2 ⟨V, G, m⟩ (by simp)
    exact ⟨⟨a.1, b.1⟩, b.2⟩
  · intro h
    refine ⟨by simp, fun x hx => ?_⟩
    rcases List.mem_cons.mp hx with e | e
    · subst e; exact ⟨h.1.1, rfl, rfl⟩
    · rcases List.mem_cons.mp e with e | e
      · subst e; exact ⟨h.1.2, h.2⟩
      · simp at e
/-- points where both have a dot, the first alone, the second alone -/
def both : List Int → List Int → Int
  | a :: r, b :: q => a * b + both r q
  | _, _ => 0
theorem both_bd : ∀ (l m : List Int), All 1 l → All 1 m → 0 ≤ both l m ∧ both l m ≤ l.length := by
  intro l
  induction l with
  | nil => intro m _ _; simp [both]
  | cons a l ih =>
    intro m hl hm
    cases m with
    | nil => simp [both]; omega
    | cons b m =>
      obtain ⟨ha, hl'⟩ := All.cons.mp hl
      obtain ⟨hb, hm'⟩ := All.cons.mp hm
      have := ih m hl' hm'
      unfold In at ha hb
      have e : a * b = 0 ∨ a * b = 1 := by
        have h1 : a = 0 ∨ a = 1 := by omega
        have h2 : b = 0 ∨ b = 1 := by omega
        rcases h1 with e1 | e1 <;> rcases h2 with e2 | e2 <;> rw [e1, e2] <;> simp
      unfold both; rw [List.length_cons]; omega
theorem mk_two {W H V G : Int} {a b : List Int} (ha : All 1 a) (hb : All 1 b) {i : Int} (i0 : 0 ≤ i) (i1 : i < a.length) (i2 : i < b.length) :
    mkL i [(⟨W, H, a⟩ : S28), ⟨V, G, b⟩] 0 0 = at_ a i + 2 * at_ b i ∧ In 1 (at_ a i) ∧ In 1 (at_ b i) := by
  have h1 := ha _ (at_mem i0 i1)
  have h2 := hb _ (at_mem i0 i2)
  refine ⟨?_, h1, h2⟩
  have e1 : shl .i64 (at_ a i) 0 = at_ a i * 1 := shl_bit h1 (by omega) (by omega)
  have e2 : shl .i64 (at_ b i) (0 + 1) = at_ b i * 2 := shl_bit (j := 1) h2 (by omega) (by omega)
  unfold In at h1 h2
  unfold mkL mkL mkL
  rw [e1, e2, w64 (x := 0 + at_ a i * 1) (by omega) (by omega), w64 (by omega) (by omega)]; omega
theorem cnt_two_l {W H V G : Int} {a b : List Int} (ha : All 1 a) (hb : All 1 b) (hab : a.length = b.length) (hn : a.length ≤ 1024) (d : Nat) : ∀ (i c0 c1 c2 c3 : Int), 0 ≤ i → (a.length : Int) - i = d → (0 ≤ c0 ∧ c0 ≤ i) → (0 ≤ c1 ∧ c1 ≤ i) → (0 ≤ c2 ∧ c2 ≤ i) → (0 ≤ c3 ∧ c3 ≤ i) →
    ∃ e0 e1 e2 e3 : Int, cntL [(⟨W, H, a⟩ : S28), ⟨V, G, b⟩] d i [c0, c1, c2, c3] = [e0, e1, e2, e3] ∧ e3 = c3 + both (a.drop i.toNat) (b.drop i.toNat) ∧ e1 + e3 = c1 + c3 + cnt 1 (a.drop i.toNat) ∧ e2 + e3 = c2 + c3 + cnt 1 (b.drop i.toNat) := by
  induction d with
  | zero =>
    intro i c0 c1 c2 c3 i0 hd _ _ _ _
    refine ⟨c0, c1, c2, c3, rfl, ?_⟩
    rw [drop_end a (by omega), drop_end b (by omega)]; simp [both, cnt]
  | succ d ih =>
    intro i c0 c1 c2 c3 i0 hd b0 b1 b2 b3
    obtain ⟨hm, h1, h2⟩ := mk_two (W := W) (H := H) (V := V) (G := G) ha hb (i := i) i0 (by omega) (by omega)
    unfold In at h1 h2
    rw [cntL, hm, drop_at a i0 (by omega), drop_at b i0 (by omega), both, cnt, cnt]
    have ca : at_ a i = 0 ∨ at_ a i = 1 := by omega
    have cb : at_ b i = 0 ∨ at_ b i = 1 := by omega
    rcases ca with ea | ea <;> rcases cb with eb | eb <;> rw [ea, eb]
    · obtain ⟨e0, e1, e2, e3, h, h3, h4, h5⟩ := ih (i + 1) (c0 + 1) c1 c2 c3 (by omega) (by omega) (by omega) (by omega) (by omega) (by omega)
      refine ⟨e0, e1, e2, e3, ?_, by simp; omega, by simp; omega, by simp; omega⟩
      rw [← h]; show cntL _ d (i + 1) [wrap64 (c0 + 1), c1, c2, c3] = _; rw [w64 (by omega) (by omega)]
    · obtain ⟨e0, e1, e2, e3, h, h3, h4, h5⟩ := ih (i + 1) c0 c1 (c2 + 1) c3 (by omega) (by omega) (by omega) (by omega) (by omega) (by omega)
      refine ⟨e0, e1, e2, e3, ?_, by simp; omega, by simp; omega, by simp; omega⟩
      rw [← h]; show cntL _ d (i + 1) [c0, c1, wrap64 (c2 + 1), c3] = _; rw [w64 (by omega) (by omega)]
    · obtain ⟨e0, e1, e2, e3, h, h3, h4, h5⟩ := ih (i + 1) c0 (c1 + 1) c2 c3 (by omega) (by omega) (by omega) (by omega) (by omega) (by omega)
      refine ⟨e0, e1, e2, e3, ?_, by simp; omega, by simp; omega, by simp; omega⟩
      rw [← h]; show cntL _ d (i + 1) [c0, wrap64 (c1 + 1), c2, c3] = _; rw [w64 (by omega) (by omega)]
    · obtain ⟨e0, e1, e2, e3, h, h3, h4, h5⟩ := ih (i + 1) c0 c1 c2 (c3 + 1) (by omega) (by omega) (by omega) (by omega) (by omega) (by omega)
      refine ⟨e0, e1, e2, e3, ?_, by simp; omega, by simp; omega, by simp; omega⟩
      rw [← h]; show cntL _ d (i + 1) [c0, c1, c2, wrap64 (c3 + 1)] = _; rw [w64 (by omega) (by omega)]
def sharesM (W H : Int) (l : List Int) (V G : Int) (m : List Int) : Bool := if two W H l V G m then wrap64 (both l m * l.length) == wrap64 (((cnt 1 l : Nat) : Int) * ((cnt 1 m : Nat) : Int)) else false
def cross (R C : List Int) : List S28 × Bool := if Sz C.length R.length ∧ All 1 R ∧ All 1 C then ([⟨C.length, R.length, crossA R C⟩, ⟨C.length, R.length, crossB R C⟩], true) else ([], false)
theorem cross_stk {R C : List Int} (hs : Sz C.length R.length) : Stk [(⟨C.length, R.length, crossA R C⟩ : S28), ⟨C.length, R.length, crossB R C⟩] ↔ All 1 R ∧ All 1 C := by
  have ha := hs.area; have hW := hs.1; have hH := hs.2.2.1
  constructor
  · intro h
    have u1 := stk_up h _ (List.mem_cons_self)
    have u2 := stk_up h _ (List.mem_cons_of_mem _ List.mem_cons_self)
    have l1 : ((crossA R C).length : Int) = (C.length : Int) * R.length := by unfold crossA; rw [tab_length]; omega
    have l2 : ((crossB R C).length : Int) = (C.length : Int) * R.length := by unfold crossB; rw [tab_length]; omega
    have hmul : (C.length : Int) ≤ (C.length : Int) * R.length := by
      have := Int.mul_le_mul_of_nonneg_left hH (show 0 ≤ (C.length : Int) by omega); omega
    constructor
    · intro v hv
      obtain ⟨y, hy, rfl⟩ := List.getElem_of_mem hv
      have hi := xy_idx (x := 0) (W := C.length) (y := (y : Int)) (H := R.length) (by omega) (by omega) (by omega) (by omega)
      have h1 := all_at u2.2.2 (i := (y : Int) * C.length + 0) hi.1 (by show _ < ((crossB R C).length : Int); omega)
      have e : at_ (crossB R C) ((y : Int) * C.length + 0) = at_ R (y : Int) := by
        unfold crossB; rw [tab_val _ hi.1 (by omega), Int.add_zero, Int.mul_ediv_cancel _ (by omega)]
      rw [← at_nat R y hy, ← e]; exact h1
    · intro v hv
      obtain ⟨x, hx, rfl⟩ := List.getElem_of_mem hv
      have h1 := all_at u1.2.2 (i := (x : Int)) (by omega) (by show _ < ((crossA R C).length : Int); omega)
      have e : at_ (crossA R C) (x : Int) = at_ C (x : Int) := by
        unfold crossA; rw [tab_val _ (by omega) (by omega), Int.emod_eq_of_lt (by omega) (by omega)]
      rw [← at_nat C x hx, ← e]; exact h1
  · rintro ⟨hR, hC⟩
    exact (stk_two _ _ _ _ _ _).mpr (by
      have a := crossA_up hs hC; have b := crossB_up hs hR
      unfold two; simp [a, b])
theorem crossl_s {R C : List Int} (hs : Sz C.length R.length) (d : Nat) : ∀ (k : Nat) (j : Int) (A B : List Int), 0 ≤ j → (A.length : Int) = (C.length : Int) * R.length → (B.length : Int) = (C.length : Int) * R.length → (C.length : Int) * R.length - j = d → d + 1300000 < k →
    spec_CrossPlates.l0 k R C ((C.length : Int) * R.length) j C.length R.length A C.length R.length B = some (if Stk [(⟨C.length, R.length, A.take j.toNat ++ tab (fun i => at_ C (i % C.length)) d j⟩ : S28), ⟨C.length, R.length, B.take j.toNat ++ tab (fun i => at_ R (i / C.length)) d j⟩] then ([(⟨C.length, R.length, A.take j.toNat ++ tab (fun i => at_ C (i % C.length)) d j⟩ : S28), ⟨C.length, R.length, B.take j.toNat ++ tab (fun i => at_ R (i / C.length)) d j⟩], true) else ([], false)) := by
  have ha := hs.area
  induction d with
  | zero =>
    intro k j A B j0 hA hB hd hk
    obtain ⟨k, rfl⟩ : ∃ m, k = m + 1 := ⟨k - 1, by omega⟩
    rw [spec_CrossPlates.l0, if_neg (by omega), Option.bind_some, List.take_of_length_le (by omega), List.take_of_length_le (by omega), tab, tab, List.append_nil, List.append_nil]
    rw [stack_s (by simp) (by
      intro x hx
      rcases List.mem_cons.mp hx with e | e
      · subst e; show A.length ≤ _; omega
      · rcases List.mem_cons.mp e with e | e
        · subst e; show B.length ≤ _; omega
        · simp at e) (by omega), Option.bind_some]
    by_cases c : Stk [(⟨C.length, R.length, A⟩ : S28), ⟨C.length, R.length, B⟩]
    · rw [if_pos (decide_eq_true c), if_pos c]
    · rw [if_neg (by rw [decide_eq_true_iff]; exact c), if_neg c]
  | succ d ih =>
    intro k j A B j0 hA hB hd hk
    obtain ⟨k, rfl⟩ : ∃ m, k = m + 1 := ⟨k - 1, by omega⟩
    have hr := hs.row j0 (by omega)
    have hW := hs.1; have hH2 := hs.2.2.2.1
    rw [spec_CrossPlates.l0, if_pos (by omega), if_neg (by omega), tmod_pos j0, tdiv_pos j0, w64 (x := j / C.length) (by omega) (by omega), if_pos hr.1, if_pos hr.2.1, if_pos j0, if_pos (by omega), if_pos hr.2.2.1, if_pos hr.2.2.2, if_pos (by omega), w64 (x := j + 1) (by omega) (by omega), rd_at, rd_at]
    have step : ∀ (M : List Int) (v : Int) (g : Int → Int), (M.length : Int) = (C.length : Int) * R.length → v = g j → (M.set j.toNat v).take (j + 1).toNat ++ tab g d (j + 1) = M.take j.toNat ++ tab g (d + 1) j := fun M v g hM e => by
      rw [show (j + 1).toNat = j.toNat + 1 by omega, List.take_succ_eq_append_getElem (by rw [List.length_set]; omega), List.getElem_set, if_pos rfl, List.take_set_of_le (Nat.le_refl _), tab, e]
      simp only [List.append_assoc, List.cons_append, List.nil_append]
    rw [ih k (j + 1) _ _ (by omega) (by rw [List.length_set]; exact hA) (by rw [List.length_set]; exact hB) (by omega) (by omega), step A _ (fun i => at_ C (i % C.length)) hA rfl, step B _ (fun i => at_ R (i / C.length)) hB rfl]
theorem cross_s {R C : List Int} (hR : R.length ≤ 1048576) (hC : C.length ≤ 1048576) {k : Nat} (hk : 1400000 ≤ k) : spec_CrossPlates.f k R C = some (cross R C) := by
  unfold spec_CrossPlates.f cross
  rw [size_s, Option.bind_some]
  by_cases hs : Sz C.length R.length
  · have ha := hs.area
    rw [if_pos (decide_eq_true hs), empty_s hs, Option.bind_some, Option.bind_some]
    simp only
    rw [show ((List.replicate ((C.length : Int) * R.length).toNat (0 : Int)).length : Int) = (C.length : Int) * R.length by rw [List.length_replicate]; omega]
    rw [crossl_s hs ((C.length : Int) * R.length).toNat k 0 _ _ (by omega) (by rw [List.length_replicate]; omega) (by rw [List.length_replicate]; omega) (by omega) (by omega)]
    have e : ∀ g : Int → Int, (List.replicate ((C.length : Int) * R.length).toNat (0 : Int)).take (0 : Int).toNat ++ tab g ((C.length : Int) * R.length).toNat 0 = tab g ((C.length : Int) * R.length).toNat 0 := fun g => by simp
    rw [e, e, show tab (fun i => at_ C (i % C.length)) ((C.length : Int) * R.length).toNat 0 = crossA R C from rfl, show tab (fun i => at_ R (i / C.length)) ((C.length : Int) * R.length).toNat 0 = crossB R C from rfl]
    have hk := cross_stk hs
    by_cases c : All 1 R ∧ All 1 C
    · rw [if_pos (hk.mpr c), if_pos ⟨hs, c⟩]
    · rw [if_neg (fun z => c (hk.mp z)), if_neg (fun z => c z.2)]
  · rw [if_neg (by rw [decide_eq_true_iff]; exact hs), if_neg (fun z => hs z.1)]
theorem tos_l (d : Nat) : ∀ (k : Nat) (l o : List Int) (i : Int), 0 ≤ i → i ≤ l.length → o.length = l.length → l.length ≤ 1048576 → (l.length : Int) - i = d → d < k → laws_toIntS.l0 k l o i = some (o.take i.toNat ++ l.drop i.toNat) := by
  induction d with
  | zero =>
    intro k l o i h0 h1 ho hl hd hk
    obtain ⟨k, rfl⟩ : ∃ m, k = m + 1 := ⟨k - 1, by omega⟩
    rw [laws_toIntS.l0, if_neg (by omega), List.drop_eq_nil_of_le (by omega), List.append_nil, List.take_of_length_le (by omega)]
  | succ d ih =>
    intro k l o i h0 h1 ho hl hd hk
    obtain ⟨k, rfl⟩ : ∃ m, k = m + 1 := ⟨k - 1, by omega⟩
    rw [laws_toIntS.l0, if_pos (by omega), if_pos h0, if_pos (by omega), w64 (by omega) (by omega), rd_at, ih k l _ (i + 1) (by omega) (by omega) (by rw [List.length_set]; exact ho) hl (by omega) (by omega), drop_at l h0 (by omega)]
    rw [show (i + 1).toNat = i.toNat + 1 by omega, List.take_succ_eq_append_getElem (by rw [List.length_set]; omega), List.getElem_set, if_pos rfl, List.take_set_of_le (Nat.le_refl _)]
    simp only [List.append_assoc, List.cons_append, List.nil_append]
theorem tos {l : List Int} (hl : l.length ≤ 1048576) {k : Nat} (hk : 1100000 ≤ k) : laws_toIntS.f k l = some l := by
  unfold laws_toIntS.f
  rw [if_pos (by omega), if_pos (by omega), tos_l l.length k l _ 0 (by omega) (by omega) (by simp) hl (by omega) (by omega)]; rfl
theorem size_i (W H : Int) : impl_sized.f W H = some (decide (Sz W H)) := by
  unfold impl_sized.f
  by_cases h : 1 ≤ W ∧ W ≤ 64 ∧ 1 ≤ H ∧ H ≤ 64
  · have := mul_bd (c := 64) (d := 64) (show 0 ≤ W by omega) h.2.1 (show 0 ≤ H by omega) h.2.2.2
    rw [if_pos (by omega), if_pos (by omega), if_pos (by omega), if_pos (by omega), w64 (by omega) (by omega)]
    exact dec_dd (by unfold Sz; omega)
  · repeat' split
    all_goals first | exact dec_ff (by unfold Sz; omega) | (exfalso; omega)
theorem within_i {l : List Int} (hl : l.length ≤ 1048576) (m : Int) : impl_within.f l m = some (decide (All m l)) := by
  unfold impl_within.f
  rw [if_pos (by omega)]; simp only [Option.some.injEq]
  rw [Bool.eq_iff_iff, List.all_eq_true, decide_eq_true_iff]
  exact ⟨fun h v hv => of_decide_eq_true (h v hv), fun h v hv => decide_eq_true (h v hv)⟩
theorem gridO_tab {W H : Int} {AT : Int → Int → Option Int} {F : Int → Int} (hW : 1 ≤ W) (hH : 0 ≤ H) (h : ∀ x y, 0 ≤ x → x < W → 0 ≤ y → y < H → AT x y = some (F (y * W + x))) : Ext.gridO W H AT = some (tab F (W * H).toNat 0) := by
  rw [Ext.gridO_of (g := fun x y => F (y * W + x)) hW hH h]
  simp only [Option.some.injEq]
  unfold Ext.grid Ext.pref
  rw [← tab_range]
  apply List.map_congr_left
  intro i _
  show F ((i : Int) / W * W + (i : Int) % W) = _
  rw [xy_of]
theorem drawn_some {W H : Int} (hs : Sz W H) {AT : Int → Int → Option Int} {F : Int → Int} (h : ∀ x y, 0 ≤ x → x < W → 0 ≤ y → y < H → AT x y = some (F (y * W + x))) :
    (if 1 ≤ W ∧ W ≤ 1024 ∧ 0 ≤ H ∧ H ≤ 1024 ∧ W * H ≤ 1024 then (Ext.gridO W H AT).map fun l => (W, H, l) else none) = some (W, H, tab F (W * H).toNat 0) := by
  have hW := hs.1; have hW2 := hs.2.1; have hH := hs.2.2.1; have hH2 := hs.2.2.2.1; have ha := hs.area
  rw [if_pos (by omega), gridO_tab hW (by omega) h]; rfl
theorem idx_w {W H x y : Int} (hs : Sz W H) (x0 : 0 ≤ x) (x1 : x < W) (y0 : 0 ≤ y) (y1 : y < H) : wrap64 (wrap64 (y * W) + x) = y * W + x ∧ 0 ≤ y * W + x ∧ y * W + x < W * H ∧ (y * W + x) % W = x ∧ (y * W + x) / W = y := by
  have hi := xy_idx x0 x1 y0 y1
  have hW := hs.1; have hW2 := hs.2.1; have hH2 := hs.2.2.2.1; have ha := hs.area
  have q := mul_bd (c := 64) (d := 64) y0 (by omega) (show 0 ≤ W by omega) hW2
  refine ⟨by rw [w64 (x := y * W) (by omega) (by omega), w64 (by omega) (by omega)], hi.1, hi.2, ?_, ?_⟩
  · rw [Int.add_comm, Int.add_mul_emod_self_right, Int.emod_eq_of_lt x0 x1]
  · rw [Int.add_comm, Int.add_mul_ediv_right _ _ (by omega), Int.ediv_eq_zero_of_lt x0 x1, Int.zero_add]
-- nothing on impl_CrossPlates_1
-- nothing on impl_CrossPlates_1.drawn
-- nothing on impl_CrossPlates_2
-- nothing on impl_CrossPlates_2.drawn
theorem cross_i {R C : List Int} (hR : R.length ≤ 1048576) (hC : C.length ≤ 1048576) {k : Nat} (hk : 10 ≤ k) : impl_CrossPlates.f k R C = some (cross R C) := by
  obtain ⟨k, rfl⟩ : ∃ m, k = m + 1 := ⟨k - 1, by omega⟩
  unfold impl_CrossPlates.f cross
  rw [size_i, Option.bind_some]
  by_cases hs : Sz C.length R.length
  · have ha := hs.area
    rw [if_pos (decide_eq_true hs), within_i hR, Option.bind_some]
    by_cases h1 : All 1 R
    · rw [if_pos (decide_eq_true h1), within_i hC, Option.bind_some, impl_CrossPlates.j0]
      by_cases h2 : All 1 C
      · rw [if_neg (by rw [decide_eq_true h2]; decide), if_pos ⟨hs, h1, h2⟩]
        unfold impl_CrossPlates_1.drawn.f impl_CrossPlates_2.drawn.f
        rw [drawn_some hs (F := fun i => at_ C (i % C.length)) (fun x y x0 x1 y0 y1 => ?_), Option.bind_some, drawn_some hs (F := fun i => at_ R (i / C.length)) (fun x y x0 x1 y0 y1 => ?_), Option.bind_some]
        · rfl
        · unfold impl_CrossPlates_2.f
          rw [if_pos y0, if_pos y1, (idx_w hs x0 x1 y0 y1).2.2.2.2, rd_at]
        · unfold impl_CrossPlates_1.f
          rw [if_pos x0, if_pos x1, (idx_w hs x0 x1 y0 y1).2.2.2.1, rd_at]
      · rw [if_pos (by rw [decide_eq_false h2]; rfl), if_neg (c := _ ∧ _ ∧ _) (fun z => h2 z.2.2)]
    · rw [if_neg (by rw [decide_eq_true_iff]; exact h1), impl_CrossPlates.j0, if_pos rfl, if_neg (c := _ ∧ _ ∧ _) (fun z => h1 z.2.1)]
  · rw [if_neg (by rw [decide_eq_true_iff]; exact hs), impl_CrossPlates.j0, if_pos rfl, if_neg (c := _ ∧ _ ∧ _) (fun z => hs z.1)]
theorem eqs_l (d : Nat) : ∀ (k : Nat) (l : List Int) (i : Int), 0 ≤ i → l.length ≤ 1048576 → l.length - i.toNat ≤ d → d < k → laws_eqIntS.l0 k l l i = some true := by
  induction d with
  | zero =>
    intro k l i h0 hl hd hk
    obtain ⟨k, rfl⟩ : ∃ m, k = m + 1 := ⟨k - 1, by omega⟩
    rw [laws_eqIntS.l0, if_neg (by omega)]
  | succ d ih =>
    intro k l i h0 hl hd hk
    obtain ⟨k, rfl⟩ : ∃ m, k = m + 1 := ⟨k - 1, by omega⟩
    rw [laws_eqIntS.l0]
    by_cases h : i < (l.length : Int)
    · rw [if_pos h, if_pos h0, if_pos h, if_pos rfl, w64 (by omega) (by omega)]; exact ih k l (i + 1) (by omega) hl (by omega) (by omega)
    · rw [if_neg h]
theorem eqs {l : List Int} (hl : l.length ≤ 1048576) {k : Nat} (hk : 1100000 ≤ k) : laws_eqIntS.f k l l = some true := by
  unfold laws_eqIntS.f; rw [if_pos rfl, eqs_l l.length k l 0 (by omega) hl (by omega) (by omega)]
theorem eqp (a b : Int) {l : List Int} (hl : l.length ≤ 1048576) {k : Nat} (hk : 1100000 ≤ k) : laws_eqPicture.f k a b l a b l = some true := by
  unfold laws_eqPicture.f; rw [if_pos rfl, if_pos rfl, eqs hl hk]; rfl
theorem eqps_l {l : List S28} (hl : l.length ≤ 1048576) (hq : ∀ x ∈ l, x.f2.length ≤ 1048576) (d : Nat) : ∀ (k : Nat) (i : Int), 0 ≤ i → i ≤ l.length → (l.length : Int) - i = d → d + 1100000 < k → laws_eqPictureS.l0 k l l i = some true := by
  induction d with
  | zero =>
    intro k i i0 i1 hd hk
    obtain ⟨k, rfl⟩ : ∃ m, k = m + 1 := ⟨k - 1, by omega⟩
    rw [laws_eqPictureS.l0, if_neg (by omega)]
  | succ d ih =>
    intro k i i0 i1 hd hk
    obtain ⟨k, rfl⟩ : ∃ m, k = m + 1 := ⟨k - 1, by omega⟩
    have hi : i < l.length := by omega
    rw [laws_eqPictureS.l0, if_pos hi, if_pos i0, if_pos hi, eqp _ _ (hq _ (mem_p i0 hi)) (by omega), Option.bind_some, if_pos rfl, w64 (by omega) (by omega)]
    exact ih k (i + 1) (by omega) (by omega) (by omega) (by omega)
theorem eqps {l : List S28} (hl : l.length ≤ 1048576) (hq : ∀ x ∈ l, x.f2.length ≤ 1048576) {k : Nat} (hk : 2200000 ≤ k) : laws_eqPictureS.f k l l = some true := by
  unfold laws_eqPictureS.f; rw [if_pos rfl, eqps_l hl hq l.length k 0 (by omega) (by omega) (by omega) (by omega)]
theorem marks_l (d : Nat) : ∀ (k : Nat) (l : List Int) (m i : Int), 0 ≤ i → i ≤ l.length → 0 ≤ m → m + d ≤ 1000000000 → l.length ≤ 1048576 → (l.length : Int) - i = d → d < k →
    laws_markIntS.l0 k l m i = some (m + d, l.take i.toNat ++ marks m d) := by
  induction d with
  | zero =>
    intro k l m i h0 h1 m0 m1 hl hd hk
    obtain ⟨k, rfl⟩ : ∃ m, k = m + 1 := ⟨k - 1, by omega⟩
    rw [laws_markIntS.l0, if_neg (by omega)]
    simp only [marks, List.append_nil, List.take_of_length_le (show l.length ≤ i.toNat by omega)]
    rw [show m + ((0 : Nat) : Int) = m by omega]
  | succ d ih =>
    intro k l m i h0 h1 m0 m1 hl hd hk
    obtain ⟨k, rfl⟩ : ∃ m, k = m + 1 := ⟨k - 1, by omega⟩
    rw [laws_markIntS.l0, if_pos (by omega), if_pos h0, w64 (by omega) (by omega), w64 (by omega) (by omega), ih k _ (m + 1) (i + 1) (by omega) (by rw [List.length_set]; omega) (by omega) (by omega) (by rw [List.length_set]; omega) (by rw [List.length_set]; omega) (by omega)]
    have e : (l.set i.toNat m).take (i + 1).toNat = l.take i.toNat ++ [m] := by
      rw [show (i + 1).toNat = i.toNat + 1 by omega, List.take_succ_eq_append_getElem (by rw [List.length_set]; omega), List.getElem_set]
      rw [if_pos rfl, List.take_set_of_le (Nat.le_refl _)]
    rw [e]
    simp only [marks, List.append_assoc, List.cons_append, List.nil_append]
    rw [show m + 1 + (d : Int) = m + ((d + 1 : Nat) : Int) by omega]
theorem mark_s {l : List Int} {m : Int} (m0 : 0 ≤ m) (m1 : m ≤ 100000000) (hl : l.length ≤ 1048576) {k : Nat} (hk : 1100000 ≤ k) : laws_markIntS.f k l m = some (m + l.length, marks m l.length) := by
  unfold laws_markIntS.f; rw [marks_l l.length k l m 0 (by omega) (by omega) m0 (by omega) hl (by omega) (by omega)]; rfl
/-- how far the marks of a row of pictures go -/
def mkn : List S28 → Int
  | [] => 0
  | x :: r => 2 + x.f2.length + mkn r
/-- the row, marked from m on -/
def mkp : List S28 → Int → List S28
  | [], _ => []
  | x :: r, m => ⟨m, m + 1, marks (m + 2) x.f2.length⟩ :: mkp r (m + 2 + x.f2.length)
theorem mkn_pos : ∀ l : List S28, 0 ≤ mkn l := by
  intro l
  induction l with
  | nil => exact Int.le_refl _
  | cons x r ih => rw [mkn]; omega
theorem rd_mid (pre r : List S28) (x : S28) : rd_T28 (pre ++ x :: r) (pre.length : Int) = x := by
  unfold rd_T28; rw [Int.toNat_natCast, List.getD_eq_getElem?_getD, List.getElem?_append_right (Nat.le_refl _), Nat.sub_self]; rfl
theorem set_mid (pre r : List S28) (x y : S28) : (pre ++ x :: r).set ((pre.length : Int) : Int).toNat y = pre ++ y :: r := by
  rw [Int.toNat_natCast, List.set_append_right _ _ (Nat.le_refl _), Nat.sub_self]; rfl
theorem markps_l : ∀ (rest pre : List S28) (k : Nat) (m : Int), (∀ x ∈ rest, x.f2.length ≤ 1048576) → pre.length + rest.length ≤ 1048576 → 0 ≤ m → m + mkn rest ≤ 50000000 → rest.length + 1100001 ≤ k →
    laws_markPictureS.l0 k (pre ++ rest) m pre.length = some (m + mkn rest, pre ++ mkp rest m) := by
  intro rest
  induction rest with
  | nil =>
    intro pre k m hq hl m0 hm hk
    obtain ⟨k, rfl⟩ : ∃ m, k = m + 1 := ⟨k - 1, by omega⟩
    rw [laws_markPictureS.l0, if_neg (by simp), mkn, mkp, Int.add_zero]
  | cons x r ih =>
    intro pre k m hq hl m0 hm hk
    have hx := hq x List.mem_cons_self
    have hr := mkn_pos r
    rw [List.length_cons] at hk hl
    rw [mkn] at hm
    obtain ⟨k, rfl⟩ : ∃ m, k = m + 1 := ⟨k - 1, by omega⟩
    rw [laws_markPictureS.l0, if_pos (by rw [List.length_append, List.length_cons]; omega), if_pos (by omega), rd_mid, set_mid, Option.bind_some]
    simp only [rd_mid, set_mid, Option.bind_some]
    rw [w64 (x := m + 1) (by omega) (by omega), w64 (x := m + 1 + 1) (by omega) (by omega), mark_s (by omega) (by omega) hx (by omega), Option.bind_some]
    simp only
    rw [w64 (x := (pre.length : Int) + 1) (by omega) (by omega)]
    have := ih (pre ++ [⟨m, m + 1, marks (m + 1 + 1) x.f2.length⟩]) k (m + 1 + 1 + x.f2.length) (fun y hy => hq y (List.mem_cons_of_mem _ hy)) (by rw [List.length_append]; simp only [List.length_cons, List.length_nil]; omega) (by omega) (by omega) (by omega)
    rw [List.append_assoc, List.length_append] at this
    simp only [List.length_cons, List.length_nil, List.cons_append, List.nil_append] at this
    rw [show ((pre.length + (0 + 1) : Nat) : Int) = (pre.length : Int) + 1 by omega] at this
    rw [this, mkn, mkp, show m + 1 + 1 = m + 2 by omega, show m + 2 + (x.f2.length : Int) + mkn r = m + (2 + (x.f2.length : Int) + mkn r) by omega, List.append_assoc]; rfl
theorem markps {l : List S28} {m : Int} (hq : ∀ x ∈ l, x.f2.length ≤ 1048576) (hl : l.length ≤ 1048576) (m0 : 0 ≤ m) (hm : m + mkn l ≤ 50000000) {k : Nat} (hk : 2200000 ≤ k) : laws_markPictureS.f k l m = some (m + mkn l, mkp l m) := by
  unfold laws_markPictureS.f
  exact markps_l l [] k m hq (by simpa using hl) m0 hm (by omega)
theorem held_l (n : Nat) (m : Int) (m0 : 0 ≤ m) (m1 : m ≤ 100000000) (hn : n ≤ 1048576) (d : Nat) : ∀ (k : Nat) (i : Int), 0 ≤ i → i ≤ n → (n : Int) - i = d → d < k → laws_heldIntS.l0 k (marks m n) (m + i) i = some (m + n) := by
  induction d with
  | zero =>
    intro k i h0 h1 hd hk
    obtain ⟨k, rfl⟩ : ∃ m, k = m + 1 := ⟨k - 1, by omega⟩
    rw [laws_heldIntS.l0, if_neg (by rw [marks_length]; omega), show m + i = m + (n : Int) by omega]
  | succ d ih =>
    intro k i h0 h1 hd hk
    obtain ⟨k, rfl⟩ : ∃ m, k = m + 1 := ⟨k - 1, by omega⟩
    have e : rd (marks m n) i = m + i := by
      rw [rd_at]; unfold at_; rw [List.getD_eq_getElem?_getD, marks_at n m i.toNat (by omega), Option.getD_some]; omega
    rw [laws_heldIntS.l0, if_pos (by rw [marks_length]; omega), if_pos h0, if_pos e, w64 (by omega) (by omega), w64 (by omega) (by omega), show m + i + 1 = m + (i + 1) by omega]
    exact ih k (i + 1) (by omega) (by omega) (by omega) (by omega)
theorem held_s {n : Nat} {m : Int} (m0 : 0 ≤ m) (m1 : m ≤ 100000000) (hn : n ≤ 1048576) {k : Nat} (hk : 1100000 ≤ k) : laws_heldIntS.f k (marks m n) m = some (m + n) := by
  have := held_l n m m0 m1 hn n k 0 (by omega) (by omega) (by omega) (by omega)
  rw [Int.add_zero] at this
  unfold laws_heldIntS.f; exact this
theorem heldps_l : ∀ (rest pre : List S28) (k : Nat) (m : Int), (∀ x ∈ rest, x.f2.length ≤ 1048576) → pre.length + rest.length ≤ 1048576 → 0 ≤ m → m + mkn rest ≤ 50000000 → rest.length + 1100001 ≤ k →
    laws_heldPictureS.l0 k (pre ++ mkp rest m) m pre.length = some (m + mkn rest) := by
  intro rest
  induction rest with
  | nil =>
    intro pre k m hq hl m0 hm hk
    obtain ⟨k, rfl⟩ : ∃ m, k = m + 1 := ⟨k - 1, by omega⟩
    rw [mkp, List.append_nil, laws_heldPictureS.l0, if_neg (by simp), mkn, Int.add_zero]
  | cons x r ih =>
    intro pre k m hq hl m0 hm hk
    have hx := hq x List.mem_cons_self
    have hr := mkn_pos r
    rw [List.length_cons] at hk hl
    rw [mkn] at hm
    obtain ⟨k, rfl⟩ : ∃ m, k = m + 1 := ⟨k - 1, by omega⟩
    rw [mkp, laws_heldPictureS.l0, if_pos (by rw [List.length_append, List.length_cons]; omega), if_pos (by omega), rd_mid]
    simp only
    rw [if_pos trivial, w64 (x := m + 1) (by omega) (by omega), if_pos rfl, w64 (x := m + 1 + 1) (by omega) (by omega), show m + 1 + 1 = m + 2 by omega, held_s (by omega) (by omega) hx (by omega), Option.bind_some, if_neg (by omega), w64 (x := (pre.length : Int) + 1) (by omega) (by omega)]
    have := ih (pre ++ [⟨m, m + 1, marks (m + 2) x.f2.length⟩]) k (m + 2 + x.f2.length) (fun y hy => hq y (List.mem_cons_of_mem _ hy)) (by rw [List.length_append]; simp only [List.length_cons, List.length_nil]; omega) (by omega) (by omega) (by omega)
    rw [List.append_assoc, List.length_append] at this
    simp only [List.length_cons, List.length_nil, List.cons_append, List.nil_append] at this
    rw [show ((pre.length + (0 + 1) : Nat) : Int) = (pre.length : Int) + 1 by omega] at this
    rw [this, mkn]
    congr 1; omega
theorem heldps {l : List S28} {m : Int} (hq : ∀ x ∈ l, x.f2.length ≤ 1048576) (hl : l.length ≤ 1048576) (m0 : 0 ≤ m) (hm : m + mkn l ≤ 50000000) {k : Nat} (hk : 2200000 ≤ k) : laws_heldPictureS.f k (mkp l m) m = some (m + mkn l) := by
  unfold laws_heldPictureS.f
  exact heldps_l l [] k m hq (by simpa using hl) m0 hm (by omega)
theorem cross_sm (R C : List Int) : (cross R C).1.length ≤ 1048576 ∧ (∀ x ∈ (cross R C).1, x.f2.length ≤ 1048576) ∧ mkn (cross R C).1 ≤ 4000000 := by
  unfold cross; split
  · rename_i h
    have ha := h.1.area
    have l1 : ((crossA R C).length : Int) = (C.length : Int) * R.length := by unfold crossA; rw [tab_length]; omega
    have l2 : ((crossB R C).length : Int) = (C.length : Int) * R.length := by unfold crossB; rw [tab_length]; omega
    refine ⟨by simp, fun x hx => ?_, ?_⟩
    · rcases List.mem_cons.mp hx with e | e
      · subst e; show (crossA R C).length ≤ _; omega
      · rcases List.mem_cons.mp e with e | e
        · subst e; show (crossB R C).length ≤ _; omega
        · simp at e
    · show 2 + ((crossA R C).length : Int) + (2 + ((crossB R C).length : Int) + 0) ≤ _; omega
  · exact ⟨by simp, fun x hx => by simp at hx, by show (0 : Int) ≤ _; omega⟩
theorem pure_FnExactCrossPlates (l0 l1 : List Int) (h0 : l0.length ≤ maxLen) (hl : l0.length * 8 ≤ 140737488351232) (hw : ∀ x ∈ l0, (Lit.int .i64 x).wf = true) (h2 : l1.length ≤ maxLen) (hl2 : l1.length * 8 ≤ 140737488351232) (hw2 : ∀ x ∈ l1, (Lit.int .i64 x).wf = true) : ∃ k, laws_FnExactCrossPlates.f k l0 l1 = some true := by
  obtain ⟨m, hm0⟩ : ∃ m : Nat, 4000000 ≤ m := ⟨4000000, Nat.le_refl _⟩
  refine ⟨m + 8, ?_⟩
  unfold laws_FnExactCrossPlates.f
  by_cases c0 : (l0.length : Int) > 1048576
  · rw [if_pos c0]
  · rw [if_neg c0]
    by_cases c1 : (l1.length : Int) > 1048576
    · rw [if_pos c1]
    · rw [if_neg c1]
      have n0 : l0.length ≤ 1048576 := by omega
      have n1 : l1.length ≤ 1048576 := by omega
      obtain ⟨b1, b2, b3⟩ := cross_sm l0 l1
      have hp := mkn_pos (cross l0 l1).1
      have hng : ¬ (1 + (l0.length : Int) + (l1.length : Int) < 0) := by omega
      have hng2 : ¬ (1 + mkn (cross l0 l1).1 < 0) := by omega
      have tl := fun (l : List Int) (hl : l.length ≤ 1048576) (k : Nat) (hk : 1100000 ≤ k) => tos hl hk
      simp (disch := first | assumption | omega) only [tos, cross_s, cross_i, Option.bind_some, eqps, if_true, bne_self_eq_false]
      rw [laws_FnExactCrossPlates.j0]
      simp (disch := first | assumption | omega) only [tos, cross_s, cross_i, Option.bind_some, eqps, eqs, if_true, if_false, Bool.false_eq_true, bne_self_eq_false, mark_s, hng]
      rw [laws_FnExactCrossPlates.j1]
      simp (disch := first | assumption | omega) only [tos, cross_s, cross_i, Option.bind_some, eqps, eqs, if_true, if_false, Bool.false_eq_true, bne_self_eq_false, markps, heldps, hng2]
      rw [laws_FnExactCrossPlates.j2]
      simp (disch := first | assumption | omega) only [Option.bind_some, if_true, if_false, Bool.false_eq_true, heldps, hng2]

end Go.Proofs.Ytmahpennnnajcaa.PFnExactCrossPlates
