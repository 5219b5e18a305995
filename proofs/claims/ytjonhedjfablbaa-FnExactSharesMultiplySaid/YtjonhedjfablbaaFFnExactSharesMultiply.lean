/- What the functions that laws.FnExactSharesMultiply reaches compute, and that the law is true: over numbers alone. -/
import Derived.Test.YtjonhedjfablbaaPFnExactSharesMultiplyx
import Derived.Test.YtjonhedjfablbaaPic
import Derived.Laws.Strings
namespace Go.Proofs.Ytjonhedjfablbaa.PFnExactSharesMultiply
open Go.RowKit Go.Proofs.YtjonhedjfablbaaW.PrintWords Go.Proofs.YtjonhedjfablbaaW.PrintLast Go.Proofs.YtjonhedjfablbaaW.PrintMore
set_option linter.unusedVariables false
set_option linter.unusedSimpArgs false
set_option linter.unusedSimpArgs false
open Pic
theorem w64 {x : Int} (h1 : -9223372036854775808 ≤ x) (h2 : x ≤ 9223372036854775807) : wrap64 x = x := by unfold wrap64; omega
theorem rd_at (l : List Int) (i : Int) : rd l i = at_ l i := rfl
theorem tmod_pos {n x : Int} (h : 0 ≤ x) : Int.tmod x n = x % n := Int.tmod_eq_emod_of_nonneg h
theorem tdiv_pos {n x : Int} (h : 0 ≤ x) : Int.tdiv x n = x / n := Int.tdiv_eq_ediv_of_nonneg h
theorem dec_ff {p : Prop} [Decidable p] (h : ¬ p) : some false = some (decide p) := by rw [decide_eq_false h]
theorem dec_dd {p q : Prop} [Decidable p] [Decidable q] (h : p ↔ q) : some (decide p) = some (decide q) := by rw [decide_eq_decide.mpr h]
theorem mn_eq (a b : Int) : mn a b = if b < a then b else a := rfl
theorem up_wide {W H : Int} {l : List Int} (h : Up W H l 1) : Up W H l 255 := ⟨h.1, h.2.1, fun v hv => ⟨(h.2.2 v hv).1, by have := (h.2.2 v hv).2; omega⟩⟩
theorem mk_neg (n : Nat) : ¬ ((1 : Int) + n < 0) := by omega
theorem drop_p (l : List S24) {i : Int} (h0 : 0 ≤ i) (h : i < l.length) : l.drop i.toNat = rd_T24 l i :: l.drop (i + 1).toNat := by
  have hj : i.toNat < l.length := by omega
  have e : rd_T24 l i = l[i.toNat] := by unfold rd_T24; rw [List.getD_eq_getElem?_getD, List.getElem?_eq_getElem hj, Option.getD_some]
  rw [List.drop_eq_getElem_cons hj, e, show (i + 1).toNat = i.toNat + 1 by omega]
theorem mem_p {l : List S24} {i : Int} (h0 : 0 ≤ i) (h : i < l.length) : rd_T24 l i ∈ l := by
  have : rd_T24 l i ∈ l.drop i.toNat := by rw [drop_p l h0 h]; exact List.mem_cons_self
  exact List.mem_of_mem_drop this
theorem eqs_l (d : Nat) : ∀ (k : Nat) (l : List Int) (i : Int), 0 ≤ i → l.length ≤ 1048576 → l.length - i.toNat ≤ d → d < k → laws_eqIntS.l0 k l l i = some true := by
  induction d with
  | zero =>
    intro k l i h0 hl hd hk
    obtain ⟨k, rfl⟩ : ∃ m, k = m + 1 := ⟨k - 1, by omega⟩
    rw [laws_eqIntS.l0, if_neg (by omega)]
  | succ d ih =>
    intro k l i h0 hl hd hk
    obtain ⟨k, rfl⟩ : ∃ m, k = m + 1 := ⟨k - 1, by omega⟩
    rw [laws_eqIntS.l0]
    by_cases h : i < (l.length : Int)
    · rw [if_pos h, if_pos h0, if_pos h, if_pos rfl, w64 (by omega) (by omega)]; exact ih k l (i + 1) (by omega) hl (by omega) (by omega)
    · rw [if_neg h]
theorem eqs {l : List Int} (hl : l.length ≤ 1048576) {k : Nat} (hk : 1100000 ≤ k) : laws_eqIntS.f k l l = some true := by
  unfold laws_eqIntS.f; rw [if_pos rfl, eqs_l l.length k l 0 (by omega) hl (by omega) (by omega)]
theorem eqp (a b : Int) {l : List Int} (hl : l.length ≤ 1048576) {k : Nat} (hk : 1100000 ≤ k) : laws_eqPicture.f k a b l a b l = some true := by
  unfold laws_eqPicture.f; rw [if_pos rfl, if_pos rfl, eqs hl hk]; rfl
theorem sz_s (l : List Int) (m : Int) (hm : 0 ≤ m) (hm2 : m ≤ 1048576) (hl : l.length ≤ 140737488351232) : laws_szIntS.f l m = some (if (l.length : Int) ≤ m then m - l.length else -1) := by
  unfold laws_szIntS.f
  rw [w64 (by omega) (by omega)]
  by_cases h : (l.length : Int) ≤ m
  · rw [if_neg (by omega), if_pos h]
  · rw [if_pos (by omega), if_neg h]
theorem sz_p (a b : Int) (l : List Int) (m : Int) (hm : 0 ≤ m) (hm2 : m ≤ 1048576) (hl : l.length ≤ 140737488351232) : laws_szPicture.f a b l m = some (if (l.length : Int) ≤ m then m - l.length else -1) := by
  unfold laws_szPicture.f
  rw [sz_s l m hm hm2 hl, Option.bind_some]
  by_cases h : (l.length : Int) ≤ m
  · rw [if_pos h, if_neg (by omega)]
  · rw [if_neg h, if_pos (by omega)]
theorem tos_l (d : Nat) : ∀ (k : Nat) (l o : List Int) (i : Int), 0 ≤ i → i ≤ l.length → o.length = l.length → l.length ≤ 1048576 → (l.length : Int) - i = d → d < k → laws_toIntS.l0 k l o i = some (o.take i.toNat ++ l.drop i.toNat) := by
  induction d with
  | zero =>
    intro k l o i h0 h1 ho hl hd hk
    obtain ⟨k, rfl⟩ : ∃ m, k = m + 1 := ⟨k - 1, by omega⟩
    rw [laws_toIntS.l0, if_neg (by omega), List.drop_eq_nil_of_le (by omega), List.append_nil, List.take_of_length_le (by omega)]
  | succ d ih =>
    intro k l o i h0 h1 ho hl hd hk
    obtain ⟨k, rfl⟩ : ∃ m, k = m + 1 := ⟨k - 1, by omega⟩
    rw [laws_toIntS.l0, if_pos (by omega), if_pos h0, if_pos (by omega), w64 (by omega) (by omega), rd_at, ih k l _ (i + 1) (by omega) (by omega) (by rw [List.length_set]; exact ho) hl (by omega) (by omega), drop_at l h0 (by omega)]
    rw [show (i + 1).toNat = i.toNat + 1 by omega, List.take_succ_eq_append_getElem (by rw [List.length_set]; omega), List.getElem_set, if_pos rfl, List.take_set_of_le (Nat.le_refl _)]
    simp only [List.append_assoc, List.cons_append, List.nil_append]
theorem tos {l : List Int} (hl : l.length ≤ 1048576) {k : Nat} (hk : 1100000 ≤ k) : laws_toIntS.f k l = some l := by
  unfold laws_toIntS.f
  rw [if_pos (by omega), if_pos (by omega), tos_l l.length k l _ 0 (by omega) (by omega) (by simp) hl (by omega) (by omega)]; rfl
theorem top (a b : Int) {l : List Int} (hl : l.length ≤ 1048576) {k : Nat} (hk : 1100000 ≤ k) : laws_toPicture.f k a b l = some (a, b, l) := by
  unfold laws_toPicture.f; rw [tos hl hk]; rfl
theorem l1In (x a b : Int) : spec_l1In.f x a b = some (decide (a ≤ x ∧ x ≤ b)) := by
  unfold spec_l1In.f
  split
  all_goals first | exact dec_dd (by omega) | exact dec_ff (by omega)
theorem size_s (W H : Int) : spec_l1Size.f W H = some (decide (Sz W H)) := by
  unfold spec_l1Size.f
  simp only [l1In, Option.bind_some]
  by_cases hW : 1 ≤ W ∧ W ≤ 64
  · by_cases hH : 1 ≤ H ∧ H ≤ 64
    · have := mul_bd (c := 64) (d := 64) (show 0 ≤ W by omega) hW.2 (show 0 ≤ H by omega) hH.2
      rw [if_pos (decide_eq_true hW), if_pos (decide_eq_true hH), w64 (by omega) (by omega)]
      exact dec_dd (by unfold Sz; omega)
    · rw [if_pos (decide_eq_true hW), if_neg (by rw [decide_eq_true_iff]; exact hH)]; exact dec_ff (fun h => hH ⟨h.2.2.1, h.2.2.2.1⟩)
  · rw [if_neg (by rw [decide_eq_true_iff]; exact hW)]; exact dec_ff (fun h => hW ⟨h.1, h.2.1⟩)
theorem up_l (m : Int) (d : Nat) : ∀ (k : Nat) (l : List Int) (i : Int), 0 ≤ i → l.length ≤ 1048576 → i ≤ l.length → (l.length : Int) - i = d → d < k → spec_l1Up.l0 k m l l.length i = some (decide (All m (l.drop i.toNat))) := by
  induction d with
  | zero =>
    intro k l i h0 hl h1 hd hk
    obtain ⟨k, rfl⟩ : ∃ m, k = m + 1 := ⟨k - 1, by omega⟩
    rw [spec_l1Up.l0, if_neg (by omega), List.drop_eq_nil_of_le (by omega)]
    rw [decide_eq_true (show All m [] from fun v h => by simp at h)]
  | succ d ih =>
    intro k l i h0 hl h1 hd hk
    obtain ⟨k, rfl⟩ : ∃ m, k = m + 1 := ⟨k - 1, by omega⟩
    rw [spec_l1Up.l0, if_pos (by omega), if_pos h0, if_pos (by omega), l1In, rd_at, Option.bind_some, drop_at l h0 (by omega), w64 (by omega) (by omega)]
    by_cases h : 0 ≤ at_ l i ∧ at_ l i ≤ m
    · rw [if_pos (decide_eq_true h), ih k l (i + 1) (by omega) hl (by omega) (by omega) (by omega)]
      exact dec_dd (by rw [All.cons]; exact ⟨fun x => ⟨h, x⟩, fun x => x.2⟩)
    · rw [if_neg (by rw [decide_eq_true_iff]; exact h)]; exact dec_ff (fun x => h (All.cons.mp x).1)
theorem up_s {W H : Int} {l : List Int} (hl : l.length ≤ 1048576) (m : Int) {k : Nat} (hk : 1100000 ≤ k) : spec_l1Up.f k W H l m = some (decide (Up W H l m)) := by
  obtain ⟨k, rfl⟩ : ∃ m, k = m + 1 := ⟨k - 1, by omega⟩
  unfold spec_l1Up.f
  rw [size_s, Option.bind_some]
  by_cases h : Sz W H
  · have := h.area
    rw [if_pos (decide_eq_true h), w64 (by omega) (by omega), spec_l1Up.j0]
    by_cases e : (l.length : Int) = W * H
    · rw [if_neg (by rw [bne_iff_ne]; exact fun x => x e), up_l m l.length k l 0 (by omega) hl (by omega) (by omega) (by omega)]
      exact dec_dd ⟨fun x => ⟨h, e, x⟩, fun x => x.2.2⟩
    · rw [if_pos (by rw [bne_iff_ne]; exact e)]; exact dec_ff (fun x => e x.2.1)
  · rw [if_neg (by rw [decide_eq_true_iff]; exact h), spec_l1Up.j0, if_pos rfl]; exact dec_ff (fun x => h x.1)
theorem plate_s {W H : Int} {l : List Int} (hl : l.length ≤ 1048576) {k : Nat} (hk : 1100000 ≤ k) : spec_IsPlate.f k W H l = some (decide (Up W H l 1)) := by
  unfold spec_IsPlate.f; rw [up_s hl 1 hk]; rfl
/-- every one a plate of the first one's size -/
def likeF (a b : Int) (l : List S24) : Prop := ∀ x ∈ l, Up x.f0 x.f1 x.f2 1 ∧ x.f0 = a ∧ x.f1 = b
instance (a b : Int) (l : List S24) : Decidable (likeF a b l) := inferInstanceAs (Decidable (∀ x ∈ l, _))
def Stk (l : List S24) : Prop := (1 ≤ l.length ∧ l.length ≤ 4) ∧ likeF (rd_T24 l 0).f0 (rd_T24 l 0).f1 l
instance (l : List S24) : Decidable (Stk l) := inferInstanceAs (Decidable (_ ∧ _))
theorem likeF_cons {a b : Int} {x : S24} {l : List S24} : likeF a b (x :: l) ↔ (Up x.f0 x.f1 x.f2 1 ∧ x.f0 = a ∧ x.f1 = b) ∧ likeF a b l := by simp [likeF]
theorem stackl_s {l : List S24} (hl : l.length ≤ 4) (hq : ∀ x ∈ l, x.f2.length ≤ 1048576) (d : Nat) : ∀ (k : Nat) (i : Int), 0 ≤ i → i ≤ l.length → (l.length : Int) - i = d → d + 1100000 < k →
    spec_IsStack.l0 k l l l.length i = some (decide (likeF (rd_T24 l 0).f0 (rd_T24 l 0).f1 (l.drop i.toNat))) := by
  induction d with
  | zero =>
    intro k i i0 i1 hd hk
    obtain ⟨k, rfl⟩ : ∃ m, k = m + 1 := ⟨k - 1, by omega⟩
    rw [spec_IsStack.l0, if_neg (by omega), List.drop_eq_nil_of_le (by omega), decide_eq_true (show likeF _ _ [] from fun x hx => by simp at hx)]
  | succ d ih =>
    intro k i i0 i1 hd hk
    obtain ⟨k, rfl⟩ : ∃ m, k = m + 1 := ⟨k - 1, by omega⟩
    have hi : i < l.length := by omega
    rw [spec_IsStack.l0, if_pos hi, if_pos i0, if_pos hi, plate_s (hq _ (mem_p i0 hi)) (by omega), Option.bind_some, drop_p l i0 hi, w64 (by omega) (by omega), ih k (i + 1) (by omega) (by omega) (by omega) (by omega)]
    by_cases h : Up (rd_T24 l i).f0 (rd_T24 l i).f1 (rd_T24 l i).f2 1
    · rw [if_pos (decide_eq_true h), if_pos (by omega)]
      by_cases h1 : (rd_T24 l i).f0 = (rd_T24 l 0).f0
      · rw [if_pos h1]
        by_cases h2 : (rd_T24 l i).f1 = (rd_T24 l 0).f1
        · rw [if_pos h2]; exact dec_dd (by rw [likeF_cons]; exact ⟨fun x => ⟨⟨h, h1, h2⟩, x⟩, fun x => x.2⟩)
        · rw [if_neg h2]; exact dec_ff (by rw [likeF_cons]; exact fun x => h2 x.1.2.2)
      · rw [if_neg h1]; exact dec_ff (by rw [likeF_cons]; exact fun x => h1 x.1.2.1)
    · rw [if_neg (by rw [decide_eq_true_iff]; exact h)]; exact dec_ff (by rw [likeF_cons]; exact fun x => h x.1.1)
theorem stack_s {l : List S24} (hl : l.length ≤ 1048576) (hq : ∀ x ∈ l, x.f2.length ≤ 1048576) {k : Nat} (hk : 1200000 ≤ k) : spec_IsStack.f k l = some (decide (Stk l)) := by
  unfold spec_IsStack.f
  rw [l1In, Option.bind_some]
  by_cases h : 1 ≤ (l.length : Int) ∧ (l.length : Int) ≤ 4
  · rw [if_pos (decide_eq_true h), stackl_s (by omega) hq l.length k 0 (by omega) (by omega) (by omega) (by omega)]
    exact dec_dd (by unfold Stk; exact ⟨fun x => ⟨by omega, x⟩, fun x => x.2⟩)
  · rw [if_neg (by rw [decide_eq_true_iff]; exact h)]; exact dec_ff (fun x => h (by have := x.1; omega))
theorem stk_up {l : List S24} (h : Stk l) : ∀ x ∈ l, Up (rd_T24 l 0).f0 (rd_T24 l 0).f1 x.f2 1 := by
  intro x hx
  obtain ⟨h1, h2, h3⟩ := h.2 x hx
  rw [← h2, ← h3]; exact h1
theorem stk_sz {l : List S24} (h : Stk l) : Sz (rd_T24 l 0).f0 (rd_T24 l 0).f1 := by
  have := h.1
  exact (stk_up h _ (mem_p (l := l) (i := 0) (by omega) (by omega))).1
theorem shl_bit {b j : Int} (hb : In 1 b) (h0 : 0 ≤ j) (h1 : j ≤ 3) : shl .i64 b j = b * p2 j := by
  unfold In at hb
  unfold shl
  have hj : j = 0 ∨ j = 1 ∨ j = 2 ∨ j = 3 := by omega
  rcases hj with rfl | rfl | rfl | rfl
  · show IntKind.i64.wrap (b * 1) = b * 1
    rw [i64_w, w64 (by omega) (by omega)]
  · show IntKind.i64.wrap (b * 2) = b * 2
    rw [i64_w, w64 (by omega) (by omega)]
  · show IntKind.i64.wrap (b * 4) = b * 4
    rw [i64_w, w64 (by omega) (by omega)]
  · show IntKind.i64.wrap (b * 8) = b * 8
    rw [i64_w, w64 (by omega) (by omega)]
def mkL (i : Int) : List S24 → Int → Int → Int
  | [], _, s => s
  | x :: r, j, s => mkL i r (j + 1) (wrap64 (s + shl .i64 (at_ x.f2 i) j))
theorem mkL_bd (i : Int) : ∀ (r : List S24) (j s : Int), (∀ x ∈ r, In 1 (at_ x.f2 i)) → 0 ≤ j → j + r.length ≤ 4 → 0 ≤ s → s < p2 j → 0 ≤ mkL i r j s ∧ mkL i r j s < p2 (j + r.length) := by
  intro r
  induction r with
  | nil => intro j s _ _ _ s0 s1; simp [mkL]; exact ⟨s0, s1⟩
  | cons x r ih =>
    intro j s hx j0 j1 s0 s1
    rw [List.length_cons] at j1
    have hb : 0 ≤ at_ x.f2 i ∧ at_ x.f2 i ≤ 1 := hx x List.mem_cons_self
    have hp := p2_bd j
    have hst := p2_step j0 (by omega)
    rw [mkL, shl_bit hb j0 (by omega)]
    have e : at_ x.f2 i * p2 j = 0 ∨ at_ x.f2 i * p2 j = p2 j := by
      have : at_ x.f2 i = 0 ∨ at_ x.f2 i = 1 := by omega
      rcases this with h | h <;> rw [h] <;> simp
    rw [w64 (by omega) (by omega)]
    have := ih (j + 1) (s + at_ x.f2 i * p2 j) (fun y hy => hx y (List.mem_cons_of_mem _ hy)) (by omega) (by omega) (by omega) (by omega)
    rw [List.length_cons, show j + ((r.length + 1 : Nat) : Int) = j + 1 + r.length by omega]; exact this
theorem mkL_stk {l : List S24} (h : Stk l) {i : Int} (i0 : 0 ≤ i) (i1 : i < (rd_T24 l 0).f0 * (rd_T24 l 0).f1) : 0 ≤ mkL i l 0 0 ∧ mkL i l 0 0 < p2 l.length := by
  have h1 := h.1
  have := mkL_bd i l 0 0 (fun x hx => by
    have hu := stk_up h x hx; have := hu.2.1
    exact hu.2.2 _ (at_mem i0 (by omega))) (by omega) (by omega) (by omega) (by decide)
  rw [Int.zero_add] at this; exact this
theorem shl_one {n : Nat} (h : 1 ≤ n ∧ n ≤ 4) : shl .i64 1 (n : Int) = p2 n := by
  have : n = 1 ∨ n = 2 ∨ n = 3 ∨ n = 4 := by omega
  rcases this with rfl | rfl | rfl | rfl <;> rfl
theorem markl_s {l : List S24} (hl : l.length ≤ 1048576) {i : Int} (i0 : 0 ≤ i) (hi : ∀ x ∈ l, i < (x.f2.length : Int)) (d : Nat) : ∀ (k : Nat) (s j : Int), 0 ≤ j → j ≤ l.length → (l.length : Int) - j = d → d < k →
    spec_l7Mark.l0 k i s l l.length j = some (mkL i (l.drop j.toNat) j s) := by
  induction d with
  | zero =>
    intro k s j j0 j1 hd hk
    obtain ⟨k, rfl⟩ : ∃ m, k = m + 1 := ⟨k - 1, by omega⟩
    rw [spec_l7Mark.l0, if_neg (by omega), List.drop_eq_nil_of_le (by omega)]; rfl
  | succ d ih =>
    intro k s j j0 j1 hd hk
    obtain ⟨k, rfl⟩ : ∃ m, k = m + 1 := ⟨k - 1, by omega⟩
    have hj : j < l.length := by omega
    rw [spec_l7Mark.l0, if_pos hj, if_pos j0, if_pos hj, if_pos i0, if_pos (hi _ (mem_p j0 hj)), w64 (x := j + 1) (by omega) (by omega), ih k _ (j + 1) (by omega) (by omega) (by omega) (by omega), drop_p l j0 hj, mkL, rd_at]
theorem mark_s {l : List S24} (h : Stk l) {i : Int} (i0 : 0 ≤ i) (i1 : i < (rd_T24 l 0).f0 * (rd_T24 l 0).f1) {k : Nat} (hk : 10 ≤ k) : spec_l7Mark.f k l i = some (mkL i l 0 0) := by
  unfold spec_l7Mark.f
  have := h.1
  rw [markl_s (by omega) i0 (fun x hx => by have := (stk_up h x hx).2.1; omega) l.length k 0 0 (by omega) (by omega) (by omega) (by omega)]; rfl
def cntL (l : List S24) : Nat → Int → List Int → List Int
  | 0, _, c => c
  | d + 1, i, c => cntL l d (i + 1) (c.set (mkL i l 0 0).toNat (wrap64 (at_ c (mkL i l 0 0) + 1)))
theorem cntL_len (l : List S24) : ∀ (d : Nat) (i : Int) (c : List Int), (cntL l d i c).length = c.length := by
  intro d
  induction d with
  | zero => intro i c; rfl
  | succ d ih => intro i c; rw [cntL, ih, List.length_set]
def countsOf (l : List S24) : List Int := if Stk l then cntL l (rd_T24 l 0).f2.length 0 (List.replicate (p2 l.length).toNat 0) else []
theorem countsOf_len {l : List S24} (h : Stk l) : ((countsOf l).length : Int) = p2 l.length := by
  have := p2_bd l.length
  unfold countsOf; rw [if_pos h, cntL_len, List.length_replicate]; omega
theorem countsl_s {l : List S24} (h : Stk l) (n : Nat) (hn : n ≤ (rd_T24 l 0).f0 * (rd_T24 l 0).f1) (d : Nat) : ∀ (k : Nat) (c : List Int) (i : Int), 0 ≤ i → i ≤ n → (n : Int) - i = d → (c.length : Int) = p2 l.length → d + 20 < k →
    spec_MarkCounts.l0 k l c n i = some (cntL l d i c) := by
  have hp := p2_bd l.length
  have hs := (stk_sz h).area
  induction d with
  | zero =>
    intro k c i i0 i1 hd hc hk
    obtain ⟨k, rfl⟩ : ∃ m, k = m + 1 := ⟨k - 1, by omega⟩
    rw [spec_MarkCounts.l0, if_neg (by omega)]; rfl
  | succ d ih =>
    intro k c i i0 i1 hd hc hk
    obtain ⟨k, rfl⟩ : ∃ m, k = m + 1 := ⟨k - 1, by omega⟩
    have hm := mkL_stk h i0 (by omega)
    rw [spec_MarkCounts.l0, if_pos (by omega), mark_s h i0 (by omega) (by omega), Option.bind_some, if_pos hm.1, if_pos (by omega), w64 (x := i + 1) (by omega) (by omega), rd_at, ih k _ (i + 1) (by omega) (by omega) (by omega) (by rw [List.length_set]; exact hc) (by omega)]; rfl
theorem counts_s {l : List S24} (hl : l.length ≤ 1048576) (hq : ∀ x ∈ l, x.f2.length ≤ 1048576) {k : Nat} (hk : 1300000 ≤ k) : spec_MarkCounts.f k l = some (countsOf l) := by
  unfold spec_MarkCounts.f countsOf
  rw [stack_s hl hq (by omega), Option.bind_some]
  by_cases h : Stk l
  · have h1 := h.1
    have hp := p2_bd l.length
    have hs := (stk_sz h).area
    have hu := stk_up h _ (mem_p (l := l) (i := 0) (by omega) (by omega))
    have hun := hu.2.1
    rw [if_pos (decide_eq_true h), if_pos h, shl_one h1, if_pos (by omega), if_pos (by omega), if_pos (by omega)]
    exact countsl_s h (rd_T24 l 0).f2.length (by omega) _ k _ 0 (by omega) (by omega) (by omega) (by rw [List.length_replicate]; omega) (by omega)
  · rw [if_neg (by rw [decide_eq_true_iff]; exact h), if_neg h]
def two (W H : Int) (l : List Int) (V G : Int) (m : List Int) : Prop := (Up W H l 1 ∧ Up V G m 1) ∧ V = W ∧ G = H
instance (W H : Int) (l : List Int) (V G : Int) (m : List Int) : Decidable (two W H l V G m) := inferInstanceAs (Decidable (_ ∧ _))
theorem stk_two (W H : Int) (l : List Int) (V G : Int) (m : List Int) : Stk [(⟨W, H, l⟩ : S24), ⟨V, G, m⟩] ↔ two W H l V G m := by
  unfold Stk two likeF
  constructor
  · intro h
    have a := h.2 ⟨W, H, l⟩ (by simp)
    have b := h.2 ⟨V, G, m⟩ (by simp)
    exact ⟨⟨a.1, b.1⟩, b.2⟩
  · intro h
    refine ⟨by simp, fun x hx => ?_⟩
    rcases List.mem_cons.mp hx with e | e
    · subst e; exact ⟨h.1.1, rfl, rfl⟩
    · rcases List.mem_cons.mp e with e | e
      · subst e; exact ⟨h.1.2, h.2⟩
      · simp at e
/-- points where both have a dot, the first alone, the second alone -/
def both : List Int → List Int → Int
  | a :: r, b :: q => a * b + both r q
  | _, _ => 0
theorem both_bd : ∀ (l m : List Int), All 1 l → All 1 m → 0 ≤ both l m ∧ both l m ≤ l.length := by
  intro l
  induction l with
  | nil => intro m _ _; simp [both]
  | cons a l ih =>
    intro m hl hm
    cases m with
    | nil => simp [both]; omega
    | cons b m =>
      obtain ⟨ha, hl'⟩ := All.cons.mp hl
      obtain ⟨hb, hm'⟩ := All.cons.mp hm
      have := ih m hl' hm'
      unfold In at ha hb
      have e : a * b = 0 ∨ a * b = 1 := by
        have h1 : a = 0 ∨ a = 1 := by omega
        have h2 : b = 0 ∨ b = 1 := by omega
        rcases h1 with e1 | e1 <;> rcases h2 with e2 | e2 <;> rw [e1, e2] <;> simp
      unfold both; rw [List.length_cons]; omega
theorem mk_two {W H V G : Int} {a b : List Int} (ha : All 1 a) (hb : All 1 b) {i : Int} (i0 : 0 ≤ i) (i1 : i < a.length) (i2 : i < b.length) :
    mkL i [(⟨W, H, a⟩ : S24), ⟨V, G, b⟩] 0 0 = at_ a i + 2 * at_ b i ∧ In 1 (at_ a i) ∧ In 1 (at_ b i) := by
  have h1 := ha _ (at_mem i0 i1)
  have h2 := hb _ (at_mem i0 i2)
  refine ⟨?_, h1, h2⟩
  have e1 : shl .i64 (at_ a i) 0 = at_ a i * 1 := shl_bit h1 (by omega) (by omega)
  have e2 : shl .i64 (at_ b i) (0 + 1) = at_ b i * 2 := shl_bit (j := 1) h2 (by omega) (by omega)
  unfold In at h1 h2
  unfold mkL mkL mkL
  rw [e1, e2, w64 (x := 0 + at_ a i * 1) (by omega) (by omega), w64 (by omega) (by omega)]; omega
theorem cnt_two_l {W H V G : Int} {a b : List Int} (ha : All 1 a) (hb : All 1 b) (hab : a.length = b.length) (hn : a.length ≤ 1024) (d : Nat) : ∀ (i c0 c1 c2 c3 : Int), 0 ≤ i → (a.length : Int) - i = d → (0 ≤ c0 ∧ c0 ≤ i) → (0 ≤ c1 ∧ c1 ≤ i) → (0 ≤ c2 ∧ c2 ≤ i) → (0 ≤ c3 ∧ c3 ≤ i) →
    ∃ e0 e1 e2 e3 : Int, cntL [(⟨W, H, a⟩ : S24), ⟨V, G, b⟩] d i [c0, c1, c2, c3] = [e0, e1, e2, e3] ∧ e3 = c3 + both (a.drop i.toNat) (b.drop i.toNat) ∧ e1 + e3 = c1 + c3 + cnt 1 (a.drop i.toNat) ∧ e2 + e3 = c2 + c3 + cnt 1 (b.drop i.toNat) := by
  induction d with
  | zero =>
    intro i c0 c1 c2 c3 i0 hd _ _ _ _
    refine ⟨c0, c1, c2, c3, rfl, ?_⟩
    rw [drop_end a (by omega), drop_end b (by omega)]; simp [both, cnt]
  | succ d ih =>
    intro i c0 c1 c2 c3 i0 hd b0 b1 b2 b3
    obtain ⟨hm, h1, h2⟩ := mk_two (W := W) (H := H) (V := V) (G := G) ha hb (i := i) i0 (by omega) (by omega)
    unfold In at h1 h2
    rw [cntL, hm, drop_at a i0 (by omega), drop_at b i0 (by omega), both, cnt, cnt]
    have ca : at_ a i = 0 ∨ at_ a i = 1 := by omega
    have cb : at_ b i = 0 ∨ at_ b i = 1 := by omega
    rcases ca with ea | ea <;> rcases cb with eb | eb <;> rw [ea, eb]
    · obtain ⟨e0, e1, e2, e3, h, h3, h4, h5⟩ := ih (i + 1) (c0 + 1) c1 c2 c3 (by omega) (by omega) (by omega) (by omega) (by omega) (by omega)
      refine ⟨e0, e1, e2, e3, ?_, by simp; omega, by simp; omega, by simp; omega⟩
      rw [← h]; show cntL _ d (i + 1) [wrap64 (c0 + 1), c1, c2, c3] = _; rw [w64 (by omega) (by omega)]
    · obtain ⟨e0, e1, e2, e3, h, h3, h4, h5⟩ := ih (i + 1) c0 c1 (c2 + 1) c3 (by omega) (by omega) (by omega) (by omega) (by omega) (by omega)
      refine ⟨e0, e1, e2, e3, ?_, by simp; omega, by simp; omega, by simp; omega⟩
      rw [← h]; show cntL _ d (i + 1) [c0, c1, wrap64 (c2 + 1), c3] = _; rw [w64 (by omega) (by omega)]
    · obtain ⟨e0, e1, e2, e3, h, h3, h4, h5⟩ := ih (i + 1) c0 (c1 + 1) c2 c3 (by omega) (by omega) (by omega) (by omega) (by omega) (by omega)
      refine ⟨e0, e1, e2, e3, ?_, by simp; omega, by simp; omega, by simp; omega⟩
      rw [← h]; show cntL _ d (i + 1) [c0, wrap64 (c1 + 1), c2, c3] = _; rw [w64 (by omega) (by omega)]
    · obtain ⟨e0, e1, e2, e3, h, h3, h4, h5⟩ := ih (i + 1) c0 c1 c2 (c3 + 1) (by omega) (by omega) (by omega) (by omega) (by omega) (by omega)
      refine ⟨e0, e1, e2, e3, ?_, by simp; omega, by simp; omega, by simp; omega⟩
      rw [← h]; show cntL _ d (i + 1) [c0, c1, c2, wrap64 (c3 + 1)] = _; rw [w64 (by omega) (by omega)]
def sharesM (W H : Int) (l : List Int) (V G : Int) (m : List Int) : Bool := if two W H l V G m then wrap64 (both l m * l.length) == wrap64 (((cnt 1 l : Nat) : Int) * ((cnt 1 m : Nat) : Int)) else false
theorem shares_s {W H V G : Int} {l m : List Int} (hl : l.length ≤ 1048576) (hm : m.length ≤ 1048576) {k : Nat} (hk : 1300000 ≤ k) : spec_SharesMultiply.f k W H l V G m = some (sharesM W H l V G m) := by
  have hq : ∀ x ∈ [(⟨W, H, l⟩ : S24), ⟨V, G, m⟩], x.f2.length ≤ 1048576 := by
    intro x hx
    rcases List.mem_cons.mp hx with e | e
    · subst e; exact hl
    · rcases List.mem_cons.mp e with e | e
      · subst e; exact hm
      · simp at e
  unfold spec_SharesMultiply.f sharesM
  rw [Option.bind_some, stack_s (by simp) hq (by omega), Option.bind_some]
  by_cases h : two W H l V G m
  · have hst := (stk_two W H l V G m).mpr h
    have hln := h.1.1.2.1; have hmn := h.1.2.2.1; have ha := h.1.1.1.area
    have hmn2 : (m.length : Int) = W * H := by rw [hmn, h.2.1, h.2.2]
    have c1 := cnt_le 1 l; have c2 := cnt_le 1 m
    have hb := both_bd l m h.1.1.2.2 h.1.2.2.2
    rw [if_pos (decide_eq_true hst), counts_s (by simp) hq hk, Option.bind_some, if_pos h]
    obtain ⟨e0, e1, e2, e3, he, h3, h4, h5⟩ := cnt_two_l (W := W) (H := H) (V := V) (G := G) h.1.1.2.2 h.1.2.2.2 (by omega) (by omega) l.length 0 0 0 0 0 (by omega) (by omega) (by omega) (by omega) (by omega) (by omega)
    have hc : countsOf [(⟨W, H, l⟩ : S24), ⟨V, G, m⟩] = [e0, e1, e2, e3] := by
      unfold countsOf; rw [if_pos hst, ← he]; rfl
    rw [hc]
    simp only [Int.toNat_zero, List.drop_zero] at h3 h4 h5
    have r1 : rd [e0, e1, e2, e3] 1 = e1 := rfl
    have r2 : rd [e0, e1, e2, e3] 2 = e2 := rfl
    have r3 : rd [e0, e1, e2, e3] 3 = e3 := rfl
    rw [if_pos (by simp), if_pos (by simp), if_pos (by simp), r1, r2, r3, w64 (x := e1 + e3) (by omega) (by omega), w64 (x := e2 + e3) (by omega) (by omega)]
    rw [show e3 = both l m by omega, show e1 + both l m = (cnt 1 l : Nat) by omega, show e2 + both l m = (cnt 1 m : Nat) by omega]
  · rw [if_neg (by rw [decide_eq_true_iff]; exact fun z => h ((stk_two W H l V G m).mp z)), if_neg h]
theorem within_i {l : List Int} (hl : l.length ≤ 1048576) (m : Int) : impl_within.f l m = some (decide (All m l)) := by
  unfold impl_within.f
  rw [if_pos (by omega)]; simp only [Option.some.injEq]
  rw [Bool.eq_iff_iff, List.all_eq_true, decide_eq_true_iff]
  exact ⟨fun h v hv => of_decide_eq_true (h v hv), fun h v hv => decide_eq_true (h v hv)⟩
theorem size_i (W H : Int) : impl_sized.f W H = some (decide (Sz W H)) := by
  unfold impl_sized.f
  by_cases h : 1 ≤ W ∧ W ≤ 64 ∧ 1 ≤ H ∧ H ≤ 64
  · have := mul_bd (c := 64) (d := 64) (show 0 ≤ W by omega) h.2.1 (show 0 ≤ H by omega) h.2.2.2
    rw [if_pos (by omega), if_pos (by omega), if_pos (by omega), if_pos (by omega), w64 (by omega) (by omega)]
    exact dec_dd (by unfold Sz; omega)
  · repeat' split
    all_goals first | exact dec_ff (by unfold Sz; omega) | (exfalso; omega)
theorem pict_i {W H : Int} {l : List Int} (hl : l.length ≤ 1048576) : impl_IsPicture.f W H l = some (decide (Up W H l 255)) := by
  unfold impl_IsPicture.f
  rw [size_i, Option.bind_some]
  by_cases h : Sz W H
  · have := h.area
    rw [if_pos (decide_eq_true h), w64 (by omega) (by omega), within_i hl]
    by_cases e : (l.length : Int) = W * H
    · rw [if_pos e]; exact dec_dd ⟨fun x => ⟨h, e, x⟩, fun x => x.2.2⟩
    · rw [if_neg e]; exact dec_ff (fun x => e x.2.1)
  · rw [if_neg (by rw [decide_eq_true_iff]; exact h)]; exact dec_ff (fun x => h x.1)
theorem plate_i {W H : Int} {l : List Int} (hl : l.length ≤ 1048576) : impl_IsPlate.f W H l = some (decide (Up W H l 1)) := by
  unfold impl_IsPlate.f
  rw [pict_i hl, Option.bind_some, within_i hl]
  by_cases h : Up W H l 255
  · rw [if_pos (decide_eq_true h)]; exact dec_dd ⟨fun x => ⟨h.1, h.2.1, x⟩, fun x => x.2.2⟩
  · rw [if_neg (by rw [decide_eq_true_iff]; exact h)]; exact dec_ff (fun x => h ⟨x.1, x.2.1, fun v hv => ⟨(x.2.2 v hv).1, by have := (x.2.2 v hv).2; omega⟩⟩)
theorem alike_i (a b c d : Int) {l m : List Int} (hl : l.length ≤ 1048576) (hm : m.length ≤ 1048576) : impl_alike.f a b l c d m = some (decide ((Up a b l 255 ∧ Up c d m 255) ∧ a = c ∧ b = d)) := by
  unfold impl_alike.f
  rw [pict_i hl, Option.bind_some, pict_i hm, Option.bind_some]
  by_cases h : Up a b l 255
  · rw [if_pos (decide_eq_true h)]
    by_cases h2 : Up c d m 255
    · rw [if_pos (decide_eq_true h2)]
      by_cases h3 : a = c
      · rw [if_pos h3]
        by_cases h4 : b = d
        · rw [decide_eq_true (show (Up a b l 255 ∧ Up c d m 255) ∧ a = c ∧ b = d from ⟨⟨h, h2⟩, h3, h4⟩), beq_iff_eq.mpr h4]
        · rw [beq_eq_false_iff_ne.mpr h4]; exact dec_ff (fun x => h4 x.2.2)
      · rw [if_neg h3]; exact dec_ff (fun x => h3 x.2.1)
    · rw [if_neg (by rw [decide_eq_true_iff]; exact h2)]; exact dec_ff (fun x => h2 x.1.2)
  · rw [if_neg (by rw [decide_eq_true_iff]; exact h)]; exact dec_ff (fun x => h x.1.1)
theorem suml_i {l : List Int} (hl : l.length ≤ 1048576) (hA : All 1 l) (d : Nat) : ∀ (k : Nat) (s j : Int), 0 ≤ j → j ≤ l.length → 0 ≤ s → s ≤ j → (l.length : Int) - j = d → d < k → impl_SumInk.l0 k s l l.length j = some (s + cnt 1 (l.drop j.toNat)) := by
  induction d with
  | zero =>
    intro k s j j0 j1 s0 s1 hd hk
    obtain ⟨k, rfl⟩ : ∃ m, k = m + 1 := ⟨k - 1, by omega⟩
    rw [impl_SumInk.l0, if_neg (by omega), drop_end l (by omega)]; simp [cnt]
  | succ d ih =>
    intro k s j j0 j1 s0 s1 hd hk
    obtain ⟨k, rfl⟩ : ∃ m, k = m + 1 := ⟨k - 1, by omega⟩
    have ha : 0 ≤ at_ l j ∧ at_ l j ≤ 1 := hA _ (at_mem j0 (by omega))
    rw [impl_SumInk.l0, if_pos (by omega), if_pos j0, if_pos (by omega), drop_at l j0 (by omega), rd_at, w64 (x := s + _) (by omega) (by omega), w64 (x := j + 1) (by omega) (by omega), ih k _ (j + 1) (by omega) (by omega) (by omega) (by omega) (by omega) (by omega), cnt]
    split <;> (simp only [Option.some.injEq]; omega)
theorem sum_i {W H : Int} {l : List Int} (h : Up W H l 1) {k : Nat} (hk : 1100000 ≤ k) : impl_SumInk.f k W H l = some ((cnt 1 l : Nat) : Int) := by
  have := h.1.area; have := h.2.1
  unfold impl_SumInk.f
  rw [pict_i (by omega), Option.bind_some, if_pos (decide_eq_true ⟨h.1, h.2.1, fun v hv => ⟨(h.2.2 v hv).1, by have := (h.2.2 v hv).2; omega⟩⟩), suml_i (by omega) h.2.2 l.length k 0 0 (by omega) (by omega) (by omega) (by omega) (by omega) (by omega), Int.zero_add]; rfl
theorem sharesl_i {W H V G : Int} {l m : List Int} (h : two W H l V G m) (d : Nat) : ∀ (k : Nat) (s j : Int), 0 ≤ j → (l.length : Int) - j = d → 0 ≤ s → s ≤ j → d + 1200000 < k →
    impl_SharesMultiply.l0 k s l l.length j W H l V G m = some (wrap64 ((s + both (l.drop j.toNat) (m.drop j.toNat)) * l.length) == wrap64 (((cnt 1 l : Nat) : Int) * ((cnt 1 m : Nat) : Int))) := by
  have hln := h.1.1.2.1; have hmn := h.1.2.2.1; have ha := h.1.1.1.area
  have hmn2 : (m.length : Int) = W * H := by rw [hmn, h.2.1, h.2.2]
  induction d with
  | zero =>
    intro k s j j0 hd s0 s1 hk
    obtain ⟨k, rfl⟩ : ∃ m, k = m + 1 := ⟨k - 1, by omega⟩
    rw [impl_SharesMultiply.l0, if_neg (by omega), sum_i h.1.1 (by omega), Option.bind_some, sum_i h.1.2 (by omega), Option.bind_some, drop_end l (by omega), show both [] (m.drop j.toNat) = 0 by simp [both], Int.add_zero]
  | succ d ih =>
    intro k s j j0 hd s0 s1 hk
    obtain ⟨k, rfl⟩ : ∃ m, k = m + 1 := ⟨k - 1, by omega⟩
    have h1 : 0 ≤ at_ l j ∧ at_ l j ≤ 1 := h.1.1.2.2 _ (at_mem j0 (by omega))
    have h2 : 0 ≤ at_ m j ∧ at_ m j ≤ 1 := h.1.2.2.2 _ (at_mem j0 (by omega))
    have q := mul_bd (c := 1) (d := 1) h1.1 h1.2 h2.1 h2.2
    rw [impl_SharesMultiply.l0, if_pos (by omega), if_pos j0, if_pos (by omega), if_pos (by omega), rd_at, rd_at, w64 (x := at_ l j * at_ m j) (by omega) (by omega), w64 (x := s + _) (by omega) (by omega), w64 (x := j + 1) (by omega) (by omega), ih k _ (j + 1) (by omega) (by omega) (by omega) (by omega) (by omega), drop_at l j0 (by omega), drop_at m j0 (by omega), both, Int.add_assoc]
theorem shares_i {W H V G : Int} {l m : List Int} (hl : l.length ≤ 1048576) (hm : m.length ≤ 1048576) {k : Nat} (hk : 1300000 ≤ k) : impl_SharesMultiply.f k W H l V G m = some (sharesM W H l V G m) := by
  obtain ⟨k, rfl⟩ : ∃ m, k = m + 1 := ⟨k - 1, by omega⟩
  unfold impl_SharesMultiply.f sharesM
  rw [alike_i W H V G hl hm, Option.bind_some]
  by_cases h : two W H l V G m
  · have hln := h.1.1.2.1; have ha := h.1.1.1.area
    rw [if_pos (decide_eq_true ⟨⟨up_wide h.1.1, up_wide h.1.2⟩, h.2.1.symm, h.2.2.symm⟩), plate_i hl, Option.bind_some, if_pos (decide_eq_true h.1.1), plate_i hm, Option.bind_some, decide_eq_true h.1.2, impl_SharesMultiply.j0, if_neg (by decide), if_pos h,
      sharesl_i h l.length k 0 0 (by omega) (by omega) (by omega) (by omega) (by omega), Int.zero_add]; rfl
  · rw [if_neg h]
    by_cases h1 : (Up W H l 255 ∧ Up V G m 255) ∧ W = V ∧ H = G
    · rw [if_pos (decide_eq_true h1), plate_i hl, Option.bind_some]
      by_cases h2 : Up W H l 1
      · rw [if_pos (decide_eq_true h2), plate_i hm, Option.bind_some, impl_SharesMultiply.j0, if_pos]
        by_cases h3 : Up V G m 1
        · exact absurd ⟨⟨h2, h3⟩, h1.2.1.symm, h1.2.2.symm⟩ h
        · rw [decide_eq_false h3]; rfl
      · rw [if_neg (by rw [decide_eq_true_iff]; exact h2), impl_SharesMultiply.j0, if_pos rfl]
    · rw [if_neg (by rw [decide_eq_true_iff]; exact h1), impl_SharesMultiply.j0, if_pos rfl]
theorem pure_FnExactSharesMultiply (W H : Int) (l : List Int) (V G : Int) (m : List Int) (hl : l.length ≤ 140737488351232) (hm : m.length ≤ 140737488351232) : ∃ k, laws_FnExactSharesMultiply.f k W H l V G m = some true := by
  refine ⟨2000000, ?_⟩
  unfold laws_FnExactSharesMultiply.f
  rw [sz_p W H l 1048576 (by omega) (by omega) hl, Option.bind_some]
  by_cases h : (l.length : Int) ≤ 1048576
  · rw [if_pos h, if_neg (by omega), sz_p V G m _ (by omega) (by omega) hm, Option.bind_some]
    by_cases h2 : (m.length : Int) ≤ 1048576 - l.length
    · rw [if_pos h2, if_neg (by omega)]
      have hl' : l.length ≤ 1048576 := by omega
      have hm' : m.length ≤ 1048576 := by omega
      simp (disch := first | assumption | omega) only [top, Option.bind_some, shares_s, shares_i, eqp, bne_self_eq_false, Bool.false_eq_true, if_false, if_true]
    · rw [if_neg h2]; rfl
  · rw [if_neg h]; rfl

end Go.Proofs.Ytjonhedjfablbaa.PFnExactSharesMultiply
