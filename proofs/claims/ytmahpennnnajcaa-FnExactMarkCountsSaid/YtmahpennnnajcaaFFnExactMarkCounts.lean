/- What the functions that laws.FnExactMarkCounts reaches compute, and that the law is true: over numbers alone. -/
import Derived.Test.YtmahpennnnajcaaPFnExactMarkCountsx
import Derived.Test.YtmahpennnnajcaaPic2
import Derived.Laws.Strings
namespace Go.Proofs.Ytmahpennnnajcaa.PFnExactMarkCounts
open Go.RowKit Go.Proofs.YtmahpennnnajcaaW.PrintWords Go.Proofs.YtmahpennnnajcaaW.PrintLast Go.Proofs.YtmahpennnnajcaaW.PrintMore
set_option linter.unusedVariables false
set_option linter.unusedSimpArgs false
set_option linter.unusedSimpArgs false
open Pic
theorem w64 {x : Int} (h1 : -9223372036854775808 ≤ x) (h2 : x ≤ 9223372036854775807) : wrap64 x = x := by unfold wrap64; omega
theorem rd_at (l : List Int) (i : Int) : rd l i = at_ l i := rfl
theorem tmod_pos {n x : Int} (h : 0 ≤ x) : Int.tmod x n = x % n := Int.tmod_eq_emod_of_nonneg h
theorem tdiv_pos {n x : Int} (h : 0 ≤ x) : Int.tdiv x n = x / n := Int.tdiv_eq_ediv_of_nonneg h
theorem dec_ff {p : Prop} [Decidable p] (h : ¬ p) : some false = some (decide p) := by rw [decide_eq_false h]
theorem dec_dd {p q : Prop} [Decidable p] [Decidable q] (h : p ↔ q) : some (decide p) = some (decide q) := by rw [decide_eq_decide.mpr h]
theorem mn_eq (a b : Int) : mn a b = if b < a then b else a := rfl
theorem up_wide {W H : Int} {l : List Int} (h : Up W H l 1) : Up W H l 255 := ⟨h.1, h.2.1, fun v hv => ⟨(h.2.2 v hv).1, by have := (h.2.2 v hv).2; omega⟩⟩
theorem mk_neg (n : Nat) : ¬ ((1 : Int) + n < 0) := by omega
theorem drop_p (l : List S28) {i : Int} (h0 : 0 ≤ i) (h : i < l.length) : l.drop i.toNat = rd_T28 l i :: l.drop (i + 1).toNat := by
  have hj : i.toNat < l.length := by omega
  have e : rd_T28 l i = l[i.toNat] := by unfold rd_T28; rw [List.getD_eq_getElem?_getD, List.getElem?_eq_getElem hj, Option.getD_some]
  rw [List.drop_eq_getElem_cons hj, e, show (i + 1).toNat = i.toNat + 1 by omega]
theorem mem_p {l : List S28} {i : Int} (h0 : 0 ≤ i) (h : i < l.length) : rd_T28 l i ∈ l := by
  have : rd_T28 l i ∈ l.drop i.toNat := by rw [drop_p l h0 h]; exact List.mem_cons_self
  exact List.mem_of_mem_drop this
theorem drop_l (l : List S24) {i : Int} (h0 : 0 ≤ i) (h : i < l.length) : l.drop i.toNat = rd_T24 l i :: l.drop (i + 1).toNat := by
  have hj : i.toNat < l.length := by omega
  have e : rd_T24 l i = l[i.toNat] := by unfold rd_T24; rw [List.getD_eq_getElem?_getD, List.getElem?_eq_getElem hj, Option.getD_some]
  rw [List.drop_eq_getElem_cons hj, e, show (i + 1).toNat = i.toNat + 1 by omega]
theorem eqs_l (d : Nat) : ∀ (k : Nat) (l : List Int) (i : Int), 0 ≤ i → l.length ≤ 1048576 → l.length - i.toNat ≤ d → d < k → laws_eqIntS.l0 k l l i = some true := by
  induction d with
  | zero =>
    intro k l i h0 hl hd hk
    obtain ⟨k, rfl⟩ : ∃ m, k = m + 1 := ⟨k - 1, by omega⟩
    rw [laws_eqIntS.l0, if_neg (by omega)]
  | succ d ih =>
    intro k l i h0 hl hd hk
    obtain ⟨k, rfl⟩ : ∃ m, k = m + 1 := ⟨k - 1, by omega⟩
    rw [laws_eqIntS.l0]
    by_cases h : i < (l.length : Int)
    · rw [if_pos h, if_pos h0, if_pos h, if_pos rfl, w64 (by omega) (by omega)]; exact ih k l (i + 1) (by omega) hl (by omega) (by omega)
    · rw [if_neg h]
theorem eqs {l : List Int} (hl : l.length ≤ 1048576) {k : Nat} (hk : 1100000 ≤ k) : laws_eqIntS.f k l l = some true := by
  unfold laws_eqIntS.f; rw [if_pos rfl, eqs_l l.length k l 0 (by omega) hl (by omega) (by omega)]
theorem eqp (a b : Int) {l : List Int} (hl : l.length ≤ 1048576) {k : Nat} (hk : 1100000 ≤ k) : laws_eqPicture.f k a b l a b l = some true := by
  unfold laws_eqPicture.f; rw [if_pos rfl, if_pos rfl, eqs hl hk]; rfl
theorem eqps_l {l : List S28} (hl : l.length ≤ 1048576) (hq : ∀ x ∈ l, x.f2.length ≤ 1048576) (d : Nat) : ∀ (k : Nat) (i : Int), 0 ≤ i → i ≤ l.length → (l.length : Int) - i = d → d + 1100000 < k → laws_eqPictureS.l0 k l l i = some true := by
  induction d with
  | zero =>
    intro k i i0 i1 hd hk
    obtain ⟨k, rfl⟩ : ∃ m, k = m + 1 := ⟨k - 1, by omega⟩
    rw [laws_eqPictureS.l0, if_neg (by omega)]
  | succ d ih =>
    intro k i i0 i1 hd hk
    obtain ⟨k, rfl⟩ : ∃ m, k = m + 1 := ⟨k - 1, by omega⟩
    have hi : i < l.length := by omega
    rw [laws_eqPictureS.l0, if_pos hi, if_pos i0, if_pos hi, eqp _ _ (hq _ (mem_p i0 hi)) (by omega), Option.bind_some, if_pos rfl, w64 (by omega) (by omega)]
    exact ih k (i + 1) (by omega) (by omega) (by omega) (by omega)
theorem eqps {l : List S28} (hl : l.length ≤ 1048576) (hq : ∀ x ∈ l, x.f2.length ≤ 1048576) {k : Nat} (hk : 2200000 ≤ k) : laws_eqPictureS.f k l l = some true := by
  unfold laws_eqPictureS.f; rw [if_pos rfl, eqps_l hl hq l.length k 0 (by omega) (by omega) (by omega) (by omega)]
theorem marks_l (d : Nat) : ∀ (k : Nat) (l : List Int) (m i : Int), 0 ≤ i → i ≤ l.length → 0 ≤ m → m + d ≤ 1000000000 → l.length ≤ 1048576 → (l.length : Int) - i = d → d < k →
    laws_markIntS.l0 k l m i = some (m + d, l.take i.toNat ++ marks m d) := by
  induction d with
  | zero =>
    intro k l m i h0 h1 m0 m1 hl hd hk
    obtain ⟨k, rfl⟩ : ∃ m, k = m + 1 := ⟨k - 1, by omega⟩
    rw [laws_markIntS.l0, if_neg (by omega)]
    simp only [marks, List.append_nil, List.take_of_length_le (show l.length ≤ i.toNat by omega)]
    rw [show m + ((0 : Nat) : Int) = m by omega]
  | succ d ih =>
    intro k l m i h0 h1 m0 m1 hl hd hk
    obtain ⟨k, rfl⟩ : ∃ m, k = m + 1 := ⟨k - 1, by omega⟩
    rw [laws_markIntS.l0, if_pos (by omega), if_pos h0, w64 (by omega) (by omega), w64 (by omega) (by omega), ih k _ (m + 1) (i + 1) (by omega) (by rw [List.length_set]; omega) (by omega) (by omega) (by rw [List.length_set]; omega) (by rw [List.length_set]; omega) (by omega)]
    have e : (l.set i.toNat m).take (i + 1).toNat = l.take i.toNat ++ [m] := by
      rw [show (i + 1).toNat = i.toNat + 1 by omega, List.take_succ_eq_append_getElem (by rw [List.length_set]; omega), List.getElem_set]
      rw [if_pos rfl, List.take_set_of_le (Nat.le_refl _)]
    rw [e]
    simp only [marks, List.append_assoc, List.cons_append, List.nil_append]
    rw [show m + 1 + (d : Int) = m + ((d + 1 : Nat) : Int) by omega]
theorem mark_s {l : List Int} {m : Int} (m0 : 0 ≤ m) (m1 : m ≤ 100000000) (hl : l.length ≤ 1048576) {k : Nat} (hk : 1100000 ≤ k) : laws_markIntS.f k l m = some (m + l.length, marks m l.length) := by
  unfold laws_markIntS.f; rw [marks_l l.length k l m 0 (by omega) (by omega) m0 (by omega) hl (by omega) (by omega)]; rfl
/-- how far the marks of a row of pictures go -/
def mkn : List S28 → Int
  | [] => 0
  | x :: r => 2 + x.f2.length + mkn r
/-- the row, marked from m on -/
def mkp : List S28 → Int → List S28
  | [], _ => []
  | x :: r, m => ⟨m, m + 1, marks (m + 2) x.f2.length⟩ :: mkp r (m + 2 + x.f2.length)
theorem mkn_pos : ∀ l : List S28, 0 ≤ mkn l := by
  intro l
  induction l with
  | nil => exact Int.le_refl _
  | cons x r ih => rw [mkn]; omega
theorem rd_mid (pre r : List S28) (x : S28) : rd_T28 (pre ++ x :: r) (pre.length : Int) = x := by
  unfold rd_T28; rw [Int.toNat_natCast, List.getD_eq_getElem?_getD, List.getElem?_append_right (Nat.le_refl _), Nat.sub_self]; rfl
theorem set_mid (pre r : List S28) (x y : S28) : (pre ++ x :: r).set ((pre.length : Int) : Int).toNat y = pre ++ y :: r := by
  rw [Int.toNat_natCast, List.set_append_right _ _ (Nat.le_refl _), Nat.sub_self]; rfl
theorem markps_l : ∀ (rest pre : List S28) (k : Nat) (m : Int), (∀ x ∈ rest, x.f2.length ≤ 1048576) → pre.length + rest.length ≤ 1048576 → 0 ≤ m → m + mkn rest ≤ 50000000 → rest.length + 1100001 ≤ k →
    laws_markPictureS.l0 k (pre ++ rest) m pre.length = some (m + mkn rest, pre ++ mkp rest m) := by
  intro rest
  induction rest with
  | nil =>
    intro pre k m hq hl m0 hm hk
    obtain ⟨k, rfl⟩ : ∃ m, k = m + 1 := ⟨k - 1, by omega⟩
    rw [laws_markPictureS.l0, if_neg (by simp), mkn, mkp, Int.add_zero]
  | cons x r ih =>
    intro pre k m hq hl m0 hm hk
    have hx := hq x List.mem_cons_self
    have hr := mkn_pos r
    rw [List.length_cons] at hk hl
    rw [mkn] at hm
    obtain ⟨k, rfl⟩ : ∃ m, k = m + 1 := ⟨k - 1, by omega⟩
    rw [laws_markPictureS.l0, if_pos (by rw [List.length_append, List.length_cons]; omega), if_pos (by omega), rd_mid, set_mid, Option.bind_some]
    simp only [rd_mid, set_mid, Option.bind_some]
    rw [w64 (x := m + 1) (by omega) (by omega), w64 (x := m + 1 + 1) (by omega) (by omega), mark_s (by omega) (by omega) hx (by omega), Option.bind_some]
    simp only
    rw [w64 (x := (pre.length : Int) + 1) (by omega) (by omega)]
    have := ih (pre ++ [⟨m, m + 1, marks (m + 1 + 1) x.f2.length⟩]) k (m + 1 + 1 + x.f2.length) (fun y hy => hq y (List.mem_cons_of_mem _ hy)) (by rw [List.length_append]; simp only [List.length_cons, List.length_nil]; omega) (by omega) (by omega) (by omega)
    rw [List.append_assoc, List.length_append] at this
    simp only [List.length_cons, List.length_nil, List.cons_append, List.nil_append] at this
    rw [show ((pre.length + (0 + 1) : Nat) : Int) = (pre.length : Int) + 1 by omega] at this
    rw [this, mkn, mkp, show m + 1 + 1 = m + 2 by omega, show m + 2 + (x.f2.length : Int) + mkn r = m + (2 + (x.f2.length : Int) + mkn r) by omega, List.append_assoc]; rfl
theorem markps {l : List S28} {m : Int} (hq : ∀ x ∈ l, x.f2.length ≤ 1048576) (hl : l.length ≤ 1048576) (m0 : 0 ≤ m) (hm : m + mkn l ≤ 50000000) {k : Nat} (hk : 2200000 ≤ k) : laws_markPictureS.f k l m = some (m + mkn l, mkp l m) := by
  unfold laws_markPictureS.f
  exact markps_l l [] k m hq (by simpa using hl) m0 hm (by omega)
theorem sz_s (l : List Int) (m : Int) (hm : 0 ≤ m) (hm2 : m ≤ 1048576) (hl : l.length ≤ 140737488351232) : laws_szIntS.f l m = some (if (l.length : Int) ≤ m then m - l.length else -1) := by
  unfold laws_szIntS.f
  rw [w64 (by omega) (by omega)]
  by_cases h : (l.length : Int) ≤ m
  · rw [if_neg (by omega), if_pos h]
  · rw [if_pos (by omega), if_neg h]
theorem sz_p (a b : Int) (l : List Int) (m : Int) (hm : 0 ≤ m) (hm2 : m ≤ 1048576) (hl : l.length ≤ 140737488351232) : laws_szPicture.f a b l m = some (if (l.length : Int) ≤ m then m - l.length else -1) := by
  unfold laws_szPicture.f
  rw [sz_s l m hm hm2 hl, Option.bind_some]
  by_cases h : (l.length : Int) ≤ m
  · rw [if_pos h, if_neg (by omega)]
  · rw [if_neg h, if_pos (by omega)]
theorem szs_l {l : List S24} (hl : l.length ≤ 1048576) (hq : ∀ x ∈ l, x.f2.length ≤ 140737488351232) (d : Nat) : ∀ (k : Nat) (m i : Int), 0 ≤ i → i ≤ l.length → 0 ≤ m → m ≤ 1048576 → (l.length : Int) - i = d → d < k →
    ∃ r, laws_szPictureS.l0 k l m i = some r ∧ (0 ≤ r → ∀ x ∈ l.drop i.toNat, x.f2.length ≤ 1048576) := by
  induction d with
  | zero =>
    intro k m i i0 i1 m0 m1 hd hk
    obtain ⟨k, rfl⟩ : ∃ m, k = m + 1 := ⟨k - 1, by omega⟩
    refine ⟨m, by rw [laws_szPictureS.l0, if_neg (by omega)], fun _ => ?_⟩
    rw [List.drop_eq_nil_of_le (by omega)]; intro x hx; simp at hx
  | succ d ih =>
    intro k m i i0 i1 m0 m1 hd hk
    obtain ⟨k, rfl⟩ : ∃ m, k = m + 1 := ⟨k - 1, by omega⟩
    have hi : i < l.length := by omega
    have hmem : rd_T24 l i ∈ l := by
      have : rd_T24 l i ∈ l.drop i.toNat := by rw [drop_l l i0 hi]; exact List.mem_cons_self
      exact List.mem_of_mem_drop this
    have hb := hq _ hmem
    rw [laws_szPictureS.l0, if_pos hi, if_pos i0, sz_p _ _ _ m m0 m1 hb, Option.bind_some]
    by_cases hm : ((rd_T24 l i).f2.length : Int) ≤ m
    · rw [if_pos hm, if_neg (by omega), w64 (by omega) (by omega)]
      obtain ⟨r, h1, h2⟩ := ih k (m - (rd_T24 l i).f2.length) (i + 1) (by omega) (by omega) (by omega) (by omega) (by omega) (by omega)
      refine ⟨r, h1, fun hr x hx => ?_⟩
      rw [drop_l l i0 hi] at hx
      rcases List.mem_cons.mp hx with e | e
      · subst e; omega
      · exact h2 hr x e
    · rw [if_neg hm, if_pos (by omega)]
      exact ⟨-1, rfl, fun h => by omega⟩
theorem szs {l : List S24} (hl : l.length ≤ 140737488351232) (hq : ∀ x ∈ l, x.f2.length ≤ 140737488351232) {k : Nat} (hk : 1100000 ≤ k) :
    ∃ r, laws_szPictureS.f k l 1048576 = some r ∧ (0 ≤ r → l.length ≤ 1048576 ∧ ∀ x ∈ l, x.f2.length ≤ 1048576) := by
  unfold laws_szPictureS.f
  rw [w64 (by omega) (by omega)]
  by_cases h : (1048576 : Int) - l.length < 0
  · rw [if_pos h]; exact ⟨-1, rfl, fun h => by omega⟩
  · rw [if_neg h]
    obtain ⟨r, h1, h2⟩ := szs_l (by omega) hq l.length k (1048576 - l.length) 0 (by omega) (by omega) (by omega) (by omega) (by omega) (by omega)
    exact ⟨r, h1, fun hr => ⟨by omega, fun x hx => h2 hr x (by simpa using hx)⟩⟩
theorem l1In (x a b : Int) : spec_l1In.f x a b = some (decide (a ≤ x ∧ x ≤ b)) := by
  unfold spec_l1In.f
  split
  all_goals first | exact dec_dd (by omega) | exact dec_ff (by omega)
theorem size_s (W H : Int) : spec_l1Size.f W H = some (decide (Sz W H)) := by
  unfold spec_l1Size.f
  simp only [l1In, Option.bind_some]
  by_cases hW : 1 ≤ W ∧ W ≤ 64
  · by_cases hH : 1 ≤ H ∧ H ≤ 64
    · have := mul_bd (c := 64) (d := 64) (show 0 ≤ W by omega) hW.2 (show 0 ≤ H by omega) hH.2
      rw [if_pos (decide_eq_true hW), if_pos (decide_eq_true hH), w64 (by omega) (by omega)]
      exact dec_dd (by unfold Sz; omega)
    · rw [if_pos (decide_eq_true hW), if_neg (by rw [decide_eq_true_iff]; exact hH)]; exact dec_ff (fun h => hH ⟨h.2.2.1, h.2.2.2.1⟩)
  · rw [if_neg (by rw [decide_eq_true_iff]; exact hW)]; exact dec_ff (fun h => hW ⟨h.1, h.2.1⟩)
theorem up_l (m : Int) (d : Nat) : ∀ (k : Nat) (l : List Int) (i : Int), 0 ≤ i → l.length ≤ 1048576 → i ≤ l.length → (l.length : Int) - i = d → d < k → spec_l1Up.l0 k m l l.length i = some (decide (All m (l.drop i.toNat))) := by
  induction d with
  | zero =>
    intro k l i h0 hl h1 hd hk
    obtain ⟨k, rfl⟩ : ∃ m, k = m + 1 := ⟨k - 1, by omega⟩
    rw [spec_l1Up.l0, if_neg (by omega), List.drop_eq_nil_of_le (by omega)]
    rw [decide_eq_true (show All m [] from fun v h => by simp at h)]
  | succ d ih =>
    intro k l i h0 hl h1 hd hk
    obtain ⟨k, rfl⟩ : ∃ m, k = m + 1 := ⟨k - 1, by omega⟩
    rw [spec_l1Up.l0, if_pos (by omega), if_pos h0, if_pos (by omega), l1In, rd_at, Option.bind_some, drop_at l h0 (by omega), w64 (by omega) (by omega)]
    by_cases h : 0 ≤ at_ l i ∧ at_ l i ≤ m
    · rw [if_pos (decide_eq_true h), ih k l (i + 1) (by omega) hl (by omega) (by omega) (by omega)]
      exact dec_dd (by rw [All.cons]; exact ⟨fun x => ⟨h, x⟩, fun x => x.2⟩)
    · rw [if_neg (by rw [decide_eq_true_iff]; exact h)]; exact dec_ff (fun x => h (All.cons.mp x).1)
theorem up_s {W H : Int} {l : List Int} (hl : l.length ≤ 1048576) (m : Int) {k : Nat} (hk : 1100000 ≤ k) : spec_l1Up.f k W H l m = some (decide (Up W H l m)) := by
  obtain ⟨k, rfl⟩ : ∃ m, k = m + 1 := ⟨k - 1, by omega⟩
  unfold spec_l1Up.f
  rw [size_s, Option.bind_some]
  by_cases h : Sz W H
  · have := h.area
    rw [if_pos (decide_eq_true h), w64 (by omega) (by omega), spec_l1Up.j0]
    by_cases e : (l.length : Int) = W * H
    · rw [if_neg (by rw [bne_iff_ne]; exact fun x => x e), up_l m l.length k l 0 (by omega) hl (by omega) (by omega) (by omega)]
      exact dec_dd ⟨fun x => ⟨h, e, x⟩, fun x => x.2.2⟩
    · rw [if_pos (by rw [bne_iff_ne]; exact e)]; exact dec_ff (fun x => e x.2.1)
  · rw [if_neg (by rw [decide_eq_true_iff]; exact h), spec_l1Up.j0, if_pos rfl]; exact dec_ff (fun x => h x.1)
theorem plate_s {W H : Int} {l : List Int} (hl : l.length ≤ 1048576) {k : Nat} (hk : 1100000 ≤ k) : spec_IsPlate.f k W H l = some (decide (Up W H l 1)) := by
  unfold spec_IsPlate.f; rw [up_s hl 1 hk]; rfl
/-- every one a plate of the first one's size -/
def likeF (a b : Int) (l : List S28) : Prop := ∀ x ∈ l, Up x.f0 x.f1 x.f2 1 ∧ x.f0 = a ∧ x.f1 = b
instance (a b : Int) (l : List S28) : Decidable (likeF a b l) := inferInstanceAs (Decidable (∀ x ∈ l, _))
def Stk (l : List S28) : Prop := (1 ≤ l.length ∧ l.length ≤ 4) ∧ likeF (rd_T28 l 0).f0 (rd_T28 l 0).f1 l
instance (l : List S28) : Decidable (Stk l) := inferInstanceAs (Decidable (_ ∧ _))
theorem likeF_cons {a b : Int} {x : S28} {l : List S28} : likeF a b (x :: l) ↔ (Up x.f0 x.f1 x.f2 1 ∧ x.f0 = a ∧ x.f1 = b) ∧ likeF a b l := by simp [likeF]
theorem stackl_s {l : List S28} (hl : l.length ≤ 4) (hq : ∀ x ∈ l, x.f2.length ≤ 1048576) (d : Nat) : ∀ (k : Nat) (i : Int), 0 ≤ i → i ≤ l.length → (l.length : Int) - i = d → d + 1100000 < k →
    spec_IsStack.l0 k l l l.length i = some (decide (likeF (rd_T28 l 0).f0 (rd_T28 l 0).f1 (l.drop i.toNat))) := by
  induction d with
  | zero =>
    intro k i i0 i1 hd hk
    obtain ⟨k, rfl⟩ : ∃ m, k = m + 1 := ⟨k - 1, by omega⟩
    rw [spec_IsStack.l0, if_neg (by omega), List.drop_eq_nil_of_le (by omega), decide_eq_true (show likeF _ _ [] from fun x hx => by simp at hx)]
  | succ d ih =>
    intro k i i0 i1 hd hk
    obtain ⟨k, rfl⟩ : ∃ m, k = m + 1 := ⟨k - 1, by omega⟩
    have hi : i < l.length := by omega
    rw [spec_IsStack.l0, if_pos hi, if_pos i0, if_pos hi, plate_s (hq _ (mem_p i0 hi)) (by omega), Option.bind_some, drop_p l i0 hi, w64 (by omega) (by omega), ih k (i + 1) (by omega) (by omega) (by omega) (by omega)]
    by_cases h : Up (rd_T28 l i).f0 (rd_T28 l i).f1 (rd_T28 l i).f2 1
    · rw [if_pos (decide_eq_true h), if_pos (by omega)]
      by_cases h1 : (rd_T28 l i).f0 = (rd_T28 l 0).f0
      · rw [if_pos h1]
        by_cases h2 : (rd_T28 l i).f1 = (rd_T28 l 0).f1
        · rw [if_pos h2]; exact dec_dd (by rw [likeF_cons]; exact ⟨fun x => ⟨⟨h, h1, h2⟩, x⟩, fun x => x.2⟩)
        · rw [if_neg h2]; exact dec_ff (by rw [likeF_cons]; exact fun x => h2 x.1.2.2)
      · rw [if_neg h1]; exact dec_ff (by rw [likeF_cons]; exact fun x => h1 x.1.2.1)
    · rw [if_neg (by rw [decide_eq_true_iff]; exact h)]; exact dec_ff (by rw [likeF_cons]; exact fun x => h x.1.1)
theorem stack_s {l : List S28} (hl : l.length ≤ 1048576) (hq : ∀ x ∈ l, x.f2.length ≤ 1048576) {k : Nat} (hk : 1200000 ≤ k) : spec_IsStack.f k l = some (decide (Stk l)) := by
  unfold spec_IsStack.f
  rw [l1In, Option.bind_some]
  by_cases h : 1 ≤ (l.length : Int) ∧ (l.length : Int) ≤ 4
  · rw [if_pos (decide_eq_true h), stackl_s (by omega) hq l.length k 0 (by omega) (by omega) (by omega) (by omega)]
    exact dec_dd (by unfold Stk; exact ⟨fun x => ⟨by omega, x⟩, fun x => x.2⟩)
  · rw [if_neg (by rw [decide_eq_true_iff]; exact h)]; exact dec_ff (fun x => h (by have := x.1; omega))
theorem stk_up {l : List S28} (h : Stk l) : ∀ x ∈ l, Up (rd_T28 l 0).f0 (rd_T28 l 0).f1 x.f2 1 := by
  intro x hx
  obtain ⟨h1, h2, h3⟩ := h.2 x hx
  rw [← h2, ← h3]; exact h1
theorem stk_sz {l : List S28} (h : Stk l) : Sz (rd_T28 l 0).f0 (rd_T28 l 0).f1 := by
  have := h.1
  exact (stk_up h _ (mem_p (l := l) (i := 0) (by omega) (by omega))).1
theorem shl_bit {b j : Int} (hb : In 1 b) (h0 : 0 ≤ j) (h1 : j ≤ 3) : shl .i64 b j = b * p2 j := by
  unfold In at hb
  unfold shl
  have hj : j = 0 ∨ j = 1 ∨ j = 2 ∨ j = 3 := by omega
  rcases hj with rfl | rfl | rfl | rfl
  · show IntKind.i64.wrap (b * 1) = b * 1
    rw [i64_w, w64 (by omega) (by omega)]
  · show IntKind.i64.wrap (b * 2) = b * 2
    rw [i64_w, w64 (by omega) (by omega)]
  · show IntKind.i64.wrap (b * 4) = b * 4
    rw [i64_w, w64 (by omega) (by omega)]
  · show IntKind.i64.wrap (b * 8) = b * 8
    rw [i64_w, w64 (by omega) (by omega)]
def mkL (i : Int) : List S28 → Int → Int → Int
  | [], _, s => s
  | x :: r, j, s => mkL i r (j + 1) (wrap64 (s + shl .i64 (at_ x.f2 i) j))
theorem mkL_bd (i : Int) : ∀ (r : List S28) (j s : Int), (∀ x ∈ r, In 1 (at_ x.f2 i)) → 0 ≤ j → j + r.length ≤ 4 → 0 ≤ s → s < p2 j → 0 ≤ mkL i r j s ∧ mkL i r j s < p2 (j + r.length) := by
  intro r
  induction r with
  | nil => intro j s _ _ _ s0 s1; simp [mkL]; exact ⟨s0, s1⟩
  | cons x r ih =>
    intro j s hx j0 j1 s0 s1
    rw [List.length_cons] at j1
    have hb : 0 ≤ at_ x.f2 i ∧ at_ x.f2 i ≤ 1 := hx x List.mem_cons_self
    have hp := p2_bd j
    have hst := p2_step j0 (by omega)
    rw [mkL, shl_bit hb j0 (by omega)]
    have e : at_ x.f2 i * p2 j = 0 ∨ at_ x.f2 i * p2 j = p2 j := by
      have : at_ x.f2 i = 0 ∨ at_ x.f2 i = 1 := by omega
      rcases this with h | h <;> rw [h] <;> simp
    rw [w64 (by omega) (by omega)]
    have := ih (j + 1) (s + at_ x.f2 i * p2 j) (fun y hy => hx y (List.mem_cons_of_mem _ hy)) (by omega) (by omega) (by omega) (by omega)
    rw [List.length_cons, show j + ((r.length + 1 : Nat) : Int) = j + 1 + r.length by omega]; exact this
theorem mkL_stk {l : List S28} (h : Stk l) {i : Int} (i0 : 0 ≤ i) (i1 : i < (rd_T28 l 0).f0 * (rd_T28 l 0).f1) : 0 ≤ mkL i l 0 0 ∧ mkL i l 0 0 < p2 l.length := by
  have h1 := h.1
  have := mkL_bd i l 0 0 (fun x hx => by
    have hu := stk_up h x hx; have := hu.2.1
    exact hu.2.2 _ (at_mem i0 (by omega))) (by omega) (by omega) (by omega) (by decide)
  rw [Int.zero_add] at this; exact this
theorem shl_one {n : Nat} (h : 1 ≤ n ∧ n ≤ 4) : shl .i64 1 (n : Int) = p2 n := by
  have : n = 1 ∨ n = 2 ∨ n = 3 ∨ n = 4 := by omega
  rcases this with rfl | rfl | rfl | rfl <;> rfl
theorem markl_s {l : List S28} (hl : l.length ≤ 1048576) {i : Int} (i0 : 0 ≤ i) (hi : ∀ x ∈ l, i < (x.f2.length : Int)) (d : Nat) : ∀ (k : Nat) (s j : Int), 0 ≤ j → j ≤ l.length → (l.length : Int) - j = d → d < k →
    spec_l7Mark.l0 k i s l l.length j = some (mkL i (l.drop j.toNat) j s) := by
  induction d with
  | zero =>
    intro k s j j0 j1 hd hk
    obtain ⟨k, rfl⟩ : ∃ m, k = m + 1 := ⟨k - 1, by omega⟩
    rw [spec_l7Mark.l0, if_neg (by omega), List.drop_eq_nil_of_le (by omega)]; rfl
  | succ d ih =>
    intro k s j j0 j1 hd hk
    obtain ⟨k, rfl⟩ : ∃ m, k = m + 1 := ⟨k - 1, by omega⟩
    have hj : j < l.length := by omega
    rw [spec_l7Mark.l0, if_pos hj, if_pos j0, if_pos hj, if_pos i0, if_pos (hi _ (mem_p j0 hj)), w64 (x := j + 1) (by omega) (by omega), ih k _ (j + 1) (by omega) (by omega) (by omega) (by omega), drop_p l j0 hj, mkL, rd_at]
theorem mk7_s {l : List S28} (h : Stk l) {i : Int} (i0 : 0 ≤ i) (i1 : i < (rd_T28 l 0).f0 * (rd_T28 l 0).f1) {k : Nat} (hk : 10 ≤ k) : spec_l7Mark.f k l i = some (mkL i l 0 0) := by
  unfold spec_l7Mark.f
  have := h.1
  rw [markl_s (by omega) i0 (fun x hx => by have := (stk_up h x hx).2.1; omega) l.length k 0 0 (by omega) (by omega) (by omega) (by omega)]; rfl
def cntL (l : List S28) : Nat → Int → List Int → List Int
  | 0, _, c => c
  | d + 1, i, c => cntL l d (i + 1) (c.set (mkL i l 0 0).toNat (wrap64 (at_ c (mkL i l 0 0) + 1)))
theorem cntL_len (l : List S28) : ∀ (d : Nat) (i : Int) (c : List Int), (cntL l d i c).length = c.length := by
  intro d
  induction d with
  | zero => intro i c; rfl
  | succ d ih => intro i c; rw [cntL, ih, List.length_set]
def countsOf (l : List S28) : List Int := if Stk l then cntL l (rd_T28 l 0).f2.length 0 (List.replicate (p2 l.length).toNat 0) else []
theorem countsOf_len {l : List S28} (h : Stk l) : ((countsOf l).length : Int) = p2 l.length := by
  have := p2_bd l.length
  unfold countsOf; rw [if_pos h, cntL_len, List.length_replicate]; omega
theorem countsl_s {l : List S28} (h : Stk l) (n : Nat) (hn : n ≤ (rd_T28 l 0).f0 * (rd_T28 l 0).f1) (d : Nat) : ∀ (k : Nat) (c : List Int) (i : Int), 0 ≤ i → i ≤ n → (n : Int) - i = d → (c.length : Int) = p2 l.length → d + 20 < k →
    spec_MarkCounts.l0 k l c n i = some (cntL l d i c) := by
  have hp := p2_bd l.length
  have hs := (stk_sz h).area
  induction d with
  | zero =>
    intro k c i i0 i1 hd hc hk
    obtain ⟨k, rfl⟩ : ∃ m, k = m + 1 := ⟨k - 1, by omega⟩
    rw [spec_MarkCounts.l0, if_neg (by omega)]; rfl
  | succ d ih =>
    intro k c i i0 i1 hd hc hk
    obtain ⟨k, rfl⟩ : ∃ m, k = m + 1 := ⟨k - 1, by omega⟩
    have hm := mkL_stk h i0 (by omega)
    rw [spec_MarkCounts.l0, if_pos (by omega), mk7_s h i0 (by omega) (by omega), Option.bind_some, if_pos hm.1, if_pos (by omega), w64 (x := i + 1) (by omega) (by omega), rd_at, ih k _ (i + 1) (by omega) (by omega) (by omega) (by rw [List.length_set]; exact hc) (by omega)]; rfl
theorem counts_s {l : List S28} (hl : l.length ≤ 1048576) (hq : ∀ x ∈ l, x.f2.length ≤ 1048576) {k : Nat} (hk : 1300000 ≤ k) : spec_MarkCounts.f k l = some (countsOf l) := by
  unfold spec_MarkCounts.f countsOf
  rw [stack_s hl hq (by omega), Option.bind_some]
  by_cases h : Stk l
  · have h1 := h.1
    have hp := p2_bd l.length
    have hs := (stk_sz h).area
    have hu := stk_up h _ (mem_p (l := l) (i := 0) (by omega) (by omega))
    have hun := hu.2.1
    rw [if_pos (decide_eq_true h), if_pos h, shl_one h1, if_pos (by omega), if_pos (by omega), if_pos (by omega)]
    exact countsl_s h (rd_T28 l 0).f2.length (by omega) _ k _ 0 (by omega) (by omega) (by omega) (by rw [List.length_replicate]; omega) (by omega)
  · rw [if_neg (by rw [decide_eq_true_iff]; exact h), if_neg h]
theorem tos_l (d : Nat) : ∀ (k : Nat) (l o : List Int) (i : Int), 0 ≤ i → i ≤ l.length → o.length = l.length → l.length ≤ 1048576 → (l.length : Int) - i = d → d < k → laws_toIntS.l0 k l o i = some (o.take i.toNat ++ l.drop i.toNat) := by
  induction d with
  | zero =>
    intro k l o i h0 h1 ho hl hd hk
    obtain ⟨k, rfl⟩ : ∃ m, k = m + 1 := ⟨k - 1, by omega⟩
    rw [laws_toIntS.l0, if_neg (by omega), List.drop_eq_nil_of_le (by omega), List.append_nil, List.take_of_length_le (by omega)]
  | succ d ih =>
    intro k l o i h0 h1 ho hl hd hk
    obtain ⟨k, rfl⟩ : ∃ m, k = m + 1 := ⟨k - 1, by omega⟩
    rw [laws_toIntS.l0, if_pos (by omega), if_pos h0, if_pos (by omega), w64 (by omega) (by omega), rd_at, ih k l _ (i + 1) (by omega) (by omega) (by rw [List.length_set]; exact ho) hl (by omega) (by omega), drop_at l h0 (by omega)]
    rw [show (i + 1).toNat = i.toNat + 1 by omega, List.take_succ_eq_append_getElem (by rw [List.length_set]; omega), List.getElem_set, if_pos rfl, List.take_set_of_le (Nat.le_refl _)]
    simp only [List.append_assoc, List.cons_append, List.nil_append]
theorem tos {l : List Int} (hl : l.length ≤ 1048576) {k : Nat} (hk : 1100000 ≤ k) : laws_toIntS.f k l = some l := by
  unfold laws_toIntS.f
  rw [if_pos (by omega), if_pos (by omega), tos_l l.length k l _ 0 (by omega) (by omega) (by simp) hl (by omega) (by omega)]; rfl
theorem top (a b : Int) {l : List Int} (hl : l.length ≤ 1048576) {k : Nat} (hk : 1100000 ≤ k) : laws_toPicture.f k a b l = some (a, b, l) := by
  unfold laws_toPicture.f; rw [tos hl hk]; rfl
def cv (x : S24) : S28 := ⟨x.f0, x.f1, x.f2⟩
theorem topsl {l : List S24} (hl : l.length ≤ 1048576) (hq : ∀ x ∈ l, x.f2.length ≤ 1048576) (d : Nat) : ∀ (k : Nat) (o : List S28) (i : Int), 0 ≤ i → i ≤ l.length → o.length = l.length → (l.length : Int) - i = d → d + 1100000 < k →
    laws_toPictureS.l0 k l o i = some (o.take i.toNat ++ (l.drop i.toNat).map cv) := by
  induction d with
  | zero =>
    intro k o i i0 i1 ho hd hk
    obtain ⟨k, rfl⟩ : ∃ m, k = m + 1 := ⟨k - 1, by omega⟩
    rw [laws_toPictureS.l0, if_neg (by omega), List.drop_eq_nil_of_le (by omega), List.map_nil, List.append_nil, List.take_of_length_le (by omega)]
  | succ d ih =>
    intro k o i i0 i1 ho hd hk
    obtain ⟨k, rfl⟩ : ∃ m, k = m + 1 := ⟨k - 1, by omega⟩
    have hi : i < l.length := by omega
    have hmem : rd_T24 l i ∈ l := by
      have : rd_T24 l i ∈ l.drop i.toNat := by rw [drop_l l i0 hi]; exact List.mem_cons_self
      exact List.mem_of_mem_drop this
    rw [laws_toPictureS.l0, if_pos hi, if_pos i0, top _ _ (hq _ hmem) (by omega), Option.bind_some, if_pos (by omega), w64 (by omega) (by omega), ih k _ (i + 1) (by omega) (by omega) (by rw [List.length_set]; exact ho) (by omega) (by omega), drop_l l i0 hi]
    rw [show (i + 1).toNat = i.toNat + 1 by omega, List.take_succ_eq_append_getElem (by rw [List.length_set]; omega), List.getElem_set, if_pos rfl, List.take_set_of_le (Nat.le_refl _)]
    simp only [List.append_assoc, List.cons_append, List.nil_append, List.map_cons]; rfl
theorem tops {l : List S24} (hl : l.length ≤ 1048576) (hq : ∀ x ∈ l, x.f2.length ≤ 1048576) {k : Nat} (hk : 2200000 ≤ k) : laws_toPictureS.f k l = some (l.map cv) := by
  unfold laws_toPictureS.f
  rw [if_pos (by omega), if_pos (by omega), topsl hl hq l.length k _ 0 (by omega) (by omega) (by simp) (by omega) (by omega)]; simp
theorem cv_len {l : List S24} (hq : ∀ x ∈ l, x.f2.length ≤ 1048576) : ∀ x ∈ l.map cv, x.f2.length ≤ 1048576 := by
  intro x hx
  obtain ⟨y, hy, rfl⟩ := List.mem_map.mp hx
  exact hq y hy
theorem within_i {l : List Int} (hl : l.length ≤ 1048576) (m : Int) : impl_within.f l m = some (decide (All m l)) := by
  unfold impl_within.f
  rw [if_pos (by omega)]; simp only [Option.some.injEq]
  rw [Bool.eq_iff_iff, List.all_eq_true, decide_eq_true_iff]
  exact ⟨fun h v hv => of_decide_eq_true (h v hv), fun h v hv => decide_eq_true (h v hv)⟩
theorem size_i (W H : Int) : impl_sized.f W H = some (decide (Sz W H)) := by
  unfold impl_sized.f
  by_cases h : 1 ≤ W ∧ W ≤ 64 ∧ 1 ≤ H ∧ H ≤ 64
  · have := mul_bd (c := 64) (d := 64) (show 0 ≤ W by omega) h.2.1 (show 0 ≤ H by omega) h.2.2.2
    rw [if_pos (by omega), if_pos (by omega), if_pos (by omega), if_pos (by omega), w64 (by omega) (by omega)]
    exact dec_dd (by unfold Sz; omega)
  · repeat' split
    all_goals first | exact dec_ff (by unfold Sz; omega) | (exfalso; omega)
theorem pict_i {W H : Int} {l : List Int} (hl : l.length ≤ 1048576) : impl_IsPicture.f W H l = some (decide (Up W H l 255)) := by
  unfold impl_IsPicture.f
  rw [size_i, Option.bind_some]
  by_cases h : Sz W H
  · have := h.area
    rw [if_pos (decide_eq_true h), w64 (by omega) (by omega), within_i hl]
    by_cases e : (l.length : Int) = W * H
    · rw [if_pos e]; exact dec_dd ⟨fun x => ⟨h, e, x⟩, fun x => x.2.2⟩
    · rw [if_neg e]; exact dec_ff (fun x => e x.2.1)
  · rw [if_neg (by rw [decide_eq_true_iff]; exact h)]; exact dec_ff (fun x => h x.1)
theorem plate_i {W H : Int} {l : List Int} (hl : l.length ≤ 1048576) : impl_IsPlate.f W H l = some (decide (Up W H l 1)) := by
  unfold impl_IsPlate.f
  rw [pict_i hl, Option.bind_some, within_i hl]
  by_cases h : Up W H l 255
  · rw [if_pos (decide_eq_true h)]; exact dec_dd ⟨fun x => ⟨h.1, h.2.1, x⟩, fun x => x.2.2⟩
  · rw [if_neg (by rw [decide_eq_true_iff]; exact h)]; exact dec_ff (fun x => h ⟨x.1, x.2.1, fun v hv => ⟨(x.2.2 v hv).1, by have := (x.2.2 v hv).2; omega⟩⟩)
theorem alike_i (a b c d : Int) {l m : List Int} (hl : l.length ≤ 1048576) (hm : m.length ≤ 1048576) : impl_alike.f a b l c d m = some (decide ((Up a b l 255 ∧ Up c d m 255) ∧ a = c ∧ b = d)) := by
  unfold impl_alike.f
  rw [pict_i hl, Option.bind_some, pict_i hm, Option.bind_some]
  by_cases h : Up a b l 255
  · rw [if_pos (decide_eq_true h)]
    by_cases h2 : Up c d m 255
    · rw [if_pos (decide_eq_true h2)]
      by_cases h3 : a = c
      · rw [if_pos h3]
        by_cases h4 : b = d
        · rw [decide_eq_true (show (Up a b l 255 ∧ Up c d m 255) ∧ a = c ∧ b = d from ⟨⟨h, h2⟩, h3, h4⟩), beq_iff_eq.mpr h4]
        · rw [beq_eq_false_iff_ne.mpr h4]; exact dec_ff (fun x => h4 x.2.2)
      · rw [if_neg h3]; exact dec_ff (fun x => h3 x.2.1)
    · rw [if_neg (by rw [decide_eq_true_iff]; exact h2)]; exact dec_ff (fun x => h2 x.1.2)
  · rw [if_neg (by rw [decide_eq_true_iff]; exact h)]; exact dec_ff (fun x => h x.1.1)
theorem stackl_i {l : List S28} (hl : l.length ≤ 4) (hq : ∀ x ∈ l, x.f2.length ≤ 1048576) (d : Nat) : ∀ (k : Nat) (i : Int), 0 ≤ i → i ≤ l.length → (l.length : Int) - i = d → (0 < i → Up (rd_T28 l 0).f0 (rd_T28 l 0).f1 (rd_T28 l 0).f2 1) → d < k →
    impl_IsStack.l0 k l l l.length i = some (decide (likeF (rd_T28 l 0).f0 (rd_T28 l 0).f1 (l.drop i.toNat))) := by
  induction d with
  | zero =>
    intro k i i0 i1 hd h0 hk
    obtain ⟨k, rfl⟩ : ∃ m, k = m + 1 := ⟨k - 1, by omega⟩
    rw [impl_IsStack.l0, if_neg (by omega), List.drop_eq_nil_of_le (by omega), decide_eq_true (show likeF _ _ [] from fun x hx => by simp at hx)]
  | succ d ih =>
    intro k i i0 i1 hd h0 hk
    obtain ⟨k, rfl⟩ : ∃ m, k = m + 1 := ⟨k - 1, by omega⟩
    have hi : i < l.length := by omega
    rw [impl_IsStack.l0, if_pos hi, if_pos i0, if_pos hi, plate_i (hq _ (mem_p i0 hi)), Option.bind_some, drop_p l i0 hi, w64 (by omega) (by omega)]
    by_cases h : Up (rd_T28 l i).f0 (rd_T28 l i).f1 (rd_T28 l i).f2 1
    · have hu : Up (rd_T28 l 0).f0 (rd_T28 l 0).f1 (rd_T28 l 0).f2 1 := by
        by_cases e : 0 < i
        · exact h0 e
        · rw [show i = 0 by omega] at h; exact h
      rw [if_pos (decide_eq_true h), if_pos (by omega), alike_i _ _ _ _ (hq _ (mem_p i0 hi)) (hq _ (mem_p (by omega) (by omega))), Option.bind_some]
      by_cases h1 : (rd_T28 l i).f0 = (rd_T28 l 0).f0 ∧ (rd_T28 l i).f1 = (rd_T28 l 0).f1
      · rw [if_pos (decide_eq_true ⟨⟨up_wide h, up_wide hu⟩, h1⟩), ih k (i + 1) (by omega) (by omega) (by omega) (fun _ => hu) (by omega)]
        exact dec_dd (by rw [likeF_cons]; exact ⟨fun x => ⟨⟨h, h1⟩, x⟩, fun x => x.2⟩)
      · rw [if_neg (by rw [decide_eq_true_iff]; exact fun x => h1 x.2)]; exact dec_ff (by rw [likeF_cons]; exact fun x => h1 x.1.2)
    · rw [if_neg (by rw [decide_eq_true_iff]; exact h)]; exact dec_ff (by rw [likeF_cons]; exact fun x => h x.1.1)
theorem stack_i {l : List S28} (hl : l.length ≤ 1048576) (hq : ∀ x ∈ l, x.f2.length ≤ 1048576) {k : Nat} (hk : 100 ≤ k) : impl_IsStack.f k l = some (decide (Stk l)) := by
  obtain ⟨k, rfl⟩ : ∃ m, k = m + 1 := ⟨k - 1, by omega⟩
  unfold impl_IsStack.f
  by_cases h : 1 ≤ (l.length : Int) ∧ (l.length : Int) ≤ 4
  · rw [if_neg (by omega), impl_IsStack.j0, if_neg (by rw [decide_eq_true_iff]; omega), stackl_i (by omega) hq l.length k 0 (by omega) (by omega) (by omega) (fun z => by omega) (by omega)]
    exact dec_dd (by unfold Stk; exact ⟨fun x => ⟨by omega, x⟩, fun x => x.2⟩)
  · have e : some false = some (decide (Stk l)) := dec_ff (fun x => h (by have := x.1; omega))
    by_cases h1 : (l.length : Int) < 1
    · rw [if_pos h1, impl_IsStack.j0, if_pos rfl, e]
    · rw [if_neg h1, impl_IsStack.j0, if_pos (by rw [decide_eq_true_iff]; omega), e]
theorem markl_i {l : List S28} (hl : l.length ≤ 1048576) {i : Int} (i0 : 0 ≤ i) (hi : ∀ x ∈ l, i < (x.f2.length : Int)) (d : Nat) : ∀ (k : Nat) (s j : Int), 0 ≤ j → j ≤ l.length → (l.length : Int) - j = d → d < k →
    impl_mark.l0 k i s l l.length j = some (mkL i (l.drop j.toNat) j s) := by
  induction d with
  | zero =>
    intro k s j j0 j1 hd hk
    obtain ⟨k, rfl⟩ : ∃ m, k = m + 1 := ⟨k - 1, by omega⟩
    rw [impl_mark.l0, if_neg (by omega), List.drop_eq_nil_of_le (by omega)]; rfl
  | succ d ih =>
    intro k s j j0 j1 hd hk
    obtain ⟨k, rfl⟩ : ∃ m, k = m + 1 := ⟨k - 1, by omega⟩
    have hj : j < l.length := by omega
    rw [impl_mark.l0, if_pos hj, if_pos j0, if_pos hj, if_pos i0, if_pos (hi _ (mem_p j0 hj)), w64 (x := j + 1) (by omega) (by omega), ih k _ (j + 1) (by omega) (by omega) (by omega) (by omega), drop_p l j0 hj, mkL, rd_at]
theorem mark_i {l : List S28} (h : Stk l) {i : Int} (i0 : 0 ≤ i) (i1 : i < (rd_T28 l 0).f0 * (rd_T28 l 0).f1) {k : Nat} (hk : 10 ≤ k) : impl_mark.f k l i = some (mkL i l 0 0) := by
  unfold impl_mark.f
  have := h.1
  rw [markl_i (by omega) i0 (fun x hx => by have := (stk_up h x hx).2.1; omega) l.length k 0 0 (by omega) (by omega) (by omega) (by omega)]; rfl
theorem countsl_i {l : List S28} (h : Stk l) (n : Nat) (hn : n ≤ (rd_T28 l 0).f0 * (rd_T28 l 0).f1) (d : Nat) : ∀ (k : Nat) (c : List Int) (i : Int), 0 ≤ i → i ≤ n → (n : Int) - i = d → (c.length : Int) = p2 l.length → d + 20 < k →
    impl_MarkCounts.l0 k l c n i = some (cntL l d i c) := by
  have hp := p2_bd l.length
  have hs := (stk_sz h).area
  induction d with
  | zero =>
    intro k c i i0 i1 hd hc hk
    obtain ⟨k, rfl⟩ : ∃ m, k = m + 1 := ⟨k - 1, by omega⟩
    rw [impl_MarkCounts.l0, if_neg (by omega)]; rfl
  | succ d ih =>
    intro k c i i0 i1 hd hc hk
    obtain ⟨k, rfl⟩ : ∃ m, k = m + 1 := ⟨k - 1, by omega⟩
    have hm := mkL_stk h i0 (by omega)
    rw [impl_MarkCounts.l0, if_pos (by omega), mark_i h i0 (by omega) (by omega), Option.bind_some, if_pos hm.1, if_pos (by omega), w64 (x := i + 1) (by omega) (by omega), rd_at, ih k _ (i + 1) (by omega) (by omega) (by omega) (by rw [List.length_set]; exact hc) (by omega)]; rfl
theorem counts_i {l : List S28} (hl : l.length ≤ 1048576) (hq : ∀ x ∈ l, x.f2.length ≤ 1048576) {k : Nat} (hk : 1300000 ≤ k) : impl_MarkCounts.f k l = some (countsOf l) := by
  unfold impl_MarkCounts.f countsOf
  rw [stack_i hl hq (by omega), Option.bind_some]
  by_cases h : Stk l
  · have h1 := h.1
    have hp := p2_bd l.length
    have hs := (stk_sz h).area
    have hu := stk_up h _ (mem_p (l := l) (i := 0) (by omega) (by omega))
    have hun := hu.2.1
    rw [if_pos (decide_eq_true h), if_pos h, shl_one h1, if_pos (by omega), if_pos (by omega), if_pos (by omega)]
    exact countsl_i h (rd_T28 l 0).f2.length (by omega) _ k _ 0 (by omega) (by omega) (by omega) (by rw [List.length_replicate]; omega) (by omega)
  · rw [if_neg (by rw [decide_eq_true_iff]; exact h), if_neg h]
theorem held_l (n : Nat) (m : Int) (m0 : 0 ≤ m) (m1 : m ≤ 100000000) (hn : n ≤ 1048576) (d : Nat) : ∀ (k : Nat) (i : Int), 0 ≤ i → i ≤ n → (n : Int) - i = d → d < k → laws_heldIntS.l0 k (marks m n) (m + i) i = some (m + n) := by
  induction d with
  | zero =>
    intro k i h0 h1 hd hk
    obtain ⟨k, rfl⟩ : ∃ m, k = m + 1 := ⟨k - 1, by omega⟩
    rw [laws_heldIntS.l0, if_neg (by rw [marks_length]; omega), show m + i = m + (n : Int) by omega]
  | succ d ih =>
    intro k i h0 h1 hd hk
    obtain ⟨k, rfl⟩ : ∃ m, k = m + 1 := ⟨k - 1, by omega⟩
    have e : rd (marks m n) i = m + i := by
      rw [rd_at]; unfold at_; rw [List.getD_eq_getElem?_getD, marks_at n m i.toNat (by omega), Option.getD_some]; omega
    rw [laws_heldIntS.l0, if_pos (by rw [marks_length]; omega), if_pos h0, if_pos e, w64 (by omega) (by omega), w64 (by omega) (by omega), show m + i + 1 = m + (i + 1) by omega]
    exact ih k (i + 1) (by omega) (by omega) (by omega) (by omega)
theorem held_s {n : Nat} {m : Int} (m0 : 0 ≤ m) (m1 : m ≤ 100000000) (hn : n ≤ 1048576) {k : Nat} (hk : 1100000 ≤ k) : laws_heldIntS.f k (marks m n) m = some (m + n) := by
  have := held_l n m m0 m1 hn n k 0 (by omega) (by omega) (by omega) (by omega)
  rw [Int.add_zero] at this
  unfold laws_heldIntS.f; exact this
theorem szs2_l {l : List S24} (hl : l.length ≤ 1048576) (hq : ∀ x ∈ l, x.f2.length ≤ 140737488351232) (d : Nat) : ∀ (k : Nat) (m i : Int), 0 ≤ i → i ≤ l.length → 0 ≤ m → m ≤ 1048576 → (l.length : Int) - i = d → d < k →
    ∃ r, laws_szPictureS.l0 k l m i = some r ∧ (0 ≤ r → mkn ((l.drop i.toNat).map cv) ≤ m + 2 * d) := by
  induction d with
  | zero =>
    intro k m i i0 i1 m0 m1 hd hk
    obtain ⟨k, rfl⟩ : ∃ m, k = m + 1 := ⟨k - 1, by omega⟩
    refine ⟨m, by rw [laws_szPictureS.l0, if_neg (by omega)], fun _ => ?_⟩
    rw [List.drop_eq_nil_of_le (by omega), List.map_nil, mkn]; omega
  | succ d ih =>
    intro k m i i0 i1 m0 m1 hd hk
    obtain ⟨k, rfl⟩ : ∃ m, k = m + 1 := ⟨k - 1, by omega⟩
    have hi : i < l.length := by omega
    have hmem : rd_T24 l i ∈ l := by
      have : rd_T24 l i ∈ l.drop i.toNat := by rw [drop_l l i0 hi]; exact List.mem_cons_self
      exact List.mem_of_mem_drop this
    have hb := hq _ hmem
    rw [laws_szPictureS.l0, if_pos hi, if_pos i0, sz_p _ _ _ m m0 m1 hb, Option.bind_some]
    by_cases hm : ((rd_T24 l i).f2.length : Int) ≤ m
    · rw [if_pos hm, if_neg (by omega), w64 (by omega) (by omega)]
      obtain ⟨r, h1, h2⟩ := ih k (m - (rd_T24 l i).f2.length) (i + 1) (by omega) (by omega) (by omega) (by omega) (by omega) (by omega)
      refine ⟨r, h1, fun hr => ?_⟩
      have := h2 hr
      rw [drop_l l i0 hi, List.map_cons, mkn]
      show 2 + ((rd_T24 l i).f2.length : Int) + _ ≤ _
      omega
    · rw [if_neg hm, if_pos (by omega)]
      exact ⟨-1, rfl, fun h => by omega⟩
theorem szs2 {l : List S24} (hl : l.length ≤ 140737488351232) (hq : ∀ x ∈ l, x.f2.length ≤ 140737488351232) {k : Nat} (hk : 1100000 ≤ k) {r : Int} (h : laws_szPictureS.f k l 1048576 = some r) (h0 : 0 ≤ r) : mkn (l.map cv) ≤ 4000000 := by
  unfold laws_szPictureS.f at h
  rw [w64 (by omega) (by omega)] at h
  by_cases c : (1048576 : Int) - l.length < 0
  · rw [if_pos c] at h; injection h with h; omega
  · rw [if_neg c] at h
    obtain ⟨r', h1, h2⟩ := szs2_l (by omega) hq l.length k (1048576 - l.length) 0 (by omega) (by omega) (by omega) (by omega) (by omega) (by omega)
    rw [h1] at h; injection h with h; subst h
    have := h2 h0
    rw [show (0 : Int).toNat = 0 from rfl, List.drop_zero] at this
    omega
theorem pure_FnExactMarkCounts (l : List S24) (hl : l.length ≤ 140737488351232) (hq : ∀ x ∈ l, x.f2.length ≤ 140737488351232) : ∃ k, laws_FnExactMarkCounts.f k l = some true := by
  obtain ⟨m, hm0⟩ : ∃ m : Nat, 4000000 ≤ m := ⟨4000000, Nat.le_refl _⟩
  refine ⟨m + 8, ?_⟩
  unfold laws_FnExactMarkCounts.f
  obtain ⟨r, h1, h2⟩ := szs (k := m + 8) hl hq (by omega)
  rw [h1, Option.bind_some]
  by_cases h : r < 0
  · rw [if_pos h]
  · rw [if_neg h]
    obtain ⟨hl', hq'⟩ := h2 (by omega)
    have hn := szs2 (k := m + 8) hl hq (by omega) h1 (by omega)
    have hp := mkn_pos (l.map cv)
    have hm : (l.map cv).length ≤ 1048576 := by rw [List.length_map]; exact hl'
    have hmq := cv_len hq'
    have hc : (countsOf (l.map cv)).length ≤ 1048576 := by
      by_cases c : Stk (l.map cv)
      · have := countsOf_len c; have := p2_bd (l.map cv).length; omega
      · unfold countsOf; rw [if_neg c]; simp
    have hng : ¬ (1 + mkn (l.map cv) < 0) := by omega
    have hmk := markps (l := l.map cv) (m := 1) (k := m + 8) hmq hm (by omega) (by omega) (by omega)
    simp (disch := first | assumption | omega) only [tops, counts_s, counts_i, Option.bind_some, eqs, eqps, if_true, hmk, hng, if_false, Bool.not_true, Bool.false_eq_true]
    rw [laws_FnExactMarkCounts.j0]
    simp (disch := first | assumption | omega) only [tops, counts_s, counts_i, Option.bind_some, eqs, eqps, if_true, if_false, Bool.false_eq_true, mark_s, held_s, mk_neg]

end Go.Proofs.Ytmahpennnnajcaa.PFnExactMarkCounts
