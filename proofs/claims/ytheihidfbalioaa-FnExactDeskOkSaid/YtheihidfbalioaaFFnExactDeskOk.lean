/- What the functions that laws.FnExactDeskOk reaches compute, and that the law is true: over numbers alone. -/
import Derived.Test.YtheihidfbalioaaPFnExactDeskOkx
import Derived.Test.YtheihidfbalioaaPic2
import Derived.Laws.Strings
namespace Go.Proofs.Ytheihidfbalioaa.PFnExactDeskOk
open Go.RowKit Go.Proofs.YtheihidfbalioaaW.PrintWords Go.Proofs.YtheihidfbalioaaW.PrintLast Go.Proofs.YtheihidfbalioaaW.PrintMore
set_option linter.unusedVariables false
set_option linter.unusedSimpArgs false
set_option linter.unusedSimpArgs false
open Pic
theorem w64 {x : Int} (h1 : -9223372036854775808 ≤ x) (h2 : x ≤ 9223372036854775807) : wrap64 x = x := by unfold wrap64; omega
theorem rd_at (l : List Int) (i : Int) : rd l i = at_ l i := rfl
theorem tmod_pos {n x : Int} (h : 0 ≤ x) : Int.tmod x n = x % n := Int.tmod_eq_emod_of_nonneg h
theorem tdiv_pos {n x : Int} (h : 0 ≤ x) : Int.tdiv x n = x / n := Int.tdiv_eq_ediv_of_nonneg h
theorem dec_ff {p : Prop} [Decidable p] (h : ¬ p) : some false = some (decide p) := by rw [decide_eq_false h]
theorem dec_dd {p q : Prop} [Decidable p] [Decidable q] (h : p ↔ q) : some (decide p) = some (decide q) := by rw [decide_eq_decide.mpr h]
theorem mn_eq (a b : Int) : mn a b = if b < a then b else a := rfl
theorem up_wide {W H : Int} {l : List Int} (h : Up W H l 1) : Up W H l 255 := ⟨h.1, h.2.1, fun v hv => ⟨(h.2.2 v hv).1, by have := (h.2.2 v hv).2; omega⟩⟩
theorem mk_neg (n : Nat) : ¬ ((1 : Int) + n < 0) := by omega
theorem drop_p (l : List S25) {i : Int} (h0 : 0 ≤ i) (h : i < l.length) : l.drop i.toNat = rd_T25 l i :: l.drop (i + 1).toNat := by
  have hj : i.toNat < l.length := by omega
  have e : rd_T25 l i = l[i.toNat] := by unfold rd_T25; rw [List.getD_eq_getElem?_getD, List.getElem?_eq_getElem hj, Option.getD_some]
  rw [List.drop_eq_getElem_cons hj, e, show (i + 1).toNat = i.toNat + 1 by omega]
theorem mem_p {l : List S25} {i : Int} (h0 : 0 ≤ i) (h : i < l.length) : rd_T25 l i ∈ l := by
  have : rd_T25 l i ∈ l.drop i.toNat := by rw [drop_p l h0 h]; exact List.mem_cons_self
  exact List.mem_of_mem_drop this
theorem drop_l (l : List S60) {i : Int} (h0 : 0 ≤ i) (h : i < l.length) : l.drop i.toNat = rd_T60 l i :: l.drop (i + 1).toNat := by
  have hj : i.toNat < l.length := by omega
  have e : rd_T60 l i = l[i.toNat] := by unfold rd_T60; rw [List.getD_eq_getElem?_getD, List.getElem?_eq_getElem hj, Option.getD_some]
  rw [List.drop_eq_getElem_cons hj, e, show (i + 1).toNat = i.toNat + 1 by omega]
theorem sz_s (l : List Int) (m : Int) (hm : 0 ≤ m) (hm2 : m ≤ 1048576) (hl : l.length ≤ 140737488351232) : laws_szIntS.f l m = some (if (l.length : Int) ≤ m then m - l.length else -1) := by
  unfold laws_szIntS.f
  rw [w64 (by omega) (by omega)]
  by_cases h : (l.length : Int) ≤ m
  · rw [if_neg (by omega), if_pos h]
  · rw [if_pos (by omega), if_neg h]
theorem sz_p (a b : Int) (l : List Int) (m : Int) (hm : 0 ≤ m) (hm2 : m ≤ 1048576) (hl : l.length ≤ 140737488351232) : laws_szPicture.f a b l m = some (if (l.length : Int) ≤ m then m - l.length else -1) := by
  unfold laws_szPicture.f
  rw [sz_s l m hm hm2 hl, Option.bind_some]
  by_cases h : (l.length : Int) ≤ m
  · rw [if_pos h, if_neg (by omega)]
  · rw [if_neg h, if_pos (by omega)]
theorem sz_m (a b : Int) (l : List Int) (m : Int) (hm : 0 ≤ m) (hm2 : m ≤ 1048576) (hl : l.length ≤ 140737488351232) : laws_szMatrix.f a b l m = some (if (l.length : Int) ≤ m then m - l.length else -1) := by
  unfold laws_szMatrix.f
  rw [sz_s l m hm hm2 hl, Option.bind_some]
  by_cases h : (l.length : Int) ≤ m
  · rw [if_pos h, if_neg (by omega)]
  · rw [if_neg h, if_pos (by omega)]
theorem szs_l {l : List S60} (hl : l.length ≤ 1048576) (hq : ∀ x ∈ l, x.f2.length ≤ 140737488351232) (d : Nat) : ∀ (k : Nat) (m i : Int), 0 ≤ i → i ≤ l.length → 0 ≤ m → m ≤ 1048576 → (l.length : Int) - i = d → d < k →
    ∃ r, laws_szPictureS.l0 k l m i = some r ∧ (0 ≤ r → ∀ x ∈ l.drop i.toNat, x.f2.length ≤ 1048576) := by
  induction d with
  | zero =>
    intro k m i i0 i1 m0 m1 hd hk
    obtain ⟨k, rfl⟩ : ∃ m, k = m + 1 := ⟨k - 1, by omega⟩
    refine ⟨m, by rw [laws_szPictureS.l0, if_neg (by omega)], fun _ => ?_⟩
    rw [List.drop_eq_nil_of_le (by omega)]; intro x hx; simp at hx
  | succ d ih =>
    intro k m i i0 i1 m0 m1 hd hk
    obtain ⟨k, rfl⟩ : ∃ m, k = m + 1 := ⟨k - 1, by omega⟩
    have hi : i < l.length := by omega
    have hmem : rd_T60 l i ∈ l := by
      have : rd_T60 l i ∈ l.drop i.toNat := by rw [drop_l l i0 hi]; exact List.mem_cons_self
      exact List.mem_of_mem_drop this
    have hb := hq _ hmem
    rw [laws_szPictureS.l0, if_pos hi, if_pos i0, sz_p _ _ _ m m0 m1 hb, Option.bind_some]
    by_cases hm : ((rd_T60 l i).f2.length : Int) ≤ m
    · rw [if_pos hm, if_neg (by omega), w64 (by omega) (by omega)]
      obtain ⟨r, h1, h2⟩ := ih k (m - (rd_T60 l i).f2.length) (i + 1) (by omega) (by omega) (by omega) (by omega) (by omega) (by omega)
      refine ⟨r, h1, fun hr x hx => ?_⟩
      rw [drop_l l i0 hi] at hx
      rcases List.mem_cons.mp hx with e | e
      · subst e; omega
      · exact h2 hr x e
    · rw [if_neg hm, if_pos (by omega)]
      exact ⟨-1, rfl, fun h => by omega⟩
theorem szs {l : List S60} (hl : l.length ≤ 140737488351232) (hq : ∀ x ∈ l, x.f2.length ≤ 140737488351232) {k : Nat} (hk : 1100000 ≤ k) :
    ∃ r, laws_szPictureS.f k l 1048576 = some r ∧ (0 ≤ r → l.length ≤ 1048576 ∧ ∀ x ∈ l, x.f2.length ≤ 1048576) := by
  unfold laws_szPictureS.f
  rw [w64 (by omega) (by omega)]
  by_cases h : (1048576 : Int) - l.length < 0
  · rw [if_pos h]; exact ⟨-1, rfl, fun h => by omega⟩
  · rw [if_neg h]
    obtain ⟨r, h1, h2⟩ := szs_l (by omega) hq l.length k (1048576 - l.length) 0 (by omega) (by omega) (by omega) (by omega) (by omega) (by omega)
    exact ⟨r, h1, fun hr => ⟨by omega, fun x hx => h2 hr x (by simpa using hx)⟩⟩
theorem szs_m {l : List S60} {m : Int} (hm : 0 ≤ m) (hm2 : m ≤ 1048576) (hl : l.length ≤ 140737488351232) (hq : ∀ x ∈ l, x.f2.length ≤ 140737488351232) {k : Nat} (hk : 1100000 ≤ k) :
    ∃ r, laws_szPictureS.f k l m = some r ∧ (0 ≤ r → l.length ≤ 1048576 ∧ ∀ x ∈ l, x.f2.length ≤ 1048576) := by
  unfold laws_szPictureS.f
  rw [w64 (by omega) (by omega)]
  by_cases h : m - l.length < 0
  · rw [if_pos h]; exact ⟨-1, rfl, fun h => by omega⟩
  · rw [if_neg h]
    obtain ⟨r, h1, h2⟩ := szs_l (by omega) hq l.length k (m - l.length) 0 (by omega) (by omega) (by omega) (by omega) (by omega) (by omega)
    exact ⟨r, h1, fun hr => ⟨by omega, fun x hx => h2 hr x (by simpa using hx)⟩⟩
theorem szd (a b c d : Int) {l m : List Int} {L : List S60} (hl : l.length ≤ 140737488351232) (hm : m.length ≤ 140737488351232) (hL : L.length ≤ 140737488351232) (hq : ∀ x ∈ L, x.f2.length ≤ 140737488351232) {k : Nat} (hk : 1100000 ≤ k) :
    ∃ r, laws_szDesk.f k a b l c d m L 1048576 = some r ∧ (0 ≤ r → l.length ≤ 1048576 ∧ m.length ≤ 1048576 ∧ L.length ≤ 1048576 ∧ ∀ x ∈ L, x.f2.length ≤ 1048576) := by
  unfold laws_szDesk.f
  rw [sz_p a b l 1048576 (by omega) (by omega) hl, Option.bind_some]
  by_cases h1 : (l.length : Int) ≤ 1048576
  · rw [if_pos h1, if_neg (by omega), sz_m c d m _ (by omega) (by omega) hm, Option.bind_some]
    by_cases h2 : (m.length : Int) ≤ 1048576 - l.length
    · rw [if_pos h2, if_neg (by omega)]
      obtain ⟨r, e, hr⟩ := szs_m (l := L) (m := 1048576 - l.length - m.length) (by omega) (by omega) hL hq hk
      rw [e, Option.bind_some]
      by_cases h3 : r < 0
      · rw [if_pos h3]; exact ⟨-1, rfl, fun z => by omega⟩
      · rw [if_neg h3]; exact ⟨r, rfl, fun z => ⟨by omega, by omega, hr z⟩⟩
    · rw [if_neg h2, if_pos (by omega)]; exact ⟨-1, rfl, fun z => by omega⟩
  · rw [if_neg h1, if_pos (by omega)]; exact ⟨-1, rfl, fun z => by omega⟩
theorem l1In (x a b : Int) : spec_l1In.f x a b = some (decide (a ≤ x ∧ x ≤ b)) := by
  unfold spec_l1In.f
  split
  all_goals first | exact dec_dd (by omega) | exact dec_ff (by omega)
theorem shape_s (W H : Int) : spec_l2Shape.f W H = some (decide (Cel W H)) := by
  unfold spec_l2Shape.f
  simp only [l1In, Option.bind_some]
  by_cases hW : 1 ≤ W ∧ W ≤ 256
  · by_cases hH : 1 ≤ H ∧ H ≤ 256
    · have := mul_bd (c := 256) (d := 256) (show 0 ≤ W by omega) hW.2 (show 0 ≤ H by omega) hH.2
      rw [if_pos (decide_eq_true hW), if_pos (decide_eq_true hH), w64 (by omega) (by omega)]
      exact dec_dd (by unfold Cel; omega)
    · rw [if_pos (decide_eq_true hW), if_neg (by rw [decide_eq_true_iff]; exact hH)]; exact dec_ff (fun h => hH ⟨h.2.2.1, h.2.2.2.1⟩)
  · rw [if_neg (by rw [decide_eq_true_iff]; exact hW)]; exact dec_ff (fun h => hW ⟨h.1, h.2.1⟩)
theorem nwB_eq (n : Int) : ∀ (l seen : List Int), Ext.nwB n l seen = decide (newL n l seen) := by
  intro l
  induction l with
  | nil => intro seen; rw [Ext.nwB, decide_eq_true (show newL n [] seen from trivial)]
  | cons v l ih =>
    intro seen
    rw [Ext.nwB, ih]
    by_cases h : (0 ≤ v ∧ v < n) ∧ v ∉ seen
    · rw [if_pos h]; exact decide_eq_decide.mpr ⟨fun z => ⟨h.1, h.2, z⟩, fun z => z.2.2⟩
    · rw [if_neg h, decide_eq_false (fun z => h ⟨z.1, z.2.1⟩)]
theorem mtx_el {n : Int} {L : List Int} : ∀ {l seen : List Int}, newL n l seen → ∀ v ∈ l, 0 ≤ v ∧ v < n := by
  intro l
  induction l with
  | nil => intro seen _ v hv; simp at hv
  | cons x l ih =>
    intro seen h v hv
    rcases List.mem_cons.mp hv with e | e
    · subst e; exact h.1
    · exact ih h.2.2 v e
theorem seen_set {S : List Bool} {seen : List Int} (hS : ∀ i : Int, 0 ≤ i → i < S.length → (rdOf false S i = true ↔ i ∈ seen)) {v : Int} (h0 : 0 ≤ v) (h1 : v < S.length) : ∀ i : Int, 0 ≤ i → i < (S.set v.toNat true).length → (rdOf false (S.set v.toNat true) i = true ↔ i ∈ v :: seen) := by
  intro i i0 i1
  rw [List.length_set] at i1
  have := hS i i0 i1
  unfold rdOf at this ⊢
  rw [List.getD_eq_getElem?_getD, List.getElem?_set]
  by_cases e : v.toNat = i.toNat
  · rw [if_pos e, if_pos (by omega)]
    have : i = v := by omega
    simp [this]
  · rw [if_neg e, ← List.getD_eq_getElem?_getD, this, List.mem_cons]
    constructor
    · exact fun h => .inr h
    · intro h; rcases h with h | h
      · omega
      · exact h
theorem mtxl_s {W H : Int} {l : List Int} (hl : l.length ≤ 1048576) (d : Nat) : ∀ (k : Nat) (S : List Bool) (j : Int) (seen : List Int), 0 ≤ j → (l.length : Int) - j = d → S.length = l.length → (∀ i : Int, 0 ≤ i → i < S.length → (rdOf false S i = true ↔ i ∈ seen)) → d < k →
    spec_IsMatrix.l0 k S l l.length j W H l = some (decide (newL l.length (l.drop j.toNat) seen)) := by
  induction d with
  | zero =>
    intro k S j seen j0 hd hS hs hk
    obtain ⟨k, rfl⟩ : ∃ m, k = m + 1 := ⟨k - 1, by omega⟩
    rw [spec_IsMatrix.l0, if_neg (by omega), drop_end l (by omega), decide_eq_true (show newL _ [] _ from trivial)]
  | succ d ih =>
    intro k S j seen j0 hd hS hs hk
    obtain ⟨k, rfl⟩ : ∃ m, k = m + 1 := ⟨k - 1, by omega⟩
    rw [spec_IsMatrix.l0, if_pos (by omega), if_pos j0, if_pos (by omega), rd_at, l1In, Option.bind_some, drop_at l j0 (by omega), w64 (x := (l.length : Int) - 1) (by omega) (by omega), w64 (x := j + 1) (by omega) (by omega)]
    by_cases hv : 0 ≤ at_ l j ∧ at_ l j ≤ (l.length : Int) - 1
    · rw [if_pos (decide_eq_true hv), if_pos hv.1, if_pos (by omega)]
      have h1 := hs (at_ l j) hv.1 (by omega)
      by_cases hr : rdOf false S (at_ l j) = true
      · rw [if_pos hr]; exact dec_ff (fun z => z.2.1 (h1.mp hr))
      · rw [if_neg hr, ih k _ (j + 1) (at_ l j :: seen) (by omega) (by omega) (by rw [List.length_set]; exact hS) (seen_set hs hv.1 (by omega)) (by omega)]
        exact dec_dd ⟨fun z => ⟨by omega, fun y => hr (h1.mpr y), z⟩, fun z => z.2.2⟩
    · rw [if_neg (by rw [decide_eq_true_iff]; exact hv)]; exact dec_ff (fun z => hv (by have := z.1; omega))
theorem mtx_s {W H : Int} {l : List Int} (hl : l.length ≤ 1048576) {k : Nat} (hk : 1200000 ≤ k) : spec_IsMatrix.f k W H l = some (decide (Mtx W H l)) := by
  obtain ⟨k, rfl⟩ : ∃ m, k = m + 1 := ⟨k - 1, by omega⟩
  unfold spec_IsMatrix.f
  rw [shape_s, Option.bind_some]
  by_cases h : Cel W H
  · have ha := h.area
    rw [if_pos (decide_eq_true h), w64 (by omega) (by omega), spec_IsMatrix.j0]
    by_cases e : (l.length : Int) = W * H
    · rw [if_neg (by rw [bne_iff_ne]; exact fun x => x e), if_pos (by omega), if_pos (by omega), mtxl_s hl l.length k _ 0 [] (by omega) (by omega) (by rw [List.length_replicate]; omega) (fun i i0 i1 => ?_) (by omega)]
      · exact dec_dd ⟨fun x => ⟨h, e, x⟩, fun x => x.2.2⟩
      · unfold rdOf
        rw [List.length_replicate] at i1
        rw [List.getD_eq_getElem?_getD, List.getElem?_replicate, if_pos (by omega)]; simp
    · rw [if_pos (by rw [bne_iff_ne]; exact e)]; exact dec_ff (fun x => e x.2.1)
  · rw [if_neg (by rw [decide_eq_true_iff]; exact h), spec_IsMatrix.j0, if_pos rfl]; exact dec_ff (fun x => h x.1)
theorem size_s (W H : Int) : spec_l1Size.f W H = some (decide (Sz W H)) := by
  unfold spec_l1Size.f
  simp only [l1In, Option.bind_some]
  by_cases hW : 1 ≤ W ∧ W ≤ 64
  · by_cases hH : 1 ≤ H ∧ H ≤ 64
    · have := mul_bd (c := 64) (d := 64) (show 0 ≤ W by omega) hW.2 (show 0 ≤ H by omega) hH.2
      rw [if_pos (decide_eq_true hW), if_pos (decide_eq_true hH), w64 (by omega) (by omega)]
      exact dec_dd (by unfold Sz; omega)
    · rw [if_pos (decide_eq_true hW), if_neg (by rw [decide_eq_true_iff]; exact hH)]; exact dec_ff (fun h => hH ⟨h.2.2.1, h.2.2.2.1⟩)
  · rw [if_neg (by rw [decide_eq_true_iff]; exact hW)]; exact dec_ff (fun h => hW ⟨h.1, h.2.1⟩)
theorem up_l (m : Int) (d : Nat) : ∀ (k : Nat) (l : List Int) (i : Int), 0 ≤ i → l.length ≤ 1048576 → i ≤ l.length → (l.length : Int) - i = d → d < k → spec_l1Up.l0 k m l l.length i = some (decide (All m (l.drop i.toNat))) := by
  induction d with
  | zero =>
    intro k l i h0 hl h1 hd hk
    obtain ⟨k, rfl⟩ : ∃ m, k = m + 1 := ⟨k - 1, by omega⟩
    rw [spec_l1Up.l0, if_neg (by omega), List.drop_eq_nil_of_le (by omega)]
    rw [decide_eq_true (show All m [] from fun v h => by simp at h)]
  | succ d ih =>
    intro k l i h0 hl h1 hd hk
    obtain ⟨k, rfl⟩ : ∃ m, k = m + 1 := ⟨k - 1, by omega⟩
    rw [spec_l1Up.l0, if_pos (by omega), if_pos h0, if_pos (by omega), l1In, rd_at, Option.bind_some, drop_at l h0 (by omega), w64 (by omega) (by omega)]
    by_cases h : 0 ≤ at_ l i ∧ at_ l i ≤ m
    · rw [if_pos (decide_eq_true h), ih k l (i + 1) (by omega) hl (by omega) (by omega) (by omega)]
      exact dec_dd (by rw [All.cons]; exact ⟨fun x => ⟨h, x⟩, fun x => x.2⟩)
    · rw [if_neg (by rw [decide_eq_true_iff]; exact h)]; exact dec_ff (fun x => h (All.cons.mp x).1)
theorem up_s {W H : Int} {l : List Int} (hl : l.length ≤ 1048576) (m : Int) {k : Nat} (hk : 1100000 ≤ k) : spec_l1Up.f k W H l m = some (decide (Up W H l m)) := by
  obtain ⟨k, rfl⟩ : ∃ m, k = m + 1 := ⟨k - 1, by omega⟩
  unfold spec_l1Up.f
  rw [size_s, Option.bind_some]
  by_cases h : Sz W H
  · have := h.area
    rw [if_pos (decide_eq_true h), w64 (by omega) (by omega), spec_l1Up.j0]
    by_cases e : (l.length : Int) = W * H
    · rw [if_neg (by rw [bne_iff_ne]; exact fun x => x e), up_l m l.length k l 0 (by omega) hl (by omega) (by omega) (by omega)]
      exact dec_dd ⟨fun x => ⟨h, e, x⟩, fun x => x.2.2⟩
    · rw [if_pos (by rw [bne_iff_ne]; exact e)]; exact dec_ff (fun x => e x.2.1)
  · rw [if_neg (by rw [decide_eq_true_iff]; exact h), spec_l1Up.j0, if_pos rfl]; exact dec_ff (fun x => h x.1)
theorem pict_s {W H : Int} {l : List Int} (hl : l.length ≤ 1048576) {k : Nat} (hk : 1100000 ≤ k) : spec_IsPicture.f k W H l = some (decide (Up W H l 255)) := by
  unfold spec_IsPicture.f; rw [up_s hl 255 hk]; rfl
theorem plate_s {W H : Int} {l : List Int} (hl : l.length ≤ 1048576) {k : Nat} (hk : 1100000 ≤ k) : spec_IsPlate.f k W H l = some (decide (Up W H l 1)) := by
  unfold spec_IsPlate.f; rw [up_s hl 1 hk]; rfl
/-- every one a plate of the first one's size -/
def likeF (a b : Int) (l : List S25) : Prop := ∀ x ∈ l, Up x.f0 x.f1 x.f2 1 ∧ x.f0 = a ∧ x.f1 = b
instance (a b : Int) (l : List S25) : Decidable (likeF a b l) := inferInstanceAs (Decidable (∀ x ∈ l, _))
def Stk (l : List S25) : Prop := (1 ≤ l.length ∧ l.length ≤ 4) ∧ likeF (rd_T25 l 0).f0 (rd_T25 l 0).f1 l
instance (l : List S25) : Decidable (Stk l) := inferInstanceAs (Decidable (_ ∧ _))
theorem likeF_cons {a b : Int} {x : S25} {l : List S25} : likeF a b (x :: l) ↔ (Up x.f0 x.f1 x.f2 1 ∧ x.f0 = a ∧ x.f1 = b) ∧ likeF a b l := by simp [likeF]
theorem stackl_s {l : List S25} (hl : l.length ≤ 4) (hq : ∀ x ∈ l, x.f2.length ≤ 1048576) (d : Nat) : ∀ (k : Nat) (i : Int), 0 ≤ i → i ≤ l.length → (l.length : Int) - i = d → d + 1100000 < k →
    spec_IsStack.l0 k l l l.length i = some (decide (likeF (rd_T25 l 0).f0 (rd_T25 l 0).f1 (l.drop i.toNat))) := by
  induction d with
  | zero =>
    intro k i i0 i1 hd hk
    obtain ⟨k, rfl⟩ : ∃ m, k = m + 1 := ⟨k - 1, by omega⟩
    rw [spec_IsStack.l0, if_neg (by omega), List.drop_eq_nil_of_le (by omega), decide_eq_true (show likeF _ _ [] from fun x hx => by simp at hx)]
  | succ d ih =>
    intro k i i0 i1 hd hk
    obtain ⟨k, rfl⟩ : ∃ m, k = m + 1 := ⟨k - 1, by omega⟩
    have hi : i < l.length := by omega
    rw [spec_IsStack.l0, if_pos hi, if_pos i0, if_pos hi, plate_s (hq _ (mem_p i0 hi)) (by omega), Option.bind_some, drop_p l i0 hi, w64 (by omega) (by omega), ih k (i + 1) (by omega) (by omega) (by omega) (by omega)]
    by_cases h : Up (rd_T25 l i).f0 (rd_T25 l i).f1 (rd_T25 l i).f2 1
    · rw [if_pos (decide_eq_true h), if_pos (by omega)]
      by_cases h1 : (rd_T25 l i).f0 = (rd_T25 l 0).f0
      · rw [if_pos h1]
        by_cases h2 : (rd_T25 l i).f1 = (rd_T25 l 0).f1
        · rw [if_pos h2]; exact dec_dd (by rw [likeF_cons]; exact ⟨fun x => ⟨⟨h, h1, h2⟩, x⟩, fun x => x.2⟩)
        · rw [if_neg h2]; exact dec_ff (by rw [likeF_cons]; exact fun x => h2 x.1.2.2)
      · rw [if_neg h1]; exact dec_ff (by rw [likeF_cons]; exact fun x => h1 x.1.2.1)
    · rw [if_neg (by rw [decide_eq_true_iff]; exact h)]; exact dec_ff (by rw [likeF_cons]; exact fun x => h x.1.1)
theorem stack_s {l : List S25} (hl : l.length ≤ 1048576) (hq : ∀ x ∈ l, x.f2.length ≤ 1048576) {k : Nat} (hk : 1200000 ≤ k) : spec_IsStack.f k l = some (decide (Stk l)) := by
  unfold spec_IsStack.f
  rw [l1In, Option.bind_some]
  by_cases h : 1 ≤ (l.length : Int) ∧ (l.length : Int) ≤ 4
  · rw [if_pos (decide_eq_true h), stackl_s (by omega) hq l.length k 0 (by omega) (by omega) (by omega) (by omega)]
    exact dec_dd (by unfold Stk; exact ⟨fun x => ⟨by omega, x⟩, fun x => x.2⟩)
  · rw [if_neg (by rw [decide_eq_true_iff]; exact h)]; exact dec_ff (fun x => h (by have := x.1; omega))
def dOk (a b : Int) (l : List Int) (c d : Int) (m : List Int) (L : List S25) : Prop := (Up a b l 255 ∧ Mtx c d m) ∧ ((L.length : Int) = 0 ∨ (Stk L ∧ (rd_T25 L 0).f0 = a ∧ (rd_T25 L 0).f1 = b))
instance (a b : Int) (l : List Int) (c d : Int) (m : List Int) (L : List S25) : Decidable (dOk a b l c d m L) := inferInstanceAs (Decidable (_ ∧ _))
theorem desk_s (a b c d : Int) {l m : List Int} {L : List S25} (hl : l.length ≤ 1048576) (hm : m.length ≤ 1048576) (hL : L.length ≤ 1048576) (hq : ∀ x ∈ L, x.f2.length ≤ 1048576) {k : Nat} (hk : 2200000 ≤ k) : spec_DeskOk.f k a b l c d m L = some (decide (dOk a b l c d m L)) := by
  obtain ⟨k, rfl⟩ : ∃ m, k = m + 1 := ⟨k - 1, by omega⟩
  unfold spec_DeskOk.f
  rw [pict_s hl (by omega), Option.bind_some]
  by_cases h1 : Up a b l 255
  · rw [if_pos (decide_eq_true h1), mtx_s hm (by omega), Option.bind_some, spec_DeskOk.j0]
    by_cases h2 : Mtx c d m
    · rw [if_neg (by rw [decide_eq_true h2]; decide)]
      by_cases h3 : (L.length : Int) = 0
      · rw [if_pos h3, decide_eq_true (show dOk a b l c d m L from ⟨⟨h1, h2⟩, .inl h3⟩)]
      · rw [if_neg h3, stack_s hL hq (by omega), Option.bind_some]
        by_cases h4 : Stk L
        · rw [if_pos (decide_eq_true h4), if_pos (by omega)]
          by_cases h5 : (rd_T25 L 0).f0 = a
          · rw [if_pos h5]
            by_cases h6 : (rd_T25 L 0).f1 = b
            · rw [beq_iff_eq.mpr h6, decide_eq_true (show dOk a b l c d m L from ⟨⟨h1, h2⟩, .inr ⟨h4, h5, h6⟩⟩)]
            · rw [beq_eq_false_iff_ne.mpr h6]; exact dec_ff (fun z => z.2.elim h3 (fun y => h6 y.2.2))
          · rw [if_neg h5]; exact dec_ff (fun z => z.2.elim h3 (fun y => h5 y.2.1))
        · rw [if_neg (by rw [decide_eq_true_iff]; exact h4)]; exact dec_ff (fun z => z.2.elim h3 (fun y => h4 y.1))
    · rw [if_pos (by rw [decide_eq_false h2]; rfl)]; exact dec_ff (fun z => h2 z.1.2)
  · rw [if_neg (by rw [decide_eq_true_iff]; exact h1), spec_DeskOk.j0, if_pos rfl]; exact dec_ff (fun z => h1 z.1.1)
theorem tos_l (d : Nat) : ∀ (k : Nat) (l o : List Int) (i : Int), 0 ≤ i → i ≤ l.length → o.length = l.length → l.length ≤ 1048576 → (l.length : Int) - i = d → d < k → laws_toIntS.l0 k l o i = some (o.take i.toNat ++ l.drop i.toNat) := by
  induction d with
  | zero =>
    intro k l o i h0 h1 ho hl hd hk
    obtain ⟨k, rfl⟩ : ∃ m, k = m + 1 := ⟨k - 1, by omega⟩
    rw [laws_toIntS.l0, if_neg (by omega), List.drop_eq_nil_of_le (by omega), List.append_nil, List.take_of_length_le (by omega)]
  | succ d ih =>
    intro k l o i h0 h1 ho hl hd hk
    obtain ⟨k, rfl⟩ : ∃ m, k = m + 1 := ⟨k - 1, by omega⟩
    rw [laws_toIntS.l0, if_pos (by omega), if_pos h0, if_pos (by omega), w64 (by omega) (by omega), rd_at, ih k l _ (i + 1) (by omega) (by omega) (by rw [List.length_set]; exact ho) hl (by omega) (by omega), drop_at l h0 (by omega)]
    rw [show (i + 1).toNat = i.toNat + 1 by omega, List.take_succ_eq_append_getElem (by rw [List.length_set]; omega), List.getElem_set, if_pos rfl, List.take_set_of_le (Nat.le_refl _)]
    simp only [List.append_assoc, List.cons_append, List.nil_append]
theorem tos {l : List Int} (hl : l.length ≤ 1048576) {k : Nat} (hk : 1100000 ≤ k) : laws_toIntS.f k l = some l := by
  unfold laws_toIntS.f
  rw [if_pos (by omega), if_pos (by omega), tos_l l.length k l _ 0 (by omega) (by omega) (by simp) hl (by omega) (by omega)]; rfl
theorem top (a b : Int) {l : List Int} (hl : l.length ≤ 1048576) {k : Nat} (hk : 1100000 ≤ k) : laws_toPicture.f k a b l = some (a, b, l) := by
  unfold laws_toPicture.f; rw [tos hl hk]; rfl
theorem tom (a b : Int) {l : List Int} (hl : l.length ≤ 1048576) {k : Nat} (hk : 1100000 ≤ k) : laws_toMatrix.f k a b l = some (a, b, l) := by
  unfold laws_toMatrix.f; rw [tos hl hk]; rfl
def cv (x : S60) : S25 := ⟨x.f0, x.f1, x.f2⟩
theorem topsl {l : List S60} (hl : l.length ≤ 1048576) (hq : ∀ x ∈ l, x.f2.length ≤ 1048576) (d : Nat) : ∀ (k : Nat) (o : List S25) (i : Int), 0 ≤ i → i ≤ l.length → o.length = l.length → (l.length : Int) - i = d → d + 1100000 < k →
    laws_toPictureS.l0 k l o i = some (o.take i.toNat ++ (l.drop i.toNat).map cv) := by
  induction d with
  | zero =>
    intro k o i i0 i1 ho hd hk
    obtain ⟨k, rfl⟩ : ∃ m, k = m + 1 := ⟨k - 1, by omega⟩
    rw [laws_toPictureS.l0, if_neg (by omega), List.drop_eq_nil_of_le (by omega), List.map_nil, List.append_nil, List.take_of_length_le (by omega)]
  | succ d ih =>
    intro k o i i0 i1 ho hd hk
    obtain ⟨k, rfl⟩ : ∃ m, k = m + 1 := ⟨k - 1, by omega⟩
    have hi : i < l.length := by omega
    have hmem : rd_T60 l i ∈ l := by
      have : rd_T60 l i ∈ l.drop i.toNat := by rw [drop_l l i0 hi]; exact List.mem_cons_self
      exact List.mem_of_mem_drop this
    rw [laws_toPictureS.l0, if_pos hi, if_pos i0, top _ _ (hq _ hmem) (by omega), Option.bind_some, if_pos (by omega), w64 (by omega) (by omega), ih k _ (i + 1) (by omega) (by omega) (by rw [List.length_set]; exact ho) (by omega) (by omega), drop_l l i0 hi]
    rw [show (i + 1).toNat = i.toNat + 1 by omega, List.take_succ_eq_append_getElem (by rw [List.length_set]; omega), List.getElem_set, if_pos rfl, List.take_set_of_le (Nat.le_refl _)]
    simp only [List.append_assoc, List.cons_append, List.nil_append, List.map_cons]; rfl
theorem tops {l : List S60} (hl : l.length ≤ 1048576) (hq : ∀ x ∈ l, x.f2.length ≤ 1048576) {k : Nat} (hk : 2200000 ≤ k) : laws_toPictureS.f k l = some (l.map cv) := by
  unfold laws_toPictureS.f
  rw [if_pos (by omega), if_pos (by omega), topsl hl hq l.length k _ 0 (by omega) (by omega) (by simp) (by omega) (by omega)]; simp
theorem cv_len {l : List S60} (hq : ∀ x ∈ l, x.f2.length ≤ 1048576) : ∀ x ∈ l.map cv, x.f2.length ≤ 1048576 := by
  intro x hx
  obtain ⟨y, hy, rfl⟩ := List.mem_map.mp hx
  exact hq y hy
theorem tod (a b c d : Int) {l m : List Int} {L : List S60} (hl : l.length ≤ 1048576) (hm : m.length ≤ 1048576) (hL : L.length ≤ 1048576) (hq : ∀ x ∈ L, x.f2.length ≤ 1048576) {k : Nat} (hk : 2200000 ≤ k) : laws_toDesk.f k a b l c d m L = some (a, b, l, c, d, m, L.map cv) := by
  unfold laws_toDesk.f
  rw [top a b hl (by omega), Option.bind_some, tom c d hm (by omega), Option.bind_some, tops hL hq hk]; rfl
-- nothing on impl_celled
theorem mtx_i {W H : Int} {l : List Int} (hl : l.length ≤ 1048576) : impl_IsMatrix.f W H l = some (decide (Mtx W H l)) := by
  unfold impl_IsMatrix.f
  rw [if_pos (by omega)]
  simp only [Option.some.injEq]
  unfold Ext.mtxB
  have e : Ext.celB W H = true ↔ Cel W H := by unfold Ext.celB Cel; exact decide_eq_true_iff
  by_cases h : Ext.celB W H = true ∧ (l.length : Int) = W * H
  · rw [if_pos h, nwB_eq]; exact decide_eq_decide.mpr ⟨fun z => ⟨e.mp h.1, h.2, z⟩, fun z => z.2.2⟩
  · rw [if_neg h, decide_eq_false (fun z => h ⟨e.mpr z.1, z.2.1⟩)]
theorem within_i {l : List Int} (hl : l.length ≤ 1048576) (m : Int) : impl_within.f l m = some (decide (All m l)) := by
  unfold impl_within.f
  rw [if_pos (by omega)]; simp only [Option.some.injEq]
  rw [Bool.eq_iff_iff, List.all_eq_true, decide_eq_true_iff]
  exact ⟨fun h v hv => of_decide_eq_true (h v hv), fun h v hv => decide_eq_true (h v hv)⟩
theorem size_i (W H : Int) : impl_sized.f W H = some (decide (Sz W H)) := by
  unfold impl_sized.f
  by_cases h : 1 ≤ W ∧ W ≤ 64 ∧ 1 ≤ H ∧ H ≤ 64
  · have := mul_bd (c := 64) (d := 64) (show 0 ≤ W by omega) h.2.1 (show 0 ≤ H by omega) h.2.2.2
    rw [if_pos (by omega), if_pos (by omega), if_pos (by omega), if_pos (by omega), w64 (by omega) (by omega)]
    exact dec_dd (by unfold Sz; omega)
  · repeat' split
    all_goals first | exact dec_ff (by unfold Sz; omega) | (exfalso; omega)
theorem pict_i {W H : Int} {l : List Int} (hl : l.length ≤ 1048576) : impl_IsPicture.f W H l = some (decide (Up W H l 255)) := by
  unfold impl_IsPicture.f
  rw [size_i, Option.bind_some]
  by_cases h : Sz W H
  · have := h.area
    rw [if_pos (decide_eq_true h), w64 (by omega) (by omega), within_i hl]
    by_cases e : (l.length : Int) = W * H
    · rw [if_pos e]; exact dec_dd ⟨fun x => ⟨h, e, x⟩, fun x => x.2.2⟩
    · rw [if_neg e]; exact dec_ff (fun x => e x.2.1)
  · rw [if_neg (by rw [decide_eq_true_iff]; exact h)]; exact dec_ff (fun x => h x.1)
theorem plate_i {W H : Int} {l : List Int} (hl : l.length ≤ 1048576) : impl_IsPlate.f W H l = some (decide (Up W H l 1)) := by
  unfold impl_IsPlate.f
  rw [pict_i hl, Option.bind_some, within_i hl]
  by_cases h : Up W H l 255
  · rw [if_pos (decide_eq_true h)]; exact dec_dd ⟨fun x => ⟨h.1, h.2.1, x⟩, fun x => x.2.2⟩
  · rw [if_neg (by rw [decide_eq_true_iff]; exact h)]; exact dec_ff (fun x => h ⟨x.1, x.2.1, fun v hv => ⟨(x.2.2 v hv).1, by have := (x.2.2 v hv).2; omega⟩⟩)
theorem alike_i (a b c d : Int) {l m : List Int} (hl : l.length ≤ 1048576) (hm : m.length ≤ 1048576) : impl_alike.f a b l c d m = some (decide ((Up a b l 255 ∧ Up c d m 255) ∧ a = c ∧ b = d)) := by
  unfold impl_alike.f
  rw [pict_i hl, Option.bind_some, pict_i hm, Option.bind_some]
  by_cases h : Up a b l 255
  · rw [if_pos (decide_eq_true h)]
    by_cases h2 : Up c d m 255
    · rw [if_pos (decide_eq_true h2)]
      by_cases h3 : a = c
      · rw [if_pos h3]
        by_cases h4 : b = d
        · rw [decide_eq_true (show (Up a b l 255 ∧ Up c d m 255) ∧ a = c ∧ b = d from ⟨⟨h, h2⟩, h3, h4⟩), beq_iff_eq.mpr h4]
        · rw [beq_eq_false_iff_ne.mpr h4]; exact dec_ff (fun x => h4 x.2.2)
      · rw [if_neg h3]; exact dec_ff (fun x => h3 x.2.1)
    · rw [if_neg (by rw [decide_eq_true_iff]; exact h2)]; exact dec_ff (fun x => h2 x.1.2)
  · rw [if_neg (by rw [decide_eq_true_iff]; exact h)]; exact dec_ff (fun x => h x.1.1)
theorem stackl_i {l : List S25} (hl : l.length ≤ 4) (hq : ∀ x ∈ l, x.f2.length ≤ 1048576) (d : Nat) : ∀ (k : Nat) (i : Int), 0 ≤ i → i ≤ l.length → (l.length : Int) - i = d → (0 < i → Up (rd_T25 l 0).f0 (rd_T25 l 0).f1 (rd_T25 l 0).f2 1) → d < k →
    impl_IsStack.l0 k l l l.length i = some (decide (likeF (rd_T25 l 0).f0 (rd_T25 l 0).f1 (l.drop i.toNat))) := by
  induction d with
  | zero =>
    intro k i i0 i1 hd h0 hk
    obtain ⟨k, rfl⟩ : ∃ m, k = m + 1 := ⟨k - 1, by omega⟩
    rw [impl_IsStack.l0, if_neg (by omega), List.drop_eq_nil_of_le (by omega), decide_eq_true (show likeF _ _ [] from fun x hx => by simp at hx)]
  | succ d ih =>
    intro k i i0 i1 hd h0 hk
    obtain ⟨k, rfl⟩ : ∃ m, k = m + 1 := ⟨k - 1, by omega⟩
    have hi : i < l.length := by omega
    rw [impl_IsStack.l0, if_pos hi, if_pos i0, if_pos hi, plate_i (hq _ (mem_p i0 hi)), Option.bind_some, drop_p l i0 hi, w64 (by omega) (by omega)]
    by_cases h : Up (rd_T25 l i).f0 (rd_T25 l i).f1 (rd_T25 l i).f2 1
    · have hu : Up (rd_T25 l 0).f0 (rd_T25 l 0).f1 (rd_T25 l 0).f2 1 := by
        by_cases e : 0 < i
        · exact h0 e
        · rw [show i = 0 by omega] at h; exact h
      rw [if_pos (decide_eq_true h), if_pos (by omega), alike_i _ _ _ _ (hq _ (mem_p i0 hi)) (hq _ (mem_p (by omega) (by omega))), Option.bind_some]
      by_cases h1 : (rd_T25 l i).f0 = (rd_T25 l 0).f0 ∧ (rd_T25 l i).f1 = (rd_T25 l 0).f1
      · rw [if_pos (decide_eq_true ⟨⟨up_wide h, up_wide hu⟩, h1⟩), ih k (i + 1) (by omega) (by omega) (by omega) (fun _ => hu) (by omega)]
        exact dec_dd (by rw [likeF_cons]; exact ⟨fun x => ⟨⟨h, h1⟩, x⟩, fun x => x.2⟩)
      · rw [if_neg (by rw [decide_eq_true_iff]; exact fun x => h1 x.2)]; exact dec_ff (by rw [likeF_cons]; exact fun x => h1 x.1.2)
    · rw [if_neg (by rw [decide_eq_true_iff]; exact h)]; exact dec_ff (by rw [likeF_cons]; exact fun x => h x.1.1)
theorem stack_i {l : List S25} (hl : l.length ≤ 1048576) (hq : ∀ x ∈ l, x.f2.length ≤ 1048576) {k : Nat} (hk : 100 ≤ k) : impl_IsStack.f k l = some (decide (Stk l)) := by
  obtain ⟨k, rfl⟩ : ∃ m, k = m + 1 := ⟨k - 1, by omega⟩
  unfold impl_IsStack.f
  by_cases h : 1 ≤ (l.length : Int) ∧ (l.length : Int) ≤ 4
  · rw [if_neg (by omega), impl_IsStack.j0, if_neg (by rw [decide_eq_true_iff]; omega), stackl_i (by omega) hq l.length k 0 (by omega) (by omega) (by omega) (fun z => by omega) (by omega)]
    exact dec_dd (by unfold Stk; exact ⟨fun x => ⟨by omega, x⟩, fun x => x.2⟩)
  · have e : some false = some (decide (Stk l)) := dec_ff (fun x => h (by have := x.1; omega))
    by_cases h1 : (l.length : Int) < 1
    · rw [if_pos h1, impl_IsStack.j0, if_pos rfl, e]
    · rw [if_neg h1, impl_IsStack.j0, if_pos (by rw [decide_eq_true_iff]; omega), e]
theorem desk_i (a b c d : Int) {l m : List Int} {L : List S25} (hl : l.length ≤ 1048576) (hm : m.length ≤ 1048576) (hL : L.length ≤ 1048576) (hq : ∀ x ∈ L, x.f2.length ≤ 1048576) {k : Nat} (hk : 2200000 ≤ k) : impl_DeskOk.f k a b l c d m L = some (decide (dOk a b l c d m L)) := by
  unfold impl_DeskOk.f
  rw [pict_i hl, Option.bind_some]
  by_cases h1 : Up a b l 255
  · rw [if_pos (decide_eq_true h1), mtx_i hm, Option.bind_some]
    by_cases h2 : Mtx c d m
    · rw [if_pos (decide_eq_true h2)]
      by_cases h3 : (L.length : Int) = 0
      · rw [if_pos h3, decide_eq_true (show dOk a b l c d m L from ⟨⟨h1, h2⟩, .inl h3⟩)]
      · rw [if_neg h3, stack_i hL hq (by omega), Option.bind_some]
        by_cases h4 : Stk L
        · have hx := (h4.2 _ (mem_p (l := L) (i := 0) (by omega) (by omega))).1
          rw [if_pos (decide_eq_true h4), if_pos (by omega), alike_i _ _ _ _ hl (hq _ (mem_p (by omega) (by omega))), Option.bind_some]
          exact dec_dd ⟨fun z => ⟨⟨h1, h2⟩, .inr ⟨h4, z.2.1.symm, z.2.2.symm⟩⟩, fun z => z.2.elim (fun y => absurd y h3) (fun y => ⟨⟨h1, up_wide hx⟩, y.2.1.symm, y.2.2.symm⟩)⟩
        · rw [if_neg (by rw [decide_eq_true_iff]; exact h4)]; exact dec_ff (fun z => z.2.elim h3 (fun y => h4 y.1))
    · rw [if_neg (by rw [decide_eq_true_iff]; exact h2)]; exact dec_ff (fun z => h2 z.1.2)
  · rw [if_neg (by rw [decide_eq_true_iff]; exact h1)]; exact dec_ff (fun z => h1 z.1.1)
theorem eqs_l (d : Nat) : ∀ (k : Nat) (l : List Int) (i : Int), 0 ≤ i → l.length ≤ 1048576 → l.length - i.toNat ≤ d → d < k → laws_eqIntS.l0 k l l i = some true := by
  induction d with
  | zero =>
    intro k l i h0 hl hd hk
    obtain ⟨k, rfl⟩ : ∃ m, k = m + 1 := ⟨k - 1, by omega⟩
    rw [laws_eqIntS.l0, if_neg (by omega)]
  | succ d ih =>
    intro k l i h0 hl hd hk
    obtain ⟨k, rfl⟩ : ∃ m, k = m + 1 := ⟨k - 1, by omega⟩
    rw [laws_eqIntS.l0]
    by_cases h : i < (l.length : Int)
    · rw [if_pos h, if_pos h0, if_pos h, if_pos rfl, w64 (by omega) (by omega)]; exact ih k l (i + 1) (by omega) hl (by omega) (by omega)
    · rw [if_neg h]
theorem eqs {l : List Int} (hl : l.length ≤ 1048576) {k : Nat} (hk : 1100000 ≤ k) : laws_eqIntS.f k l l = some true := by
  unfold laws_eqIntS.f; rw [if_pos rfl, eqs_l l.length k l 0 (by omega) hl (by omega) (by omega)]
theorem eqp (a b : Int) {l : List Int} (hl : l.length ≤ 1048576) {k : Nat} (hk : 1100000 ≤ k) : laws_eqPicture.f k a b l a b l = some true := by
  unfold laws_eqPicture.f; rw [if_pos rfl, if_pos rfl, eqs hl hk]; rfl
theorem eqm (a b : Int) {l : List Int} (hl : l.length ≤ 1048576) {k : Nat} (hk : 1100000 ≤ k) : laws_eqMatrix.f k a b l a b l = some true := by
  unfold laws_eqMatrix.f; rw [if_pos rfl, if_pos rfl, eqs hl hk]; rfl
theorem eqps_l {l : List S25} (hl : l.length ≤ 1048576) (hq : ∀ x ∈ l, x.f2.length ≤ 1048576) (d : Nat) : ∀ (k : Nat) (i : Int), 0 ≤ i → i ≤ l.length → (l.length : Int) - i = d → d + 1100000 < k → laws_eqPictureS.l0 k l l i = some true := by
  induction d with
  | zero =>
    intro k i i0 i1 hd hk
    obtain ⟨k, rfl⟩ : ∃ m, k = m + 1 := ⟨k - 1, by omega⟩
    rw [laws_eqPictureS.l0, if_neg (by omega)]
  | succ d ih =>
    intro k i i0 i1 hd hk
    obtain ⟨k, rfl⟩ : ∃ m, k = m + 1 := ⟨k - 1, by omega⟩
    have hi : i < l.length := by omega
    rw [laws_eqPictureS.l0, if_pos hi, if_pos i0, if_pos hi, eqp _ _ (hq _ (mem_p i0 hi)) (by omega), Option.bind_some, if_pos rfl, w64 (by omega) (by omega)]
    exact ih k (i + 1) (by omega) (by omega) (by omega) (by omega)
theorem eqps {l : List S25} (hl : l.length ≤ 1048576) (hq : ∀ x ∈ l, x.f2.length ≤ 1048576) {k : Nat} (hk : 2200000 ≤ k) : laws_eqPictureS.f k l l = some true := by
  unfold laws_eqPictureS.f; rw [if_pos rfl, eqps_l hl hq l.length k 0 (by omega) (by omega) (by omega) (by omega)]
theorem eqd (a b c d : Int) {l m : List Int} {L : List S25} (hl : l.length ≤ 1048576) (hm : m.length ≤ 1048576) (hL : L.length ≤ 1048576) (hq : ∀ x ∈ L, x.f2.length ≤ 1048576) {k : Nat} (hk : 2200000 ≤ k) : laws_eqDesk.f k a b l c d m L a b l c d m L = some true := by
  unfold laws_eqDesk.f
  rw [eqp a b hl (by omega), Option.bind_some, if_pos rfl, eqm c d hm (by omega), Option.bind_some, if_pos rfl, eqps hL hq hk, Option.bind_some, if_pos rfl]
theorem pure_FnExactDeskOk (a b : Int) (l : List Int) (c d : Int) (m : List Int) (L : List S60) (hl : l.length ≤ 140737488351232) (hm : m.length ≤ 140737488351232) (hL : L.length ≤ 140737488351232) (hq : ∀ x ∈ L, x.f2.length ≤ 140737488351232) : ∃ k, laws_FnExactDeskOk.f k a b l c d m L = some true := by
  refine ⟨4000000, ?_⟩
  unfold laws_FnExactDeskOk.f
  obtain ⟨r, e, hr⟩ := szd a b c d hl hm hL hq (show 1100000 ≤ 4000000 by omega)
  rw [e, Option.bind_some]
  by_cases h : r < 0
  · rw [if_pos h]
  · rw [if_neg h]
    obtain ⟨hl', hm', hL', hq'⟩ := hr (by omega)
    have hml : (L.map cv).length ≤ 1048576 := by rw [List.length_map]; exact hL'
    have hmq := cv_len hq'
    simp (disch := first | assumption | omega) only [tod, Option.bind_some, desk_s, desk_i, eqd, bne_self_eq_false, Bool.false_eq_true, if_false, if_true]
end Go.Proofs.Ytheihidfbalioaa.PFnExactDeskOk
