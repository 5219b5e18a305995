/- What the functions that laws.FnExactNewDesk reaches compute, and that the law is true: over numbers alone. -/
import Derived.Test.YtheihidfbalioaaPFnExactNewDeskx
import Derived.Test.YtheihidfbalioaaPic2
import Derived.Laws.Strings
namespace Go.Proofs.Ytheihidfbalioaa.PFnExactNewDesk
open Go.RowKit Go.Proofs.YtheihidfbalioaaW.PrintWords Go.Proofs.YtheihidfbalioaaW.PrintLast Go.Proofs.YtheihidfbalioaaW.PrintMore
set_option linter.unusedVariables false
set_option linter.unusedSimpArgs false
set_option linter.unusedSimpArgs false
open Pic
theorem w64 {x : Int} (h1 : -9223372036854775808 ≤ x) (h2 : x ≤ 9223372036854775807) : wrap64 x = x := by unfold wrap64; omega
theorem rd_at (l : List Int) (i : Int) : rd l i = at_ l i := rfl
theorem tmod_pos {n x : Int} (h : 0 ≤ x) : Int.tmod x n = x % n := Int.tmod_eq_emod_of_nonneg h
theorem tdiv_pos {n x : Int} (h : 0 ≤ x) : Int.tdiv x n = x / n := Int.tdiv_eq_ediv_of_nonneg h
theorem dec_ff {p : Prop} [Decidable p] (h : ¬ p) : some false = some (decide p) := by rw [decide_eq_false h]
theorem dec_dd {p q : Prop} [Decidable p] [Decidable q] (h : p ↔ q) : some (decide p) = some (decide q) := by rw [decide_eq_decide.mpr h]
theorem mn_eq (a b : Int) : mn a b = if b < a then b else a := rfl
theorem up_wide {W H : Int} {l : List Int} (h : Up W H l 1) : Up W H l 255 := ⟨h.1, h.2.1, fun v hv => ⟨(h.2.2 v hv).1, by have := (h.2.2 v hv).2; omega⟩⟩
theorem mk_neg (n : Nat) : ¬ ((1 : Int) + n < 0) := by omega
theorem drop_p (l : List S25) {i : Int} (h0 : 0 ≤ i) (h : i < l.length) : l.drop i.toNat = rd_T25 l i :: l.drop (i + 1).toNat := by
  have hj : i.toNat < l.length := by omega
  have e : rd_T25 l i = l[i.toNat] := by unfold rd_T25; rw [List.getD_eq_getElem?_getD, List.getElem?_eq_getElem hj, Option.getD_some]
  rw [List.drop_eq_getElem_cons hj, e, show (i + 1).toNat = i.toNat + 1 by omega]
theorem mem_p {l : List S25} {i : Int} (h0 : 0 ≤ i) (h : i < l.length) : rd_T25 l i ∈ l := by
  have : rd_T25 l i ∈ l.drop i.toNat := by rw [drop_p l h0 h]; exact List.mem_cons_self
  exact List.mem_of_mem_drop this
theorem eqs_l (d : Nat) : ∀ (k : Nat) (l : List Int) (i : Int), 0 ≤ i → l.length ≤ 1048576 → l.length - i.toNat ≤ d → d < k → laws_eqIntS.l0 k l l i = some true := by
  induction d with
  | zero =>
    intro k l i h0 hl hd hk
    obtain ⟨k, rfl⟩ : ∃ m, k = m + 1 := ⟨k - 1, by omega⟩
    rw [laws_eqIntS.l0, if_neg (by omega)]
  | succ d ih =>
    intro k l i h0 hl hd hk
    obtain ⟨k, rfl⟩ : ∃ m, k = m + 1 := ⟨k - 1, by omega⟩
    rw [laws_eqIntS.l0]
    by_cases h : i < (l.length : Int)
    · rw [if_pos h, if_pos h0, if_pos h, if_pos rfl, w64 (by omega) (by omega)]; exact ih k l (i + 1) (by omega) hl (by omega) (by omega)
    · rw [if_neg h]
theorem eqs {l : List Int} (hl : l.length ≤ 1048576) {k : Nat} (hk : 1100000 ≤ k) : laws_eqIntS.f k l l = some true := by
  unfold laws_eqIntS.f; rw [if_pos rfl, eqs_l l.length k l 0 (by omega) hl (by omega) (by omega)]
theorem eqp (a b : Int) {l : List Int} (hl : l.length ≤ 1048576) {k : Nat} (hk : 1100000 ≤ k) : laws_eqPicture.f k a b l a b l = some true := by
  unfold laws_eqPicture.f; rw [if_pos rfl, if_pos rfl, eqs hl hk]; rfl
theorem eqm (a b : Int) {l : List Int} (hl : l.length ≤ 1048576) {k : Nat} (hk : 1100000 ≤ k) : laws_eqMatrix.f k a b l a b l = some true := by
  unfold laws_eqMatrix.f; rw [if_pos rfl, if_pos rfl, eqs hl hk]; rfl
theorem eqps_l {l : List S25} (hl : l.length ≤ 1048576) (hq : ∀ x ∈ l, x.f2.length ≤ 1048576) (d : Nat) : ∀ (k : Nat) (i : Int), 0 ≤ i → i ≤ l.length → (l.length : Int) - i = d → d + 1100000 < k → laws_eqPictureS.l0 k l l i = some true := by
  induction d with
  | zero =>
    intro k i i0 i1 hd hk
    obtain ⟨k, rfl⟩ : ∃ m, k = m + 1 := ⟨k - 1, by omega⟩
    rw [laws_eqPictureS.l0, if_neg (by omega)]
  | succ d ih =>
    intro k i i0 i1 hd hk
    obtain ⟨k, rfl⟩ : ∃ m, k = m + 1 := ⟨k - 1, by omega⟩
    have hi : i < l.length := by omega
    rw [laws_eqPictureS.l0, if_pos hi, if_pos i0, if_pos hi, eqp _ _ (hq _ (mem_p i0 hi)) (by omega), Option.bind_some, if_pos rfl, w64 (by omega) (by omega)]
    exact ih k (i + 1) (by omega) (by omega) (by omega) (by omega)
theorem eqps {l : List S25} (hl : l.length ≤ 1048576) (hq : ∀ x ∈ l, x.f2.length ≤ 1048576) {k : Nat} (hk : 2200000 ≤ k) : laws_eqPictureS.f k l l = some true := by
  unfold laws_eqPictureS.f; rw [if_pos rfl, eqps_l hl hq l.length k 0 (by omega) (by omega) (by omega) (by omega)]
theorem eqd (a b c d : Int) {l m : List Int} {L : List S25} (hl : l.length ≤ 1048576) (hm : m.length ≤ 1048576) (hL : L.length ≤ 1048576) (hq : ∀ x ∈ L, x.f2.length ≤ 1048576) {k : Nat} (hk : 2200000 ≤ k) : laws_eqDesk.f k a b l c d m L a b l c d m L = some true := by
  unfold laws_eqDesk.f
  rw [eqp a b hl (by omega), Option.bind_some, if_pos rfl, eqm c d hm (by omega), Option.bind_some, if_pos rfl, eqps hL hq hk, Option.bind_some, if_pos rfl]
theorem empty_s {W H : Int} (h : Sz W H) : spec_l1Empty.f W H = some (W, H, List.replicate (W * H).toNat 0) := by
  have := h.area
  unfold spec_l1Empty.f
  rw [w64 (by omega) (by omega), if_pos (by omega), if_pos (by omega)]
-- nothing on spec_NewDesk
theorem size_i (W H : Int) : impl_sized.f W H = some (decide (Sz W H)) := by
  unfold impl_sized.f
  by_cases h : 1 ≤ W ∧ W ≤ 64 ∧ 1 ≤ H ∧ H ≤ 64
  · have := mul_bd (c := 64) (d := 64) (show 0 ≤ W by omega) h.2.1 (show 0 ≤ H by omega) h.2.2.2
    rw [if_pos (by omega), if_pos (by omega), if_pos (by omega), if_pos (by omega), w64 (by omega) (by omega)]
    exact dec_dd (by unfold Sz; omega)
  · repeat' split
    all_goals first | exact dec_ff (by unfold Sz; omega) | (exfalso; omega)
theorem gridO_tab {W H : Int} {AT : Int → Int → Option Int} {F : Int → Int} (hW : 1 ≤ W) (hH : 0 ≤ H) (h : ∀ x y, 0 ≤ x → x < W → 0 ≤ y → y < H → AT x y = some (F (y * W + x))) : Ext.gridO W H AT = some (tab F (W * H).toNat 0) := by
  rw [Ext.gridO_of (g := fun x y => F (y * W + x)) hW hH h]
  simp only [Option.some.injEq]
  unfold Ext.grid Ext.pref
  rw [← tab_range]
  apply List.map_congr_left
  intro i _
  show F ((i : Int) / W * W + (i : Int) % W) = _
  rw [xy_of]
theorem drawn_some {W H : Int} (hs : Sz W H) {AT : Int → Int → Option Int} {F : Int → Int} (h : ∀ x y, 0 ≤ x → x < W → 0 ≤ y → y < H → AT x y = some (F (y * W + x))) :
    (if 1 ≤ W ∧ W ≤ 1024 ∧ 0 ≤ H ∧ H ≤ 1024 ∧ W * H ≤ 1024 then (Ext.gridO W H AT).map fun l => (W, H, l) else none) = some (W, H, tab F (W * H).toNat 0) := by
  have hW := hs.1; have hW2 := hs.2.1; have hH := hs.2.2.1; have hH2 := hs.2.2.2.1; have ha := hs.area
  rw [if_pos (by omega), gridO_tab hW (by omega) h]; rfl
theorem idx_w {W H x y : Int} (hs : Sz W H) (x0 : 0 ≤ x) (x1 : x < W) (y0 : 0 ≤ y) (y1 : y < H) : wrap64 (wrap64 (y * W) + x) = y * W + x ∧ 0 ≤ y * W + x ∧ y * W + x < W * H ∧ (y * W + x) % W = x ∧ (y * W + x) / W = y := by
  have hi := xy_idx x0 x1 y0 y1
  have hW := hs.1; have hW2 := hs.2.1; have hH2 := hs.2.2.2.1; have ha := hs.area
  have q := mul_bd (c := 64) (d := 64) y0 (by omega) (show 0 ≤ W by omega) hW2
  refine ⟨by rw [w64 (x := y * W) (by omega) (by omega), w64 (by omega) (by omega)], hi.1, hi.2, ?_, ?_⟩
  · rw [Int.add_comm, Int.add_mul_emod_self_right, Int.emod_eq_of_lt x0 x1]
  · rw [Int.add_comm, Int.add_mul_ediv_right _ _ (by omega), Int.ediv_eq_zero_of_lt x0 x1, Int.zero_add]
-- nothing on impl_FlatPicture_1
-- nothing on impl_FlatPicture_1.drawn
-- nothing on impl_FlatPicture
-- nothing on impl_celled
theorem seen_set {S : List Bool} {seen : List Int} (hS : ∀ i : Int, 0 ≤ i → i < S.length → (rdOf false S i = true ↔ i ∈ seen)) {v : Int} (h0 : 0 ≤ v) (h1 : v < S.length) : ∀ i : Int, 0 ≤ i → i < (S.set v.toNat true).length → (rdOf false (S.set v.toNat true) i = true ↔ i ∈ v :: seen) := by
  intro i i0 i1
  rw [List.length_set] at i1
  have := hS i i0 i1
  unfold rdOf at this ⊢
  rw [List.getD_eq_getElem?_getD, List.getElem?_set]
  by_cases e : v.toNat = i.toNat
  · rw [if_pos e, if_pos (by omega)]
    have : i = v := by omega
    simp [this]
  · rw [if_neg e, ← List.getD_eq_getElem?_getD, this, List.mem_cons]
    constructor
    · exact fun h => .inr h
    · intro h; rcases h with h | h
      · omega
      · exact h
theorem nwB_eq (n : Int) : ∀ (l seen : List Int), Ext.nwB n l seen = decide (newL n l seen) := by
  intro l
  induction l with
  | nil => intro seen; rw [Ext.nwB, decide_eq_true (show newL n [] seen from trivial)]
  | cons v l ih =>
    intro seen
    rw [Ext.nwB, ih]
    by_cases h : (0 ≤ v ∧ v < n) ∧ v ∉ seen
    · rw [if_pos h]; exact decide_eq_decide.mpr ⟨fun z => ⟨h.1, h.2, z⟩, fun z => z.2.2⟩
    · rw [if_neg h, decide_eq_false (fun z => h ⟨z.1, z.2.1⟩)]
theorem mtx_i {W H : Int} {l : List Int} (hl : l.length ≤ 1048576) : impl_IsMatrix.f W H l = some (decide (Mtx W H l)) := by
  unfold impl_IsMatrix.f
  rw [if_pos (by omega)]
  simp only [Option.some.injEq]
  unfold Ext.mtxB
  have e : Ext.celB W H = true ↔ Cel W H := by unfold Ext.celB Cel; exact decide_eq_true_iff
  by_cases h : Ext.celB W H = true ∧ (l.length : Int) = W * H
  · rw [if_pos h, nwB_eq]; exact decide_eq_decide.mpr ⟨fun z => ⟨e.mp h.1, h.2, z⟩, fun z => z.2.2⟩
  · rw [if_neg h, decide_eq_false (fun z => h ⟨e.mpr z.1, z.2.1⟩)]
theorem mtx_el {n : Int} {L : List Int} : ∀ {l seen : List Int}, newL n l seen → ∀ v ∈ l, 0 ≤ v ∧ v < n := by
  intro l
  induction l with
  | nil => intro seen _ v hv; simp at hv
  | cons x l ih =>
    intro seen h v hv
    rcases List.mem_cons.mp hv with e | e
    · subst e; exact h.1
    · exact ih h.2.2 v e
-- nothing on impl_ranked
theorem mod_i {x n : Int} (h0 : 0 < n) (h1 : n ≤ 9223372036854775807) : impl_mod.f x n = some (x % n) := by
  unfold impl_mod.f
  rw [if_neg (by omega)]
  have h2 := Int.emod_nonneg x (show n ≠ 0 by omega)
  have h3 := Int.emod_lt_of_pos x h0
  have e := Int.tmod_eq_emod (a := x) (b := n)
  by_cases hc : 0 ≤ x ∨ n ∣ x
  · rw [if_pos hc] at e
    rw [e, if_neg (by omega)]; simp
  · rw [if_neg hc] at e
    rw [e, if_pos (by omega), w64 (by omega) (by omega)]; simp only [Option.some.injEq]; omega
theorem rank_at {W H : Int} {M : List Int} (h : Mtx W H M) {x y : Int} (x0 : 0 ≤ x) (x1 : x < W) (y0 : 0 ≤ y) (y1 : y < H) : impl_rank.f W H M x y = some (at_ M (y * W + x)) := by
  have hc := h.1; have hW := hc.1; have hW2 := hc.2.1; have hH := hc.2.2.1; have hH2 := hc.2.2.2.1; have ha := hc.area; have hl := h.2.1
  have hi := xy_idx x0 x1 y0 y1
  have q := mul_bd (c := 256) (d := 256) y0 (by omega) (show 0 ≤ W by omega) hW2
  unfold impl_rank.f
  rw [mod_i (by omega) (by omega), Option.bind_some, mod_i (by omega) (by omega), Option.bind_some, Int.emod_eq_of_lt x0 x1, Int.emod_eq_of_lt y0 y1, w64 (x := y * W) (by omega) (by omega), w64 (by omega) (by omega), if_pos hi.1, if_pos (by omega), rd_at]
-- nothing on impl_DoubleMatrix
-- nothing on impl_BayerMatrix
-- nothing on impl_NewDesk
theorem marks_l (d : Nat) : ∀ (k : Nat) (l : List Int) (m i : Int), 0 ≤ i → i ≤ l.length → 0 ≤ m → m + d ≤ 1000000000 → l.length ≤ 1048576 → (l.length : Int) - i = d → d < k →
    laws_markIntS.l0 k l m i = some (m + d, l.take i.toNat ++ marks m d) := by
  induction d with
  | zero =>
    intro k l m i h0 h1 m0 m1 hl hd hk
    obtain ⟨k, rfl⟩ : ∃ m, k = m + 1 := ⟨k - 1, by omega⟩
    rw [laws_markIntS.l0, if_neg (by omega)]
    simp only [marks, List.append_nil, List.take_of_length_le (show l.length ≤ i.toNat by omega)]
    rw [show m + ((0 : Nat) : Int) = m by omega]
  | succ d ih =>
    intro k l m i h0 h1 m0 m1 hl hd hk
    obtain ⟨k, rfl⟩ : ∃ m, k = m + 1 := ⟨k - 1, by omega⟩
    rw [laws_markIntS.l0, if_pos (by omega), if_pos h0, w64 (by omega) (by omega), w64 (by omega) (by omega), ih k _ (m + 1) (i + 1) (by omega) (by rw [List.length_set]; omega) (by omega) (by omega) (by rw [List.length_set]; omega) (by rw [List.length_set]; omega) (by omega)]
    have e : (l.set i.toNat m).take (i + 1).toNat = l.take i.toNat ++ [m] := by
      rw [show (i + 1).toNat = i.toNat + 1 by omega, List.take_succ_eq_append_getElem (by rw [List.length_set]; omega), List.getElem_set]
      rw [if_pos rfl, List.take_set_of_le (Nat.le_refl _)]
    rw [e]
    simp only [marks, List.append_assoc, List.cons_append, List.nil_append]
    rw [show m + 1 + (d : Int) = m + ((d + 1 : Nat) : Int) by omega]
theorem mark_s {l : List Int} {m : Int} (m0 : 0 ≤ m) (m1 : m ≤ 100000000) (hl : l.length ≤ 1048576) {k : Nat} (hk : 1100000 ≤ k) : laws_markIntS.f k l m = some (m + l.length, marks m l.length) := by
  unfold laws_markIntS.f; rw [marks_l l.length k l m 0 (by omega) (by omega) m0 (by omega) hl (by omega) (by omega)]; rfl
theorem mark_p (a b : Int) {l : List Int} {m : Int} (m0 : 0 ≤ m) (m1 : m ≤ 100000000) (hl : l.length ≤ 1048576) {k : Nat} (hk : 1100000 ≤ k) : laws_markPicture.f k a b l m = some (m + l.length, marks m l.length) := by
  unfold laws_markPicture.f; rw [mark_s m0 m1 hl hk]; rfl
theorem mark_m (a b : Int) {l : List Int} {m : Int} (m0 : 0 ≤ m) (m1 : m ≤ 100000000) (hl : l.length ≤ 1048576) {k : Nat} (hk : 1100000 ≤ k) : laws_markMatrix.f k a b l m = some (m + l.length, marks m l.length) := by
  unfold laws_markMatrix.f; rw [mark_s m0 m1 hl hk]; rfl
-- nothing on laws_markPictureS
-- nothing on laws_markDesk
theorem held_l (n : Nat) (m : Int) (m0 : 0 ≤ m) (m1 : m ≤ 100000000) (hn : n ≤ 1048576) (d : Nat) : ∀ (k : Nat) (i : Int), 0 ≤ i → i ≤ n → (n : Int) - i = d → d < k → laws_heldIntS.l0 k (marks m n) (m + i) i = some (m + n) := by
  induction d with
  | zero =>
    intro k i h0 h1 hd hk
    obtain ⟨k, rfl⟩ : ∃ m, k = m + 1 := ⟨k - 1, by omega⟩
    rw [laws_heldIntS.l0, if_neg (by rw [marks_length]; omega), show m + i = m + (n : Int) by omega]
  | succ d ih =>
    intro k i h0 h1 hd hk
    obtain ⟨k, rfl⟩ : ∃ m, k = m + 1 := ⟨k - 1, by omega⟩
    have e : rd (marks m n) i = m + i := by
      rw [rd_at]; unfold at_; rw [List.getD_eq_getElem?_getD, marks_at n m i.toNat (by omega), Option.getD_some]; omega
    rw [laws_heldIntS.l0, if_pos (by rw [marks_length]; omega), if_pos h0, if_pos e, w64 (by omega) (by omega), w64 (by omega) (by omega), show m + i + 1 = m + (i + 1) by omega]
    exact ih k (i + 1) (by omega) (by omega) (by omega) (by omega)
theorem held_s {n : Nat} {m : Int} (m0 : 0 ≤ m) (m1 : m ≤ 100000000) (hn : n ≤ 1048576) {k : Nat} (hk : 1100000 ≤ k) : laws_heldIntS.f k (marks m n) m = some (m + n) := by
  have := held_l n m m0 m1 hn n k 0 (by omega) (by omega) (by omega) (by omega)
  rw [Int.add_zero] at this
  unfold laws_heldIntS.f; exact this
theorem held_p (a b : Int) {n : Nat} {m : Int} (m0 : 0 ≤ m) (m1 : m ≤ 100000000) (hn : n ≤ 1048576) {k : Nat} (hk : 1100000 ≤ k) : laws_heldPicture.f k a b (marks m n) m = some (m + n) := by
  unfold laws_heldPicture.f; rw [held_s m0 m1 hn hk, Option.bind_some, if_neg (by omega)]
theorem held_m (a b : Int) {n : Nat} {m : Int} (m0 : 0 ≤ m) (m1 : m ≤ 100000000) (hn : n ≤ 1048576) {k : Nat} (hk : 1100000 ≤ k) : laws_heldMatrix.f k a b (marks m n) m = some (m + n) := by
  unfold laws_heldMatrix.f; rw [held_s m0 m1 hn hk, Option.bind_some, if_neg (by omega)]
-- nothing on laws_heldPictureS
-- nothing on laws_heldDesk
theorem pure_FnExactNewDesk : ∃ k, laws_FnExactNewDesk.f k = some true := ⟨100, by kernel_rfl⟩

end Go.Proofs.Ytheihidfbalioaa.PFnExactNewDesk
