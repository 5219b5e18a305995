/- Machine side of laws FnDesk: written for this claim by the kit's print program under this session's wip/tools/mp_setup.py (with contracts of the session's own, wip/ext). -/
import Derived.Test.YtkcgnnepgebekaaGreatDoorPFnDeskx0
import Derived.Test.YtkcgnnepgebekaaGreatDoorPFnDeskx1
import Derived.Test.YtkcgnnepgebekaaGreatDoorPFnDeskx3
import Derived.Test.YtkcgnnepgebekaaGreatDoorPFnDeskx7
namespace Go.Proofs.YtkcgnnepgebekaaGreatDoor.PFnDesk
open Go.RowKit Go.Proofs.YtkcgnnepgebekaaGreatDoorW.PrintWords Go.Proofs.YtkcgnnepgebekaaGreatDoorW.PrintLast Go.Proofs.YtkcgnnepgebekaaGreatDoorW.PrintMore
attribute [local go_sem] max2_int min2_int max_two min_two max_three min_three max_four min_four   -- for this text's walks alone
set_option linter.unusedVariables false
set_option linter.unusedSimpArgs false
-- squeezed: words under short names
set_option linter.defProp false in
def z0i := @Aside0.mk
set_option linter.defProp false in
def z1i := @blk_drewN
set_option linter.defProp false in
def z2i := @blk_alloc
set_option linter.defProp false in
def z3i := @blk_drew
set_option linter.defProp false in
def z8i := @Kd.R_alloc
set_option linter.defProp false in
def z9i := @Kd.R_drewN
set_option linter.defProp false in
def y1i := @Kd.R_drew
set_option linter.defProp false in
def x1i := @Kd.R_far
set_option linter.defProp false in
def x2i := @blk_frozen
set_option linter.defProp false in
def x3i := @blk_cell
set_option linter.defProp false in
def x4i := @Kd.R_below
set_option linter.defProp false in
def x6i := @Kd.R_mono
set_option linter.defProp false in
def x7i := @Kd.R_types
set_option linter.defProp false in
def x9i := @Kd.R_ne
set_option linter.defProp false in
def w2_i := @Kd.R_base
def bsi_ (n m : Nat) : Array Bool := ((List.range n).map fun i => m.testBit i).toArray
theorem s1i_ {α : Type} (l : List α) (i : Nat) (a : α) : l.toArray.setIfInBounds i a = (l.set i a).toArray := List.setIfInBounds_toArray l i a
theorem s2i_ {α : Type} (a b : α) (l : List α) : (a :: l).set 0 b = b :: l := rfl
theorem s3i_ {α : Type} (a b : α) (n : Nat) (l : List α) : (a :: l).set (n + 1) b = a :: l.set n b := rfl

def impl_Desk_numbered.f (k : Nat) (a0_0 : Int) (a0_1 : Int) (l0_2 : List Int) (a0_3 : Int) (a0_4 : Int) (l0_5 : List Int) (l0_6 : List (S27)) (a1 : ByteArray) (l2 : List Int) : Option (Int × Int × List Int × Int × Int × List Int × (List (S27)) × ByteArray) := if a1.size ≤ 100 then (if (l2.length : Int) = (Ext.wanted a1) then (if a1.toList = ([102, 108, 97, 116] : List UInt8) then (none) else (if a1.toList = ([114, 97, 109, 112] : List UInt8) then (if 0 < (l2.length : Int) then (if 1 < (l2.length : Int) then ((impl_RampPicture.f (rd l2 0) (rd l2 1)).bind fun bt275 => ((impl_Desk_pictured.f a0_0 a0_1 l0_2 a0_3 a0_4 l0_5 l0_6 bt275.1 bt275.2.1 bt275.2.2.1 bt275.2.2.2).bind fun bt282 => (some (bt282.1, bt282.2.1, bt282.2.2.1, bt282.2.2.2.1, bt282.2.2.2.2.1, bt282.2.2.2.2.2.1, bt282.2.2.2.2.2.2.1, bt282.2.2.2.2.2.2.2)))) else (none)) else (none)) else (if a1.toList = ([98, 97, 121, 101, 114] : List UInt8) then (if 0 < (l2.length : Int) then ((impl_BayerMatrix.f k (rd l2 0)).bind fun bt297 => ((impl_Desk_screened.f a0_0 a0_1 l0_2 a0_3 a0_4 l0_5 l0_6 bt297.1 bt297.2.1 bt297.2.2.1 bt297.2.2.2).bind fun bt304 => (some (bt304.1, bt304.2.1, bt304.2.2.1, bt304.2.2.2.1, bt304.2.2.2.2.1, bt304.2.2.2.2.2.1, bt304.2.2.2.2.2.2.1, bt304.2.2.2.2.2.2.2)))) else (none)) else (if a1.toList = ([115, 112, 105, 114, 97, 108] : List UInt8) then (none) else (if a1.toList = ([115, 112, 111, 116] : List UInt8) then (none) else (if a1.toList = ([115, 104, 105, 102, 116] : List UInt8) then (none) else (if a1.toList = ([114, 97, 110, 107] : List UInt8) then (none) else (if 0 < (l2.length : Int) then (none) else (none))))))))) else (none)) else none
def impl_Desk_numbered.T9 : Bool × List (List Nat × List Nat) := (true, [([], []), ([0], [0]), ([1], [1]), ([], []), ([3], [3]), ([4], [4]), ([2, 5], [2, 5]), ([6], [6]), ([7], [7]), ([7], [7]), ([], []), ([10, 8, 6, 0, 1, 2, 3, 4, 5, 6, 7, 8, 10], [8, 10]), ([9, 11, 0, 1, 2, 3, 4, 5, 6, 7, 8, 9, 10, 11], [9])])
def impl_Desk_numbered.B9 : List Nat := [0, 1, 3, 0, 8, 24, 63, 127, 255, 255, 0, 1535, 4095]
theorem impl_Desk_numbered.tab9 : rtab .any (opsOf Tryz.f41 9) = impl_Desk_numbered.T9 := by kernel_rfl
theorem impl_Desk_numbered.bits9 : waitsOk impl_Desk_numbered.T9.2 impl_Desk_numbered.B9 = true := by kernel_rfl
set_option maxHeartbeats 8000000 in
set_option maxRecDepth 100000 in
theorem impl_Desk_numbered.calls (k : Nat) (a0_0 : Int) (a0_1 : Int) (P0_2_ : Nat → Prop) (u9000_ : Value) (l0_2 : List Int) (a0_3 : Int) (a0_4 : Int) (P0_5_ : Nat → Prop) (u9001_ : Value) (l0_5 : List Int) (P0_6_ : Nat → Prop) (A0_6 : Option Addr) (c0_6 : Nat) (l0_6 : List (S27)) (a1 : ByteArray) (A2 : Option Addr) (c2 : Nat) (l2 : List Int) (r1 : Int) (r2 : Int) (r3 : List Int) (r4 : Int) (r5 : Int) (r6 : List Int) (r7 : List (S27)) (r8 : ByteArray) (w0 w : World) (hB : Below w0.heap.size w0 w) (ho0_2 : Kd.R (Kd.int .i64) 3 w w0.heap.size P0_2_ u9000_ l0_2) (hp0_2_0_5 : ∀ k_, P0_2_ k_ → ¬ P0_5_ k_) (ho0_5 : Kd.R (Kd.int .i64) 3 w w0.heap.size P0_5_ u9001_ l0_5) (hp0_5_0_2 : ∀ k_, P0_5_ k_ → ¬ P0_2_ k_) (hs0_6 : Kd.V k27 27 w w0.heap.size (fun k_ => P0_6_ k_ ∧ some k_ ≠ (u9000_ : Value).ownBlock ∧ some k_ ≠ (u9001_ : Value).ownBlock) (.slice A0_6 l0_6.length c0_6) l0_6) (hr2 : ∀ W_, Kept w W_ (fun k_ => P0_2_ k_ ∨ P0_5_ k_) → Kd.C (Kd.int .i64) W_ A2 l2.length l2) (hc2 : l2.length ≤ c2) (hG_ : Ext.Glob w0) (h : impl_Desk_numbered.f k a0_0 a0_1 l0_2 a0_3 a0_4 l0_5 l0_6 a1 l2 = some (r1, r2, r3, r4, r5, r6, r7, r8)) :
  Calls Tryz.prog 41 #[.agg #[.int .i64 a0_0, .int .i64 a0_1, u9000_, .int .i64 a0_3, .int .i64 a0_4, u9001_, .slice A0_6 l0_6.length c0_6], .string a1, .slice A2 l2.length c2] w fun e w' => ∃ v2_ v5_ v6_ : Value, e = .returned (.tuple #[.agg #[.int .i64 r1, .int .i64 r2, v2_, .int .i64 r4, .int .i64 r5, v5_, v6_], .string r8]) ∧ Kd.R (Kd.int .i64) 3 w' w0.heap.size (fun k_ => ((P0_2_ k_ ∨ P0_5_ k_) ∨ w.heap.size ≤ k_) ∧ some k_ ≠ (v5_ : Value).ownBlock) v2_ r3 ∧ Kd.R (Kd.int .i64) 3 w' w0.heap.size (fun k_ => ((P0_2_ k_ ∨ P0_5_ k_) ∨ w.heap.size ≤ k_) ∧ some k_ ≠ (v2_ : Value).ownBlock) v5_ r6 ∧ Kd.V k27 27 w' w0.heap.size (fun k_ => ((P0_2_ k_ ∨ P0_5_ k_ ∨ P0_6_ k_) ∨ w.heap.size ≤ k_) ∧ some k_ ≠ (v2_ : Value).ownBlock ∧ some k_ ≠ (v5_ : Value).ownBlock) v6_ r7 ∧ Below w0.heap.size w0 w' ∧ Kept w w' (fun k_ => P0_2_ k_ ∨ P0_5_ k_) := by
 have HGB_ := z0i hG_
 clear hG_
 have hu55 := Tryz.underlying55
 have hu27 := Tryz.underlying27
 have hu31 := Tryz.underlying31
 have hu95 := Tryz.underlying95
 have HO0_2 := z0i (show Kd.R (Kd.int .i64) 3 w w0.heap.size (fun k_ => ((P0_2_ k_ ∨ P0_5_ k_) ∨ w.heap.size ≤ k_) ∧ some k_ ≠ (u9001_ : Value).ownBlock) u9000_ l0_2 from x6i ho0_2 (fun k_ hk => ⟨(.inl (.inl hk)), fun e_ => hp0_2_0_5 k_ hk (ho0_5.1 k_ e_.symm)⟩))
 have HO0_5 := z0i (show Kd.R (Kd.int .i64) 3 w w0.heap.size (fun k_ => ((P0_2_ k_ ∨ P0_5_ k_) ∨ w.heap.size ≤ k_) ∧ some k_ ≠ (u9000_ : Value).ownBlock) u9001_ l0_5 from x6i ho0_5 (fun k_ hk => ⟨(.inl (.inr hk)), fun e_ => hp0_5_0_2 k_ hk (ho0_2.1 k_ e_.symm)⟩))
 have HO0_6 := z0i (show Kd.V k27 27 w w0.heap.size (fun k_ => ((P0_2_ k_ ∨ P0_5_ k_ ∨ P0_6_ k_) ∨ w.heap.size ≤ k_) ∧ some k_ ≠ (u9000_ : Value).ownBlock ∧ some k_ ≠ (u9001_ : Value).ownBlock) (.slice A0_6 l0_6.length c0_6) l0_6 from Kd.V_mono hs0_6 (fun k_ hk => ⟨.inl (.inr (.inr hk.1)), hk.2⟩))
 have HR2 := z0i hr2
 have HC2 := z0i hc2
 clear hr2 hc2
 have HK := z0i (Kept.refl w (fun k_ => P0_2_ k_ ∨ P0_5_ k_))
 have HW0 := z0i hB.size
 have HB := z0i hB
 clear hB
 have hsz_ : a1.size ≤ 100 := by
  rcases Nat.lt_or_ge 100 a1.size with q | q
  ·rw [impl_Desk_numbered.f, if_neg (by omega)] at h; cases h
  ·exact q
 rw [impl_Desk_numbered.f, if_pos hsz_] at h
 have HSZ_ := z0i hsz_
 clear hsz_
 have H := h
 unfold impl_Desk_numbered.f at H
 clear h
 by_cases c4 : (l2.length : Int) = (Ext.wanted a1)
 ·rw [if_pos c4] at H
  have c4b0 : ((l2.length : Int) == (Ext.wanted a1)) = true := beq_iff_eq.mpr c4
  have c4b1 : ((l2.length : Int) != (Ext.wanted a1)) = false := bne_eq_false_iff_eq.mpr c4
  clear c4
  by_cases c5 : a1.toList = ([102, 108, 97, 116] : List UInt8)
  ·rw [if_pos c5] at H
   exact absurd H (by simp)
  ·rw [if_neg c5] at H
   have c5b0 : (a1.toList == ([102, 108, 97, 116] : List UInt8)) = false := beq_eq_false_iff_ne.mpr c5
   have c5b1 : (a1.toList != ([102, 108, 97, 116] : List UInt8)) = true := bne_iff_ne.mpr c5
   by_cases c6 : a1.toList = ([114, 97, 109, 112] : List UInt8)
   ·rw [if_pos c6] at H
    have c6b0 : (a1.toList == ([114, 97, 109, 112] : List UInt8)) = true := beq_iff_eq.mpr c6
    have c6b1 : (a1.toList != ([114, 97, 109, 112] : List UInt8)) = false := bne_eq_false_iff_eq.mpr c6
    clear c6
    by_cases c7 : 0 < (l2.length : Int)
    ·rw [if_pos c7] at H
     have c7b0 : decide (0 < (l2.length : Int)) = true := decide_eq_true c7
     have c7b1 : decide (0 < l2.length) = true := decide_eq_true (by omega)
     clear c7
     by_cases c8 : 1 < (l2.length : Int)
     ·rw [if_pos c8] at H
      have c8b0 : decide (1 < (l2.length : Int)) = true := decide_eq_true c8
      have c8b1 : decide (1 < l2.length) = true := decide_eq_true (by omega)
      clear c8
      replace H := Option.bind_eq_some_iff.mp H
      obtain ⟨⟨t275, t276, t277, t280⟩, A90, H⟩ := H
      (try dsimp only at H)
      have A9 := z0i A90
      clear A90
      replace H := Option.bind_eq_some_iff.mp H
      obtain ⟨⟨t282, t283, t284, t287, t288, t289, t292, t295⟩, A100, H⟩ := H
      (try dsimp only at H)
      have A10 := z0i A100
      clear A100
      simp only [Option.some.injEq, Prod.mk.injEq] at H
      obtain ⟨rfl, rfl, rfl, rfl, rfl, rfl, rfl, rfl⟩ := H
      obtain ⟨Ao11, co11, eo11⟩ := Kd.R_slice HO0_2.out
      subst eo11
      obtain ⟨Ao12, co12, eo12⟩ := Kd.R_slice HO0_5.out
      subst eo12
      go_enter Tryz.func41, Tryz.ntmps41
      try go_wp2_with (first | ((with_reducible refine gate_dst (N := 3) rfl ?_); refine box_event rfl (N := 3) rfl (cs := #[.int .i64 a0_0, .int .i64 a0_1, .slice Ao11 l0_2.length co11, .int .i64 a0_3, .int .i64 a0_4, .slice Ao12 l0_5.length co12, .slice A0_6 l0_6.length c0_6]) (t := 55) (by first | (go_simp; done) | (go_simp; rfl)) ?_; intro gb270 hg w13 hbox hb; have n_ := a8 (x4i (rV HO0_2.out) hb) (x4i (rV HO0_5.out) hb) (Kd.V_below (Kd.V_elderB (vV HO0_6.out) gb270 (Nat.le_of_eq hg.symm)) hb) (Kept.below (S := (fun k_ => P0_2_ k_ ∨ P0_5_ k_)) (by repeat (first | (with_reducible first | exact HK.out | apply Kept.alloc | apply Kept.drewN | apply Kept.drew) | exact HK.out)) hb) (dU HB.out hb) (hbox) ((by rw [hg]; exact (by first | exact HK.out.1 | exact (show Kept w _ (fun k_ => P0_2_ k_ ∨ P0_5_ k_) from by repeat (first | (with_reducible first | exact HK.out | apply Kept.alloc | apply Kept.drewN | apply Kept.drew) | exact HK.out)).1) : w.heap.size ≤ gb270)) (gE hg HB.out); clear HO0_2 HO0_5 HO0_6 HK HB; obtain ⟨HO0_2, HO0_5, HO0_6, HK, HB, BK270, GW270, GE270⟩ := n_; have gi_270 := GEc.mk GE270.out; clear hb hbox hg) | ((with_reducible refine gate_dst (N := 6) rfl ?_); refine box_event rfl (N := 6) rfl (cs := #[.int .i64 0, .int .i64 0, .slice none 0 0, .int .i64 0, .int .i64 0, .slice none 0 0, .slice none 0 0]) (t := 55) (by first | (go_simp; done) | (go_simp; rfl)) ?_; intro gb271 hg w14 hbox hb; have n_ := a11 (x4i (rV HO0_2.out) hb) (x4i (rV HO0_5.out) hb) (Kd.V_below (Kd.V_elderB (vV HO0_6.out) gb271 (Nat.le_of_eq hg.symm)) hb) (bU BK270.out hb) (Kept.below (S := (fun k_ => P0_2_ k_ ∨ P0_5_ k_)) (by repeat (first | (with_reducible first | exact HK.out | apply Kept.alloc | apply Kept.drewN | apply Kept.drew | refine Kept.setCell ?_ (.inr GW270.out) _) | exact HK.out)) hb) (dU HB.out hb) (hbox) ((by rw [hg]; exact (by first | exact HK.out.1 | exact (show Kept w _ (fun k_ => P0_2_ k_ ∨ P0_5_ k_) from by repeat (first | (with_reducible first | exact HK.out | apply Kept.alloc | apply Kept.drewN | apply Kept.drew | refine Kept.setCell ?_ (.inr GW270.out) _) | exact HK.out)).1) : w.heap.size ≤ gb271)) (gE hg HB.out) (nL hg BK270.out) (nG hg BK270.out); clear HO0_2 HO0_5 HO0_6 BK270 HK HB; obtain ⟨HO0_2, HO0_5, HO0_6, BK270, HK, HB, BK271, GW271, GE271, NB270_271, NB271_270⟩ := n_; have gi_271 := GEc.mk GE271.out; clear hb hbox hg) | ((with_reducible refine gate_dst (N := 24) rfl ?_); refine Ext.map8 _ 24 ?h0 ?hs ?he ?_; (case h0 => exact ⟨rfl, rfl⟩); (case hs => rfl); (case he => exact (fun _ => rfl)); intro gb272 ow_ w15 hg iw_ hbox hb; have HLK_ := Ext.looks hbox iw_ a1 (by have := HSZ_.out; unfold maxLen; omega); clear iw_; have n_ := a14 (x4i (Kd.R_elderB (rV HO0_2.out) gb272 (Nat.le_of_eq hg.symm)) hb) (x4i (Kd.R_elderB (rV HO0_5.out) gb272 (Nat.le_of_eq hg.symm)) hb) (Kd.V_below (Kd.V_elderB (vV HO0_6.out) gb272 (Nat.le_of_eq hg.symm)) hb) (bU BK270.out hb) (bU BK271.out hb) (Kept.below (S := (fun k_ => P0_2_ k_ ∨ P0_5_ k_)) (by repeat (first | (with_reducible first | exact HK.out | apply Kept.alloc | apply Kept.drewN | apply Kept.drew | refine Kept.setCell ?_ (.inr GW270.out) _ | refine Kept.setCell ?_ (.inr GW271.out) _) | exact HK.out)) hb) (dU HB.out hb) (hbox) ((by rw [hg]; exact (by first | exact HK.out.1 | exact (show Kept w _ (fun k_ => P0_2_ k_ ∨ P0_5_ k_) from by repeat (first | (with_reducible first | exact HK.out | apply Kept.alloc | apply Kept.drewN | apply Kept.drew | refine Kept.setCell ?_ (.inr GW270.out) _ | refine Kept.setCell ?_ (.inr GW271.out) _) | exact HK.out)).1) : w.heap.size ≤ gb272)) (gE hg HB.out) (nL hg BK270.out) (nG hg BK270.out) (nL hg BK271.out) (nG hg BK271.out); clear HO0_2 HO0_5 HO0_6 BK270 BK271 HK HB; obtain ⟨HO0_2, HO0_5, HO0_6, BK270, BK271, HK, HB, BK272, GW272, GE272, NB270_272, NB272_270, NB271_272, NB272_271⟩ := n_; have gi_272 := GEc.mk GE272.out; clear hb hbox hg; have hnb16 := NB272_270.out; have hnc16 := NB270_272.out; have hnb17 := NB272_271.out; have hnc17 := NB271_272.out))
      have n_ := a8 (y1i HO0_2.out) (y1i HO0_5.out) (Kd.V_drew HO0_6.out) (z3i BK270.out) (z3i BK271.out) (z3i BK272.out) (Kept.drew HK.out) (below_drew1 HB.out); clear HO0_2 HO0_5 HO0_6 BK270 BK271 BK272 HK HB; obtain ⟨HO0_2, HO0_5, HO0_6, BK270, BK271, BK272, HK, HB⟩ := n_
      have p273 : 0 ≤ (0 : Int) := (by omega)
      have q273 : 0 < (l2.length : Int) := of_decide_eq_true (by first | (with_reducible assumption) | assumption)
      obtain ⟨ad273, e273, hx273_0⟩ := Kd.at_int (Kd.C_kept_now HR2.out HK.out) 0 p273 q273
      have hw273_0 := hx273_0
      (try rw [show ((0 : Int)).toNat = 0 from rfl] at hw273_0)
      (try rw [show 0 * 1 = 0 from rfl] at hw273_0)
      (try rw [Addr.add_zero'] at hw273_0)
      cases e273
      have qi273 : (0 < l2.length) = True := eq_true (by omega)
      (try rw [show ((0 : Int)).toNat = 0 from rfl] at hx273_0)
      (try rw [Addr.add_zero'] at hx273_0)
      replace p273 := eq_true p273
      replace q273 := eq_true q273
      have p274 : 0 ≤ (1 : Int) := (by omega)
      have q274 : 1 < (l2.length : Int) := of_decide_eq_true (by first | (with_reducible assumption) | assumption)
      obtain ⟨ad274, e274, hx274_0⟩ := Kd.at_int (Kd.C_kept_now HR2.out HK.out) 1 p274 q274
      have hw274_0 := hx274_0
      (try rw [show ((1 : Int)).toNat = 1 from rfl] at hw274_0)
      (try rw [show 1 * 1 = 1 from rfl] at hw274_0)
      (try simp only [Nat.reduceMul, Nat.reduceEqDiff, Go.Addr.add, ↓reduceIte] at hw274_0)
      obtain rfl : ad273 = ad274 := (by injection e274)
      (try simp only [show (1 : Int).toNat = 1 from rfl, Nat.reduceMul, Nat.reduceEqDiff, Go.Addr.add, ↓reduceIte] at hx274_0)
      have qi274 : (1 < l2.length) = True := eq_true (by omega)
      (try rw [show ((1 : Int)).toNat = 1 from rfl] at hx274_0)
      replace p274 := eq_true p274
      replace q274 := eq_true q274
      refine start_ (n := 13) (S := fun w' => w'.cell? ad273 = some (.int .i64 (rd l2 0)) ∧ w'.cell? ⟨ad273.block, ad273.off + 1, none⟩ = some (.int .i64 (rd l2 1))) (ds := []) (bsi_ 13 0) (by kernel_rfl) rfl rfl ⟨(by have h_ := fun W hW_ => Kd.foot_int (HR2.out W hW_) (0 : Int) (of_eq_true p273) (of_eq_true q273); simp only [show ((0 : Int)).toNat = 0 from rfl, Addr.add_zero'] at h_; exact h_ _ (by repeat (first | exact HK.out | apply Kept.alloc | apply Kept.drewN | apply Kept.drew | refine Kept.setCell ?_ (.inr GW281.out) _ | refine Kept.setCell ?_ (.inr GW281.out) _ | refine Kept.setCell ?_ (.inr GW281.out) _))), (Kd.foot_int (HR2.out _ (by repeat (first | exact HK.out | apply Kept.alloc | apply Kept.drewN | apply Kept.drew | refine Kept.setCell ?_ (.inr GW281.out) _ | refine Kept.setCell ?_ (.inr GW281.out) _ | refine Kept.setCell ?_ (.inr GW281.out) _))) (1 : Int) (of_eq_true p274) (of_eq_true q274))⟩ (fun hHeld => ?_); refine with_tabW impl_Desk_numbered.tab9 impl_Desk_numbered.bits9 (fun HT_ HW_ => ?_)
      generalize w15.drew = w19 at HO0_2 HO0_5 HO0_6 BK270 BK271 BK272 HK HB hx273_0 hx274_0 hHeld ⊢
      refine pz 0 (some 58) ?_ (bsi_ 13 1) rfl rfl HT_.out (by kernel_rfl) (fun _ _ _ h => h) (Or.inl ⟨by rfl, ?_⟩) ?_ ?_ ?_
      rotate_left
      ·intro w'
       go_simp
       with_reducible rfl
      rotate_left
      ·simp only [Act.put, s1i_, s2i_, s3i_, i64_w, i32_w]
       rfl
      refine pz 1 (some 59) ?_ (bsi_ 13 3) rfl rfl HT_.out (by kernel_rfl) (fun _ _ _ h => h) (Or.inl ⟨by rfl, ?_⟩) ?_ ?_ ?_
      rotate_left
      ·intro w'
       go_simp
       with_reducible rfl
      rotate_left
      ·simp only [Act.put, s1i_, s2i_, s3i_, i64_w, i32_w]
       rfl
      refine pz 3 (some 61) ?_ (bsi_ 13 11) rfl rfl HT_.out (by kernel_rfl) (fun _ _ _ h => h) (Or.inl ⟨by rfl, ?_⟩) ?_ ?_ ?_
      rotate_left
      ·intro w'
       go_simp
       with_reducible rfl
      rotate_left
      ·simp only [Act.put, s1i_, s2i_, s3i_, i64_w, i32_w]
       rfl
      refine pz 4 (some 62) ?_ (bsi_ 13 27) rfl rfl HT_.out (by kernel_rfl) (fun _ _ _ h => h) (Or.inl ⟨by rfl, ?_⟩) ?_ ?_ ?_
      rotate_left
      ·intro w'
       go_simp
       with_reducible rfl
      rotate_left
      ·simp only [Act.put, s1i_, s2i_, s3i_, i64_w, i32_w]
       rfl
      refine take_ (i := 2) (N := some 60) (v := ?_) (a' := ?_) (bsi_ 13 31) rfl rfl (take_ofW HT_.out HW_.out (by kernel_rfl)) (fun _ _ _ h => h) (Or.inl ⟨by rfl, ?_⟩) hHeld ?_ ?_
      rotate_left
      ·rintro w' ⟨s0, s1⟩
       go_simp
       with_reducible rfl
      rotate_left
      ·simp only [Act.put, s1i_, s2i_, s3i_, i64_w, i32_w]
       rfl
      refine take_ (i := 5) (N := some 63) (v := ?_) (a' := ?_) (bsi_ 13 63) rfl rfl (take_ofW HT_.out HW_.out (by kernel_rfl)) (fun _ _ _ h => h) (Or.inl ⟨by rfl, ?_⟩) hHeld ?_ ?_
      rotate_left
      ·rintro w' ⟨s0, s1⟩
       go_simp
       with_reducible rfl
      rotate_left
      ·simp only [Act.put, s1i_, s2i_, s3i_, i64_w, i32_w]
       rfl
      refine join_ (σ := Value × Nat) 2 (bsi_ 13 2047) (fun s_ => [(64, .tuple #[.agg #[.int .i64 t275, .int .i64 t276, s_.1], .bool t280]), (11, .pointer (some ⟨s_.2, 0, none⟩)), (57, .tuple #[.agg #[.int .i64 t275, .int .i64 t276, s_.1], .bool t280]), (65, .agg #[.int .i64 t275, .int .i64 t276, s_.1]), (66, .bool t280)]) (fun s_ w' => (w'.cell? ad273 = some (.int .i64 (rd l2 0)) ∧ w'.cell? ⟨ad273.block, ad273.off + 1, none⟩ = some (.int .i64 (rd l2 1))) ∧ (Kd.R (Kd.int .i64) 3 w' w0.heap.size (fun k_ => ((P0_2_ k_ ∨ P0_5_ k_) ∨ w.heap.size ≤ k_) ∧ some k_ ≠ (.slice Ao12 l0_5.length co12 : Value).ownBlock ∧ some k_ ≠ (s_.1 : Value).ownBlock ∧ k_ ≠ gb272) (.slice Ao11 l0_2.length co11) l0_2) ∧ (Kd.R (Kd.int .i64) 3 w' w0.heap.size (fun k_ => ((P0_2_ k_ ∨ P0_5_ k_) ∨ w.heap.size ≤ k_) ∧ some k_ ≠ (.slice Ao11 l0_2.length co11 : Value).ownBlock ∧ some k_ ≠ (s_.1 : Value).ownBlock ∧ k_ ≠ gb272) (.slice Ao12 l0_5.length co12) l0_5) ∧ (Kd.V k27 27 w' w0.heap.size (fun k_ => ((P0_2_ k_ ∨ P0_5_ k_ ∨ P0_6_ k_) ∨ w.heap.size ≤ k_) ∧ some k_ ≠ (.slice Ao11 l0_2.length co11 : Value).ownBlock ∧ some k_ ≠ (.slice Ao12 l0_5.length co12 : Value).ownBlock ∧ some k_ ≠ (s_.1 : Value).ownBlock ∧ k_ ≠ gb270 ∧ k_ ≠ gb271 ∧ k_ ≠ gb272 ∧ k_ ≠ s_.2) (.slice A0_6 l0_6.length c0_6) l0_6) ∧ (Kd.R (Kd.int .i64) 3 w' w0.heap.size (fun k_ => ((P0_2_ k_ ∨ P0_5_ k_) ∨ w.heap.size ≤ k_) ∧ some k_ ≠ (.slice Ao11 l0_2.length co11 : Value).ownBlock ∧ some k_ ≠ (.slice Ao12 l0_5.length co12 : Value).ownBlock ∧ k_ ≠ gb272) s_.1 t277) ∧ (w'.heap[gb270]? = some (.cells #[.int .i64 a0_0, .int .i64 a0_1, .slice Ao11 l0_2.length co11, .int .i64 a0_3, .int .i64 a0_4, .slice Ao12 l0_5.length co12, .slice A0_6 l0_6.length c0_6] 55 (0, 0))) ∧ (w'.heap[gb271]? = some (.cells #[.int .i64 0, .int .i64 0, .slice none 0 0, .int .i64 0, .int .i64 0, .slice none 0 0, .slice none 0 0] 55 (0, 0))) ∧ (w'.heap[gb272]? = some (ow_)) ∧ (w'.heap[s_.2]? = some (.cells #[.int .i64 0, .int .i64 0, .slice none 0 0] 27 (0, 0))) ∧ (w.heap.size ≤ s_.2) ∧ (w0.heap.size ≤ s_.2) ∧ (gb270 ≠ s_.2) ∧ (s_.2 ≠ gb270) ∧ (gb271 ≠ s_.2) ∧ (s_.2 ≠ gb271) ∧ (gb272 ≠ s_.2) ∧ (s_.2 ≠ gb272) ∧ (Kept w w' (fun k_ => P0_2_ k_ ∨ P0_5_ k_)) ∧ (Below w0.heap.size w0 w')) ?_ ?_
      rotate_left
      ·intro hCont
       refine two_ (i := 6) (j := 10) (Ni := some 64) (Nj := some 11) (bsi_ 13 127) (bsi_ 13 1087) rfl rfl rfl rfl (two_of HT_.out (by kernel_rfl)) (by decide) (by decide) (fun K hK => ?_) (fun K hK => ?_)
       ·skip
        refine goes_ Tryz.func6 (by kernel_rfl) rfl #[.int .i64 (rd l2 0), .int .i64 (rd l2 1)] (by rfl) rfl rfl (by (try simp only [List.map_toArray, List.map_cons, List.map_nil]); first | done | rfl | (simp only [List.length_drop, List.length_take]; rfl)) ?_
        with_reducible refine (impl_RampPicture.calls (rd l2 0) (rd l2 1) t275 t276 t277 t280 _ A9.out).mono ?_
        rintro e w20 ⟨v278, rfl, ho0, hb⟩
        refine ⟨_, rfl, ?_⟩
        have n_ := a9 (Kd.R_elder' (rV HO0_2.out) (w2_i ho0) hb) (Kd.R_elder' (rV HO0_5.out) (w2_i ho0) hb) (Kd.V_elder' (vV HO0_6.out) (w2_i ho0) hb) (Kd.R_lower (Kd.R_newB (Kd.R_new' (Kd.R_new' (Kd.R_newM (M := fun k_ => ((P0_2_ k_ ∨ P0_5_ k_) ∨ w.heap.size ≤ k_)) ho0 (by first | exact HK.out.1 | exact (show Kept w _ (fun k_ => P0_2_ k_ ∨ P0_5_ k_) from by repeat (first | (with_reducible first | exact HK.out | apply Kept.alloc | apply Kept.drewN | apply Kept.drew | refine Kept.setCell ?_ (.inr GW270.out) _ | refine Kept.setCell ?_ (.inr GW271.out) _ | refine Kept.setCell ?_ (.inr GW272.out) _) | exact HK.out)).1) (fun k_ h_ => .inr h_)) (Kd.R_lt (rV HO0_2.out))) (Kd.R_lt (rV HO0_5.out))) (g := gb272) (o := ow_) (bV BK272.out)) (below_size (dV HB.out))) (bU BK270.out hb) (bU BK271.out hb) (blk_below (g := gb272) (o := ow_) (bV BK272.out) hb) (Kept.below (S := (fun k_ => P0_2_ k_ ∨ P0_5_ k_)) (by repeat (first | (with_reducible first | exact HK.out | apply Kept.alloc | apply Kept.drewN | apply Kept.drew | refine Kept.setCell ?_ (.inr GW270.out) _ | refine Kept.setCell ?_ (.inr GW271.out) _ | refine Kept.setCell ?_ (.inr GW272.out) _) | exact HK.out)) hb) (dU HB.out hb); clear HO0_2 HO0_5 HO0_6 BK270 BK271 BK272 HK HB; obtain ⟨HO0_2, HO0_5, HO0_6, HO279, BK270, BK271, BK272, HK, HB⟩ := n_
        (try clear hb)
        (try clear ho0)
        refine hK.out _ _ ⟨(by have h_ := fun W hW_ => Kd.foot_int (HR2.out W hW_) (0 : Int) (of_eq_true p273) (of_eq_true q273); simp only [show ((0 : Int)).toNat = 0 from rfl, Addr.add_zero'] at h_; exact h_ _ (by repeat (first | exact HK.out | apply Kept.alloc | apply Kept.drewN | apply Kept.drew | refine Kept.setCell ?_ (.inr GW281.out) _ | refine Kept.setCell ?_ (.inr GW281.out) _ | refine Kept.setCell ?_ (.inr GW281.out) _))), (Kd.foot_int (HR2.out _ (by repeat (first | exact HK.out | apply Kept.alloc | apply Kept.drewN | apply Kept.drew | refine Kept.setCell ?_ (.inr GW281.out) _ | refine Kept.setCell ?_ (.inr GW281.out) _ | refine Kept.setCell ?_ (.inr GW281.out) _))) (1 : Int) (of_eq_true p274) (of_eq_true q274))⟩ (fun hHeld => ?_)
        clear hK K
        refine norm_ (a' := ?_) ?_ ?_
        rotate_left
        ·show Act.put _ (some 64) _ = _
         simp only [Act.put, s1i_, s2i_, s3i_, i64_w, i32_w]
         rfl
        refine pz 7 (some 57) ?_ (bsi_ 13 255) rfl rfl HT_.out (by kernel_rfl) (fun _ _ _ h => h) (Or.inl ⟨by rfl, ?_⟩) ?_ ?_ ?_
        rotate_left
        ·intro w'
         go_simp
         with_reducible rfl
        rotate_left
        ·simp only [Act.put, s1i_, s2i_, s3i_, i64_w, i32_w]
         rfl
        refine pz 8 (some 65) ?_ (bsi_ 13 511) rfl rfl HT_.out (by kernel_rfl) (fun _ _ _ h => h) (Or.inl ⟨by rfl, ?_⟩) ?_ ?_ ?_
        rotate_left
        ·intro w'
         go_simp
         with_reducible rfl
        rotate_left
        ·simp only [Act.put, s1i_, s2i_, s3i_, i64_w, i32_w]
         rfl
        refine pz 9 (some 66) ?_ (bsi_ 13 1023) rfl rfl HT_.out (by kernel_rfl) (fun _ _ _ h => h) (Or.inl ⟨by rfl, ?_⟩) ?_ ?_ ?_
        rotate_left
        ·intro w'
         go_simp
         with_reducible rfl
        rotate_left
        ·simp only [Act.put, s1i_, s2i_, s3i_, i64_w, i32_w]
         rfl
        refine one_ (i := 10) (N := some 11) (bsi_ 13 2047) rfl rfl (one_of HT_.out (by kernel_rfl)) (by decide) (fun K hK => ?_)
        refine box_step ?hg (N := 11) ?hd (cs := #[.int .i64 0, .int .i64 0, .slice none 0 0]) (t := 27) ?hr ?_; (case hd => rfl); (case hg => rfl); (case hr => first | (go_simp; done) | (go_simp; rfl))
        intro gb281 hg w21 hbox hb
        have n_ := a18 (x4i (rV HO0_2.out) hb) (x4i (rV HO0_5.out) hb) (Kd.V_below (Kd.V_elderB (vV HO0_6.out) gb281 (Nat.le_of_eq hg.symm)) hb) (x4i (rV HO279.out) hb) (bU BK270.out hb) (bU BK271.out hb) (blk_below (g := gb272) (o := ow_) (bV BK272.out) hb) (Kept.below (S := (fun k_ => P0_2_ k_ ∨ P0_5_ k_)) (by repeat (first | (with_reducible first | exact HK.out | apply Kept.alloc | apply Kept.drewN | apply Kept.drew | refine Kept.setCell ?_ (.inr GW270.out) _ | refine Kept.setCell ?_ (.inr GW271.out) _ | refine Kept.setCell ?_ (.inr GW272.out) _) | exact HK.out)) hb) (dU HB.out hb) (hbox) ((by rw [hg]; exact (by first | exact HK.out.1 | exact (show Kept w _ (fun k_ => P0_2_ k_ ∨ P0_5_ k_) from by repeat (first | (with_reducible first | exact HK.out | apply Kept.alloc | apply Kept.drewN | apply Kept.drew | refine Kept.setCell ?_ (.inr GW270.out) _ | refine Kept.setCell ?_ (.inr GW271.out) _ | refine Kept.setCell ?_ (.inr GW272.out) _) | exact HK.out)).1) : w.heap.size ≤ gb281)) (gE hg HB.out) (nL hg BK270.out) (nG hg BK270.out) (nL hg BK271.out) (nG hg BK271.out) ((by rw [hg]; exact Nat.ne_of_lt (blk_lt (g := gb272) (o := ow_) (bV BK272.out)) : gb272 ≠ gb281)) ((by rw [hg]; exact Nat.ne_of_gt (blk_lt (g := gb272) (o := ow_) (bV BK272.out)) : gb281 ≠ gb272)); clear HO0_2 HO0_5 HO0_6 HO279 BK270 BK271 BK272 HK HB; obtain ⟨HO0_2, HO0_5, HO0_6, HO279, BK270, BK271, BK272, HK, HB, BK281, GW281, GE281, NB270_281, NB281_270, NB271_281, NB281_271, NB272_281, NB281_272⟩ := n_; have gi_281 := GEc.mk GE281.out
        clear hb hbox hg
        refine hK.out _ _ ⟨(by have h_ := fun W hW_ => Kd.foot_int (HR2.out W hW_) (0 : Int) (of_eq_true p273) (of_eq_true q273); simp only [show ((0 : Int)).toNat = 0 from rfl, Addr.add_zero'] at h_; exact h_ _ (by repeat (first | exact HK.out | apply Kept.alloc | apply Kept.drewN | apply Kept.drew | refine Kept.setCell ?_ (.inr GW281.out) _ | refine Kept.setCell ?_ (.inr GW281.out) _ | refine Kept.setCell ?_ (.inr GW281.out) _))), (Kd.foot_int (HR2.out _ (by repeat (first | exact HK.out | apply Kept.alloc | apply Kept.drewN | apply Kept.drew | refine Kept.setCell ?_ (.inr GW281.out) _ | refine Kept.setCell ?_ (.inr GW281.out) _ | refine Kept.setCell ?_ (.inr GW281.out) _))) (1 : Int) (of_eq_true p274) (of_eq_true q274))⟩ (fun hHeld => ?_)
        clear hK K
        refine norm_ (a' := ?_) ?_ ?_
        rotate_left
        ·show Act.put _ (some 11) _ = _
         simp only [Act.put, s1i_, s2i_, s3i_, i64_w, i32_w]
         rfl
        exact norm_ (by simp only [putAll, Act.put, s1i_, s2i_, s3i_]) (hCont (v278, gb281) _ ⟨hHeld, (by (with_reducible repeat (first | apply z8i | apply z9i | apply y1i)); exact x6i HO0_2.out (fun _ hk => ⟨hk.1.1.1, ⟨hk.1.1.2, ⟨hk.2, hk.1.2⟩⟩⟩)), (by (with_reducible repeat (first | apply z8i | apply z9i | apply y1i)); exact x6i HO0_5.out (fun _ hk => ⟨hk.1.1.1, ⟨hk.1.1.2, ⟨hk.2, hk.1.2⟩⟩⟩)), (by (with_reducible repeat (first | apply Kd.V_alloc | apply Kd.V_drewN | apply Kd.V_drew)); exact Kd.V_mono HO0_6.out (fun _ hk => ⟨hk.1.1.1.1.1.1, ⟨hk.1.1.1.1.1.2.1, ⟨hk.1.1.1.1.1.2.2, ⟨hk.1.2, ⟨hk.1.1.1.1.2, ⟨hk.1.1.1.2, ⟨hk.1.1.2, hk.2⟩⟩⟩⟩⟩⟩⟩)), (by (with_reducible repeat (first | apply z8i | apply z9i | apply y1i)); exact x6i HO279.out (fun _ hk => ⟨hk.1.1.1.1, ⟨hk.1.1.2, ⟨hk.1.2, hk.2⟩⟩⟩)), (bV BK270.out), (bV BK271.out), (bV BK272.out), (bV BK281.out), GW281.out, GE281.out, NB270_281.out, NB281_270.out, NB271_281.out, NB281_271.out, NB272_281.out, NB281_272.out, (by repeat (first | (with_reducible first | exact HK.out | apply Kept.alloc | apply Kept.drewN | apply Kept.drew | refine Kept.setCell ?_ (.inr GW270.out) _ | refine Kept.setCell ?_ (.inr GW271.out) _ | refine Kept.setCell ?_ (.inr GW272.out) _ | refine Kept.setCell ?_ (.inr GW281.out) _) | exact HK.out)), (dV HB.out)⟩)
       ·skip
        refine box_step ?hg (N := 11) ?hd (cs := #[.int .i64 0, .int .i64 0, .slice none 0 0]) (t := 27) ?hr ?_; (case hd => rfl); (case hg => rfl); (case hr => first | (go_simp; done) | (go_simp; rfl))
        intro gb281 hg w20 hbox hb
        have n_ := a17 (x4i (rV HO0_2.out) hb) (x4i (rV HO0_5.out) hb) (Kd.V_below (Kd.V_elderB (vV HO0_6.out) gb281 (Nat.le_of_eq hg.symm)) hb) (bU BK270.out hb) (bU BK271.out hb) (blk_below (g := gb272) (o := ow_) (bV BK272.out) hb) (Kept.below (S := (fun k_ => P0_2_ k_ ∨ P0_5_ k_)) (by repeat (first | (with_reducible first | exact HK.out | apply Kept.alloc | apply Kept.drewN | apply Kept.drew | refine Kept.setCell ?_ (.inr GW270.out) _ | refine Kept.setCell ?_ (.inr GW271.out) _ | refine Kept.setCell ?_ (.inr GW272.out) _) | exact HK.out)) hb) (dU HB.out hb) (hbox) ((by rw [hg]; exact (by first | exact HK.out.1 | exact (show Kept w _ (fun k_ => P0_2_ k_ ∨ P0_5_ k_) from by repeat (first | (with_reducible first | exact HK.out | apply Kept.alloc | apply Kept.drewN | apply Kept.drew | refine Kept.setCell ?_ (.inr GW270.out) _ | refine Kept.setCell ?_ (.inr GW271.out) _ | refine Kept.setCell ?_ (.inr GW272.out) _) | exact HK.out)).1) : w.heap.size ≤ gb281)) (gE hg HB.out) (nL hg BK270.out) (nG hg BK270.out) (nL hg BK271.out) (nG hg BK271.out) ((by rw [hg]; exact Nat.ne_of_lt (blk_lt (g := gb272) (o := ow_) (bV BK272.out)) : gb272 ≠ gb281)) ((by rw [hg]; exact Nat.ne_of_gt (blk_lt (g := gb272) (o := ow_) (bV BK272.out)) : gb281 ≠ gb272)); clear HO0_2 HO0_5 HO0_6 BK270 BK271 BK272 HK HB; obtain ⟨HO0_2, HO0_5, HO0_6, BK270, BK271, BK272, HK, HB, BK281, GW281, GE281, NB270_281, NB281_270, NB271_281, NB281_271, NB272_281, NB281_272⟩ := n_; have gi_281 := GEc.mk GE281.out
        clear hb hbox hg
        refine hK.out _ _ ⟨(by have h_ := fun W hW_ => Kd.foot_int (HR2.out W hW_) (0 : Int) (of_eq_true p273) (of_eq_true q273); simp only [show ((0 : Int)).toNat = 0 from rfl, Addr.add_zero'] at h_; exact h_ _ (by repeat (first | exact HK.out | apply Kept.alloc | apply Kept.drewN | apply Kept.drew | refine Kept.setCell ?_ (.inr GW281.out) _ | refine Kept.setCell ?_ (.inr GW281.out) _ | refine Kept.setCell ?_ (.inr GW281.out) _))), (Kd.foot_int (HR2.out _ (by repeat (first | exact HK.out | apply Kept.alloc | apply Kept.drewN | apply Kept.drew | refine Kept.setCell ?_ (.inr GW281.out) _ | refine Kept.setCell ?_ (.inr GW281.out) _ | refine Kept.setCell ?_ (.inr GW281.out) _))) (1 : Int) (of_eq_true p274) (of_eq_true q274))⟩ (fun hHeld => ?_)
        clear hK K
        refine norm_ (a' := ?_) ?_ ?_
        rotate_left
        ·show Act.put _ (some 11) _ = _
         simp only [Act.put, s1i_, s2i_, s3i_, i64_w, i32_w]
         rfl
        refine one_ (i := 6) (N := some 64) (bsi_ 13 1151) rfl rfl (one_of HT_.out (by kernel_rfl)) (by decide) (fun K hK => ?_)
        refine goes_ Tryz.func6 (by kernel_rfl) rfl #[.int .i64 (rd l2 0), .int .i64 (rd l2 1)] (by rfl) rfl rfl (by (try simp only [List.map_toArray, List.map_cons, List.map_nil]); first | done | rfl | (simp only [List.length_drop, List.length_take]; rfl)) ?_
        with_reducible refine (impl_RampPicture.calls (rd l2 0) (rd l2 1) t275 t276 t277 t280 _ A9.out).mono ?_
        rintro e w21 ⟨v278, rfl, ho0, hb⟩
        refine ⟨_, rfl, ?_⟩
        have n_ := a10 (Kd.R_elder' (rV HO0_2.out) (w2_i ho0) hb) (Kd.R_elder' (rV HO0_5.out) (w2_i ho0) hb) (Kd.V_elder' (vV HO0_6.out) (w2_i ho0) hb) (Kd.R_lower (Kd.R_newB (Kd.R_new' (Kd.R_new' (Kd.R_newM (M := fun k_ => ((P0_2_ k_ ∨ P0_5_ k_) ∨ w.heap.size ≤ k_)) ho0 (by first | exact HK.out.1 | exact (show Kept w _ (fun k_ => P0_2_ k_ ∨ P0_5_ k_) from by repeat (first | (with_reducible first | exact HK.out | apply Kept.alloc | apply Kept.drewN | apply Kept.drew | refine Kept.setCell ?_ (.inr GW270.out) _ | refine Kept.setCell ?_ (.inr GW271.out) _ | refine Kept.setCell ?_ (.inr GW272.out) _ | refine Kept.setCell ?_ (.inr GW281.out) _) | exact HK.out)).1) (fun k_ h_ => .inr h_)) (Kd.R_lt (rV HO0_2.out))) (Kd.R_lt (rV HO0_5.out))) (g := gb272) (o := ow_) (bV BK272.out)) (below_size (dV HB.out))) (bU BK270.out hb) (bU BK271.out hb) (blk_below (g := gb272) (o := ow_) (bV BK272.out) hb) (bU BK281.out hb) (Kept.below (S := (fun k_ => P0_2_ k_ ∨ P0_5_ k_)) (by repeat (first | (with_reducible first | exact HK.out | apply Kept.alloc | apply Kept.drewN | apply Kept.drew | refine Kept.setCell ?_ (.inr GW270.out) _ | refine Kept.setCell ?_ (.inr GW271.out) _ | refine Kept.setCell ?_ (.inr GW272.out) _ | refine Kept.setCell ?_ (.inr GW281.out) _) | exact HK.out)) hb) (dU HB.out hb); clear HO0_2 HO0_5 HO0_6 BK270 BK271 BK272 BK281 HK HB; obtain ⟨HO0_2, HO0_5, HO0_6, HO279, BK270, BK271, BK272, BK281, HK, HB⟩ := n_
        (try clear hb)
        (try clear ho0)
        refine hK.out _ _ ⟨(by have h_ := fun W hW_ => Kd.foot_int (HR2.out W hW_) (0 : Int) (of_eq_true p273) (of_eq_true q273); simp only [show ((0 : Int)).toNat = 0 from rfl, Addr.add_zero'] at h_; exact h_ _ (by repeat (first | exact HK.out | apply Kept.alloc | apply Kept.drewN | apply Kept.drew | refine Kept.setCell ?_ (.inr GW281.out) _ | refine Kept.setCell ?_ (.inr GW281.out) _ | refine Kept.setCell ?_ (.inr GW281.out) _))), (Kd.foot_int (HR2.out _ (by repeat (first | exact HK.out | apply Kept.alloc | apply Kept.drewN | apply Kept.drew | refine Kept.setCell ?_ (.inr GW281.out) _ | refine Kept.setCell ?_ (.inr GW281.out) _ | refine Kept.setCell ?_ (.inr GW281.out) _))) (1 : Int) (of_eq_true p274) (of_eq_true q274))⟩ (fun hHeld => ?_)
        clear hK K
        refine norm_ (a' := ?_) ?_ ?_
        rotate_left
        ·show Act.put _ (some 64) _ = _
         simp only [Act.put, s1i_, s2i_, s3i_, i64_w, i32_w]
         rfl
        refine pz 7 (some 57) ?_ (bsi_ 13 1279) rfl rfl HT_.out (by kernel_rfl) (fun _ _ _ h => h) (Or.inl ⟨by rfl, ?_⟩) ?_ ?_ ?_
        rotate_left
        ·intro w'
         go_simp
         with_reducible rfl
        rotate_left
        ·simp only [Act.put, s1i_, s2i_, s3i_, i64_w, i32_w]
         rfl
        refine pz 8 (some 65) ?_ (bsi_ 13 1535) rfl rfl HT_.out (by kernel_rfl) (fun _ _ _ h => h) (Or.inl ⟨by rfl, ?_⟩) ?_ ?_ ?_
        rotate_left
        ·intro w'
         go_simp
         with_reducible rfl
        rotate_left
        ·simp only [Act.put, s1i_, s2i_, s3i_, i64_w, i32_w]
         rfl
        refine pz 9 (some 66) ?_ (bsi_ 13 2047) rfl rfl HT_.out (by kernel_rfl) (fun _ _ _ h => h) (Or.inl ⟨by rfl, ?_⟩) ?_ ?_ ?_
        rotate_left
        ·intro w'
         go_simp
         with_reducible rfl
        rotate_left
        ·simp only [Act.put, s1i_, s2i_, s3i_, i64_w, i32_w]
         rfl
        exact norm_ (by simp only [putAll, Act.put, s1i_, s2i_, s3i_]) (hCont (v278, gb281) _ ⟨hHeld, (by (with_reducible repeat (first | apply z8i | apply z9i | apply y1i)); exact x6i HO0_2.out (fun _ hk => ⟨hk.1.1.1, ⟨hk.1.1.2, ⟨hk.2, hk.1.2⟩⟩⟩)), (by (with_reducible repeat (first | apply z8i | apply z9i | apply y1i)); exact x6i HO0_5.out (fun _ hk => ⟨hk.1.1.1, ⟨hk.1.1.2, ⟨hk.2, hk.1.2⟩⟩⟩)), (by (with_reducible repeat (first | apply Kd.V_alloc | apply Kd.V_drewN | apply Kd.V_drew)); exact Kd.V_mono HO0_6.out (fun _ hk => ⟨hk.1.1.1.1.1.1, ⟨hk.1.1.1.1.1.2.1, ⟨hk.1.1.1.1.1.2.2, ⟨hk.2, ⟨hk.1.1.1.1.2, ⟨hk.1.1.1.2, ⟨hk.1.1.2, hk.1.2⟩⟩⟩⟩⟩⟩⟩)), (by (with_reducible repeat (first | apply z8i | apply z9i | apply y1i)); exact x6i HO279.out (fun _ hk => ⟨hk.1.1.1.1, ⟨hk.1.1.2, ⟨hk.1.2, hk.2⟩⟩⟩)), (bV BK270.out), (bV BK271.out), (bV BK272.out), (bV BK281.out), GW281.out, GE281.out, NB270_281.out, NB281_270.out, NB271_281.out, NB281_271.out, NB272_281.out, NB281_272.out, (by repeat (first | (with_reducible first | exact HK.out | apply Kept.alloc | apply Kept.drewN | apply Kept.drew | refine Kept.setCell ?_ (.inr GW270.out) _ | refine Kept.setCell ?_ (.inr GW271.out) _ | refine Kept.setCell ?_ (.inr GW272.out) _ | refine Kept.setCell ?_ (.inr GW281.out) _) | exact HK.out)), (dV HB.out)⟩)
      rintro ⟨v278, gb281⟩ w22 ⟨hS_, h0_, h1_, h2_, h3_, h4_, h5_, h6_, h7_, h8_, h9_, h10_, h11_, h12_, h13_, h14_, h15_, h16_, h17_⟩
      have n0_ : Aside0 (Kd.R (Kd.int .i64) 3 w22 w0.heap.size (fun k_ => ((P0_2_ k_ ∨ P0_5_ k_) ∨ w.heap.size ≤ k_) ∧ some k_ ≠ (.slice Ao12 l0_5.length co12 : Value).ownBlock ∧ some k_ ≠ (v278 : Value).ownBlock ∧ k_ ≠ gb272) (.slice Ao11 l0_2.length co11) l0_2) := ⟨h0_⟩
      have n1_ : Aside0 (Kd.R (Kd.int .i64) 3 w22 w0.heap.size (fun k_ => ((P0_2_ k_ ∨ P0_5_ k_) ∨ w.heap.size ≤ k_) ∧ some k_ ≠ (.slice Ao11 l0_2.length co11 : Value).ownBlock ∧ some k_ ≠ (v278 : Value).ownBlock ∧ k_ ≠ gb272) (.slice Ao12 l0_5.length co12) l0_5) := ⟨h1_⟩
      have n2_ : Aside0 (Kd.V k27 27 w22 w0.heap.size (fun k_ => ((P0_2_ k_ ∨ P0_5_ k_ ∨ P0_6_ k_) ∨ w.heap.size ≤ k_) ∧ some k_ ≠ (.slice Ao11 l0_2.length co11 : Value).ownBlock ∧ some k_ ≠ (.slice Ao12 l0_5.length co12 : Value).ownBlock ∧ some k_ ≠ (v278 : Value).ownBlock ∧ k_ ≠ gb270 ∧ k_ ≠ gb271 ∧ k_ ≠ gb272 ∧ k_ ≠ gb281) (.slice A0_6 l0_6.length c0_6) l0_6) := ⟨h2_⟩
      have n3_ : Aside0 (Kd.R (Kd.int .i64) 3 w22 w0.heap.size (fun k_ => ((P0_2_ k_ ∨ P0_5_ k_) ∨ w.heap.size ≤ k_) ∧ some k_ ≠ (.slice Ao11 l0_2.length co11 : Value).ownBlock ∧ some k_ ≠ (.slice Ao12 l0_5.length co12 : Value).ownBlock ∧ k_ ≠ gb272) v278 t277) := ⟨h3_⟩
      have n4_ : Aside0 (w22.heap[gb270]? = some (.cells #[.int .i64 a0_0, .int .i64 a0_1, .slice Ao11 l0_2.length co11, .int .i64 a0_3, .int .i64 a0_4, .slice Ao12 l0_5.length co12, .slice A0_6 l0_6.length c0_6] 55 (0, 0))) := ⟨h4_⟩
      have n5_ : Aside0 (w22.heap[gb271]? = some (.cells #[.int .i64 0, .int .i64 0, .slice none 0 0, .int .i64 0, .int .i64 0, .slice none 0 0, .slice none 0 0] 55 (0, 0))) := ⟨h5_⟩
      have n6_ : Aside0 (w22.heap[gb272]? = some (ow_)) := ⟨h6_⟩
      have n7_ : Aside0 (w22.heap[gb281]? = some (.cells #[.int .i64 0, .int .i64 0, .slice none 0 0] 27 (0, 0))) := ⟨h7_⟩
      have n8_ : Aside0 (w.heap.size ≤ gb281) := ⟨h8_⟩
      have n9_ : Aside0 (w0.heap.size ≤ gb281) := ⟨h9_⟩
      have n10_ : Aside0 (gb270 ≠ gb281) := ⟨h10_⟩
      have n11_ : Aside0 (gb281 ≠ gb270) := ⟨h11_⟩
      have n12_ : Aside0 (gb271 ≠ gb281) := ⟨h12_⟩
      have n13_ : Aside0 (gb281 ≠ gb271) := ⟨h13_⟩
      have n14_ : Aside0 (gb272 ≠ gb281) := ⟨h14_⟩
      have n15_ : Aside0 (gb281 ≠ gb272) := ⟨h15_⟩
      have n16_ : Aside0 (Kept w w22 (fun k_ => P0_2_ k_ ∨ P0_5_ k_)) := ⟨h16_⟩
      have n17_ : Aside0 (Below w0.heap.size w0 w22) := ⟨h17_⟩
      clear HO0_2
      clear HO0_5
      clear HO0_6
      clear BK270
      clear BK271
      clear BK272
      clear HK
      clear HB
      clear h0_ h1_ h2_ h3_ h4_ h5_ h6_ h7_ h8_ h9_ h10_ h11_ h12_ h13_ h14_ h15_ h16_ h17_
      have HO0_2 := n0_
      have HO0_5 := n1_
      have HO0_6 := n2_
      have HO279 := n3_
      have BK270 := n4_
      have BK271 := n5_
      have BK272 := n6_
      have BK281 := n7_
      have GW281 := n8_
      have GE281 := n9_; have gi_281 := GEc.mk GE281.out
      have NB270_281 := n10_
      have NB281_270 := n11_
      have NB271_281 := n12_
      have NB281_271 := n13_
      have NB272_281 := n14_
      have NB281_272 := n15_
      have HK := n16_
      have HB := n17_
      clear n0_ n1_ n2_ n3_ n4_ n5_ n6_ n7_ n8_ n9_ n10_ n11_ n12_ n13_ n14_ n15_ n16_ n17_
      have hHeld : w22.cell? ad273 = some (.int .i64 (rd l2 0)) ∧ w22.cell? ⟨ad273.block, ad273.off + 1, none⟩ = some (.int .i64 (rd l2 1)) := hS_
      obtain ⟨Ao25, co25, eo25⟩ := Kd.R_slice HO279.out
      (first | subst eo25 | (injection eo25 with f1_ f2_ f3_; have f4_ := f1_.symm; have f5_ := f3_.symm; clear f1_ f2_ f3_; subst f4_; subst f5_))
      refine norm_ (a' := ?_) ?_ ?_
      rotate_left
      ·simp only [putAll, Act.put, s1i_, s2i_, s3i_]
       rfl
      refine one_ (i := 11) (N := none) (bsi_ 13 4095) rfl rfl (one_of HT_.out (by kernel_rfl)) (by decide) (fun K hK => ?_)
      have hs23 : w22.cell? ⟨gb281, 0, none⟩ = some (.int .i64 0) := (x3i BK281.out 0).trans rfl
      have hfs23 := x2i BK281.out 0
      have hns23_0 := NB270_281.out
      have hns23_1 := NB271_281.out
      have hns23_2 := NB272_281.out
      have hms23_0 := NB281_270.out
      have hms23_1 := NB281_271.out
      have hms23_2 := NB281_272.out
      have hs24 : w22.cell? ⟨gb281, 1, none⟩ = some (.int .i64 0) := (x3i BK281.out 1).trans rfl
      have hfs24 := x2i BK281.out 1
      have hns24_0 := NB270_281.out
      have hns24_1 := NB271_281.out
      have hns24_2 := NB272_281.out
      have hms24_0 := NB281_270.out
      have hms24_1 := NB281_271.out
      have hms24_2 := NB281_272.out
      have hs26 : w22.cell? ⟨gb281, 2, none⟩ = some (.slice none 0 0) := (x3i BK281.out 2).trans rfl
      have hfs26 := x2i BK281.out 2
      have hns26_0 := NB270_281.out
      have hns26_1 := NB271_281.out
      have hns26_2 := NB272_281.out
      have hms26_0 := NB281_270.out
      have hms26_1 := NB281_271.out
      have hms26_2 := NB281_272.out
      refine skip_ (w1 := ?_) (by rfl) rfl ?_ ?_
      rotate_left
      ·go_simp
       rfl
      refine hK.out _ _ ⟨(by have h_ := fun W hW_ => Kd.foot_int (HR2.out W hW_) (0 : Int) (of_eq_true p273) (of_eq_true q273); simp only [show ((0 : Int)).toNat = 0 from rfl, Addr.add_zero'] at h_; exact h_ _ (by repeat (first | exact HK.out | apply Kept.alloc | apply Kept.drewN | apply Kept.drew | refine Kept.setCell ?_ (.inr GW281.out) _ | refine Kept.setCell ?_ (.inr GW281.out) _ | refine Kept.setCell ?_ (.inr GW281.out) _))), (Kd.foot_int (HR2.out _ (by repeat (first | exact HK.out | apply Kept.alloc | apply Kept.drewN | apply Kept.drew | refine Kept.setCell ?_ (.inr GW281.out) _ | refine Kept.setCell ?_ (.inr GW281.out) _ | refine Kept.setCell ?_ (.inr GW281.out) _))) (1 : Int) (of_eq_true p274) (of_eq_true q274))⟩ (fun hHeld => ?_)
      clear hK K
      refine pz 12 (some 12) ?_ (bsi_ 13 8191) rfl rfl HT_.out (by kernel_rfl) (fun _ _ _ h => h) (Or.inl ⟨by rfl, ?_⟩) ?_ ?_ ?_
      rotate_left
      ·intro w'
       go_simp
       with_reducible rfl
      rotate_left
      ·simp only [Act.put, s1i_, s2i_, s3i_, i64_w, i32_w]
       rfl
      refine done_ (done_of HT_.out (by kernel_rfl)) ?_
      have n0_ : Aside0 (Kd.R (Kd.int .i64) 3 (((w22.setCell ⟨gb281, 0, none⟩ (.int .i64 t275)).setCell ⟨gb281, 1, none⟩ (.int .i64 t276)).setCell ⟨gb281, 2, none⟩ (.slice Ao25 t277.length co25)) w0.heap.size (fun k_ => ((P0_2_ k_ ∨ P0_5_ k_) ∨ w.heap.size ≤ k_) ∧ some k_ ≠ (.slice Ao12 l0_5.length co12 : Value).ownBlock ∧ some k_ ≠ (.slice Ao25 t277.length co25 : Value).ownBlock ∧ k_ ≠ gb272) (.slice Ao11 l0_2.length co11) l0_2) := ⟨by (with_reducible repeat (first | apply z8i | apply z9i | apply y1i)); exact x6i (x1i (p := ⟨gb281, 2, none⟩) (x1i (p := ⟨gb281, 1, none⟩) (x1i (p := ⟨gb281, 0, none⟩) (x7i HO0_2.out BK281.out (by decide)) (fun _ hk => hk.2) (.int .i64 t275)) (fun _ hk => hk.2) (.int .i64 t276)) (fun _ hk => hk.2) (.slice Ao25 t277.length co25)) (fun _ hk => ⟨hk.1.1, ⟨hk.1.2.1, ⟨hk.1.2.2.1, hk.1.2.2.2⟩⟩⟩)⟩
      have n1_ : Aside0 (Kd.R (Kd.int .i64) 3 (((w22.setCell ⟨gb281, 0, none⟩ (.int .i64 t275)).setCell ⟨gb281, 1, none⟩ (.int .i64 t276)).setCell ⟨gb281, 2, none⟩ (.slice Ao25 t277.length co25)) w0.heap.size (fun k_ => ((P0_2_ k_ ∨ P0_5_ k_) ∨ w.heap.size ≤ k_) ∧ some k_ ≠ (.slice Ao11 l0_2.length co11 : Value).ownBlock ∧ some k_ ≠ (.slice Ao25 t277.length co25 : Value).ownBlock ∧ k_ ≠ gb272) (.slice Ao12 l0_5.length co12) l0_5) := ⟨by (with_reducible repeat (first | apply z8i | apply z9i | apply y1i)); exact x6i (x1i (p := ⟨gb281, 2, none⟩) (x1i (p := ⟨gb281, 1, none⟩) (x1i (p := ⟨gb281, 0, none⟩) (x7i HO0_5.out BK281.out (by decide)) (fun _ hk => hk.2) (.int .i64 t275)) (fun _ hk => hk.2) (.int .i64 t276)) (fun _ hk => hk.2) (.slice Ao25 t277.length co25)) (fun _ hk => ⟨hk.1.1, ⟨hk.1.2.1, ⟨hk.1.2.2.1, hk.1.2.2.2⟩⟩⟩)⟩
      have n2_ : Aside0 (Kd.V k27 27 (((w22.setCell ⟨gb281, 0, none⟩ (.int .i64 t275)).setCell ⟨gb281, 1, none⟩ (.int .i64 t276)).setCell ⟨gb281, 2, none⟩ (.slice Ao25 t277.length co25)) w0.heap.size (fun k_ => ((P0_2_ k_ ∨ P0_5_ k_ ∨ P0_6_ k_) ∨ w.heap.size ≤ k_) ∧ some k_ ≠ (.slice Ao11 l0_2.length co11 : Value).ownBlock ∧ some k_ ≠ (.slice Ao12 l0_5.length co12 : Value).ownBlock ∧ some k_ ≠ (.slice Ao25 t277.length co25 : Value).ownBlock ∧ k_ ≠ gb270 ∧ k_ ≠ gb271 ∧ k_ ≠ gb272 ∧ k_ ≠ gb281) (.slice A0_6 l0_6.length c0_6) l0_6) := ⟨by (with_reducible repeat (first | apply Kd.V_alloc | apply Kd.V_drewN | apply Kd.V_drew)); exact Kd.V_mono (Kd.V_far (p := ⟨gb281, 2, none⟩) (Kd.V_far (p := ⟨gb281, 1, none⟩) (Kd.V_far (p := ⟨gb281, 0, none⟩) (Kd.V_mono HO0_6.out (fun k_ hk => (⟨hk, hk.2.2.2.2.2.2.2⟩ : _ ∧ k_ ≠ gb281))) (fun _ hk => hk.2) (.int .i64 t275)) (fun _ hk => hk.2) (.int .i64 t276)) (fun _ hk => hk.2) (.slice Ao25 t277.length co25)) (fun _ hk => ⟨hk.1.1, ⟨hk.1.2.1, ⟨hk.1.2.2.1, ⟨hk.1.2.2.2.1, ⟨hk.1.2.2.2.2.1, ⟨hk.1.2.2.2.2.2.1, ⟨hk.1.2.2.2.2.2.2.1, hk.1.2.2.2.2.2.2.2⟩⟩⟩⟩⟩⟩⟩)⟩
      have n3_ : Aside0 (Kd.R (Kd.int .i64) 3 (((w22.setCell ⟨gb281, 0, none⟩ (.int .i64 t275)).setCell ⟨gb281, 1, none⟩ (.int .i64 t276)).setCell ⟨gb281, 2, none⟩ (.slice Ao25 t277.length co25)) w0.heap.size (fun k_ => ((P0_2_ k_ ∨ P0_5_ k_) ∨ w.heap.size ≤ k_) ∧ some k_ ≠ (.slice Ao11 l0_2.length co11 : Value).ownBlock ∧ some k_ ≠ (.slice Ao12 l0_5.length co12 : Value).ownBlock ∧ k_ ≠ gb272) (.slice Ao25 t277.length co25) t277) := ⟨by (with_reducible repeat (first | apply z8i | apply z9i | apply y1i)); exact x6i (x1i (p := ⟨gb281, 2, none⟩) (x1i (p := ⟨gb281, 1, none⟩) (x1i (p := ⟨gb281, 0, none⟩) (x7i HO279.out BK281.out (by decide)) (fun _ hk => hk.2) (.int .i64 t275)) (fun _ hk => hk.2) (.int .i64 t276)) (fun _ hk => hk.2) (.slice Ao25 t277.length co25)) (fun _ hk => ⟨hk.1.1, ⟨hk.1.2.1, ⟨hk.1.2.2.1, hk.1.2.2.2⟩⟩⟩)⟩
      have n4_ : Aside0 ((((w22.setCell ⟨gb281, 0, none⟩ (.int .i64 t275)).setCell ⟨gb281, 1, none⟩ (.int .i64 t276)).setCell ⟨gb281, 2, none⟩ (.slice Ao25 t277.length co25)).heap[gb270]? = some (.cells #[.int .i64 a0_0, .int .i64 a0_1, .slice Ao11 l0_2.length co11, .int .i64 a0_3, .int .i64 a0_4, .slice Ao12 l0_5.length co12, .slice A0_6 l0_6.length c0_6] 55 (0, 0))) := ⟨by (with_reducible repeat (first | refine z1i ?_ _ | refine z3i ?_ | refine z2i ?_ _)); refine Ext.obj_far ?_ NB270_281.out _; (with_reducible repeat (first | refine z1i ?_ _ | refine z3i ?_ | refine z2i ?_ _)); refine Ext.obj_far ?_ NB270_281.out _; (with_reducible repeat (first | refine z1i ?_ _ | refine z3i ?_ | refine z2i ?_ _)); refine Ext.obj_far ?_ NB270_281.out _; (with_reducible repeat (first | refine z1i ?_ _ | refine z3i ?_ | refine z2i ?_ _)); exact BK270.out⟩
      have n5_ : Aside0 ((((w22.setCell ⟨gb281, 0, none⟩ (.int .i64 t275)).setCell ⟨gb281, 1, none⟩ (.int .i64 t276)).setCell ⟨gb281, 2, none⟩ (.slice Ao25 t277.length co25)).heap[gb271]? = some (.cells #[.int .i64 0, .int .i64 0, .slice none 0 0, .int .i64 0, .int .i64 0, .slice none 0 0, .slice none 0 0] 55 (0, 0))) := ⟨by (with_reducible repeat (first | refine z1i ?_ _ | refine z3i ?_ | refine z2i ?_ _)); refine Ext.obj_far ?_ NB271_281.out _; (with_reducible repeat (first | refine z1i ?_ _ | refine z3i ?_ | refine z2i ?_ _)); refine Ext.obj_far ?_ NB271_281.out _; (with_reducible repeat (first | refine z1i ?_ _ | refine z3i ?_ | refine z2i ?_ _)); refine Ext.obj_far ?_ NB271_281.out _; (with_reducible repeat (first | refine z1i ?_ _ | refine z3i ?_ | refine z2i ?_ _)); exact BK271.out⟩
      have n6_ : Aside0 ((((w22.setCell ⟨gb281, 0, none⟩ (.int .i64 t275)).setCell ⟨gb281, 1, none⟩ (.int .i64 t276)).setCell ⟨gb281, 2, none⟩ (.slice Ao25 t277.length co25)).heap[gb272]? = some (ow_)) := ⟨by (with_reducible repeat (first | refine z1i ?_ _ | refine z3i ?_ | refine z2i ?_ _)); refine Ext.obj_far ?_ NB272_281.out _; (with_reducible repeat (first | refine z1i ?_ _ | refine z3i ?_ | refine z2i ?_ _)); refine Ext.obj_far ?_ NB272_281.out _; (with_reducible repeat (first | refine z1i ?_ _ | refine z3i ?_ | refine z2i ?_ _)); refine Ext.obj_far ?_ NB272_281.out _; (with_reducible repeat (first | refine z1i ?_ _ | refine z3i ?_ | refine z2i ?_ _)); exact BK272.out⟩
      have n7_ : Aside0 ((((w22.setCell ⟨gb281, 0, none⟩ (.int .i64 t275)).setCell ⟨gb281, 1, none⟩ (.int .i64 t276)).setCell ⟨gb281, 2, none⟩ (.slice Ao25 t277.length co25)).heap[gb281]? = some (.cells #[.int .i64 t275, .int .i64 t276, .slice Ao25 t277.length co25] 27 (0, 0))) := ⟨by (with_reducible repeat (first | refine z1i ?_ _ | refine z3i ?_ | refine z2i ?_ _)); refine blk_put (cs := #[.int .i64 t275, .int .i64 t276, .slice none 0 0]) ?_ 2 _ rfl; (with_reducible repeat (first | refine z1i ?_ _ | refine z3i ?_ | refine z2i ?_ _)); refine blk_put (cs := #[.int .i64 t275, .int .i64 0, .slice none 0 0]) ?_ 1 _ rfl; (with_reducible repeat (first | refine z1i ?_ _ | refine z3i ?_ | refine z2i ?_ _)); refine blk_put (cs := #[.int .i64 0, .int .i64 0, .slice none 0 0]) ?_ 0 _ rfl; (with_reducible repeat (first | refine z1i ?_ _ | refine z3i ?_ | refine z2i ?_ _)); exact BK281.out⟩
      have n8_ : Aside0 (Kept w (((w22.setCell ⟨gb281, 0, none⟩ (.int .i64 t275)).setCell ⟨gb281, 1, none⟩ (.int .i64 t276)).setCell ⟨gb281, 2, none⟩ (.slice Ao25 t277.length co25)) (fun k_ => P0_2_ k_ ∨ P0_5_ k_)) := ⟨by repeat (first | (with_reducible first | exact HK.out | apply Kept.alloc | apply Kept.drewN | apply Kept.drew | refine Kept.setCell ?_ (.inr GW270.out) _ | refine Kept.setCell ?_ (.inr GW271.out) _ | refine Kept.setCell ?_ (.inr GW272.out) _ | refine Kept.setCell ?_ (.inr GW281.out) _) | exact HK.out)⟩
      have n9_ : Aside0 (Below w0.heap.size w0 (((w22.setCell ⟨gb281, 0, none⟩ (.int .i64 t275)).setCell ⟨gb281, 1, none⟩ (.int .i64 t276)).setCell ⟨gb281, 2, none⟩ (.slice Ao25 t277.length co25))) := ⟨dV HB.out⟩
      (try clear HK)
      (try clear HB)
      generalize (((w22.setCell ⟨gb281, 0, none⟩ (.int .i64 t275)).setCell ⟨gb281, 1, none⟩ (.int .i64 t276)).setCell ⟨gb281, 2, none⟩ (.slice Ao25 t277.length co25)) = w27 at n0_ n1_ n2_ n3_ n4_ n5_ n6_ n7_ n8_ n9_ ⊢
      have HO0_2 := n0_
      have HO0_5 := n1_
      have HO0_6 := n2_
      have HO279 := n3_
      have BK270 := n4_
      have BK271 := n5_
      have BK272 := n6_
      have BK281 := n7_
      have HK := n8_
      have HB := n9_
      clear n0_ n1_ n2_ n3_ n4_ n5_ n6_ n7_ n8_ n9_
      have hnb28 := NB270_271.out
      have hnc28 := NB271_270.out
      have hnb29 := NB270_281.out
      have hnc29 := NB281_270.out
      have hcz30_0 : w27.cell? ⟨gb270, 0, none⟩ = some (.int .i64 a0_0) := (x3i BK270.out 0).trans rfl
      have hcz30_1 : w27.cell? ⟨gb270, 1, none⟩ = some (.int .i64 a0_1) := (x3i BK270.out 1).trans rfl
      have hcz30_2 : w27.cell? ⟨gb270, 2, none⟩ = some (.slice Ao11 l0_2.length co11) := (x3i BK270.out 2).trans rfl
      have hcz30_3 : w27.cell? ⟨gb270, 3, none⟩ = some (.int .i64 a0_3) := (x3i BK270.out 3).trans rfl
      have hcz30_4 : w27.cell? ⟨gb270, 4, none⟩ = some (.int .i64 a0_4) := (x3i BK270.out 4).trans rfl
      have hcz30_5 : w27.cell? ⟨gb270, 5, none⟩ = some (.slice Ao12 l0_5.length co12) := (x3i BK270.out 5).trans rfl
      have hcz30_6 : w27.cell? ⟨gb270, 6, none⟩ = some (.slice A0_6 l0_6.length c0_6) := (x3i BK270.out 6).trans rfl
      have hfz30_0 := x2i BK270.out 0
      have hfz30_1 := x2i BK270.out 1
      have hfz30_2 := x2i BK270.out 2
      have hfz30_3 := x2i BK270.out 3
      have hfz30_4 := x2i BK270.out 4
      have hfz30_5 := x2i BK270.out 5
      have hfz30_6 := x2i BK270.out 6
      have hnb31 := NB281_271.out
      have hnc31 := NB271_281.out
      have hnb32 := NB281_272.out
      have hnc32 := NB272_281.out
      have hcz33_0 : w27.cell? ⟨gb281, 0, none⟩ = some (.int .i64 t275) := (x3i BK281.out 0).trans rfl
      have hcz33_1 : w27.cell? ⟨gb281, 1, none⟩ = some (.int .i64 t276) := (x3i BK281.out 1).trans rfl
      have hcz33_2 : w27.cell? ⟨gb281, 2, none⟩ = some (.slice Ao25 t277.length co25) := (x3i BK281.out 2).trans rfl
      have hfz33_0 := x2i BK281.out 0
      have hfz33_1 := x2i BK281.out 1
      have hfz33_2 := x2i BK281.out 2
      try go_wp2_with (first | ((with_reducible refine gate_callee (f := 59) rfl ?_); refine goesL_ (some 70) rfl rfl Tryz.func59 (by kernel_rfl) rfl #[.agg #[.int .i64 a0_0, .int .i64 a0_1, .slice Ao11 l0_2.length co11, .int .i64 a0_3, .int .i64 a0_4, .slice Ao12 l0_5.length co12, .slice A0_6 l0_6.length c0_6], .agg #[.int .i64 t275, .int .i64 t276, .slice Ao25 t277.length co25], .bool t280] rfl (by (try simp only [List.map_toArray, List.map_cons, List.map_nil]); first | done | rfl | (simp only [List.length_drop, List.length_take]; rfl)) ?_; (with_reducible refine (impl_Desk_pictured.calls a0_0 a0_1 _ _ l0_2 a0_3 a0_4 (fun k_ => some k_ = (.slice Ao12 l0_5.length co12 : Value).ownBlock) (.slice Ao12 l0_5.length co12) l0_5 _ _ l0_6 t275 t276 (fun k_ => some k_ = (.slice Ao25 t277.length co25 : Value).ownBlock) (.slice Ao25 t277.length co25) t277 t280 t282 t283 t284 t287 t288 t289 t292 t295 w0 _ ?side1 ?side2 ?side3 ?side4 ?side5 ?side6 ?side7 ?side8 ?side9 A10.out).mono ?_); (case side1 => repeat (first | (with_reducible first | exact HB.out | apply below_alloc | apply pw_below_drewN | apply below_drew1 | refine below_set ?_ GE270.out | refine below_set ?_ GE271.out | refine below_set ?_ GE272.out | refine below_set ?_ GE281.out) | exact HB.out)); (case side2 => exact Kd.C_kept_own (HO0_2.out) (fun k_ hk_ hs_ => Or.elim hs_ (fun e_ => (hk_.2.1) e_) (fun e_ => (hk_.2.2.1) e_))); (case side3 => exact (Kd.R_reads' HO0_2.out).2.1); (case side4 => exact Kd.R_tight rfl HO0_5.out); (case side5 => exact fun k_ e_ => (HO0_5.out.1 k_ e_.symm).2.2.1); (case side6 => exact Kd.C_kept_ownV (HO0_6.out) (fun k_ hk_ hs_ => Or.elim hs_ (fun e_ => (hk_.2.2.1) e_) (fun e_ => (hk_.2.2.2.1) e_))); (case side7 => exact (Kd.V_reads' HO0_6.out).2.1); (case side8 => exact Kd.R_tight rfl HO279.out); (case side9 => exact fun k_ e_ => (HO279.out.1 k_ e_.symm).2.2.1); rintro e w34 ⟨v285, v290, v293, rfl, ho0, ho1, ho2, hb, hkp⟩; refine ⟨_, rfl, ?_⟩; have n_ := a11 (x6i (ok' := fun k_ => ((P0_2_ k_ ∨ P0_5_ k_) ∨ w.heap.size ≤ k_) ∧ k_ ≠ gb272 ∧ some k_ ≠ (v285 : Value).ownBlock ∧ some k_ ≠ (v290 : Value).ownBlock) (Kd.R_keptB (HO0_2.out) hkp (fun k_ hk_ hs_ => Or.elim hs_ (fun e_ => (hk_.2.1) e_) (fun e_ => (hk_.2.2.1) e_))) (fun k_ hk_ => ⟨hk_.1.1, hk_.1.2.2.2, fun e_ => Or.elim (ho0.1 k_ e_.symm).1 (fun hs_ => hk_.2.1 hs_) (fun hn_ => Nat.not_le.2 hk_.2.2 hn_), fun e_ => Or.elim (ho1.1 k_ e_.symm).1 (fun hs_ => hk_.2.1 hs_) (fun hn_ => Nat.not_le.2 hk_.2.2 hn_)⟩)) (Kd.V_mono (ok' := fun k_ => ((P0_2_ k_ ∨ P0_5_ k_ ∨ P0_6_ k_) ∨ w.heap.size ≤ k_) ∧ some k_ ≠ (.slice Ao11 l0_2.length co11 : Value).ownBlock ∧ k_ ≠ gb270 ∧ k_ ≠ gb271 ∧ k_ ≠ gb272 ∧ k_ ≠ gb281 ∧ some k_ ≠ (v285 : Value).ownBlock ∧ some k_ ≠ (v290 : Value).ownBlock ∧ some k_ ≠ (v293 : Value).ownBlock) (Kd.V_keptB (HO0_6.out) hkp (fun k_ hk_ hs_ => Or.elim hs_ (fun e_ => (hk_.2.2.1) e_) (fun e_ => (hk_.2.2.2.1) e_))) (fun k_ hk_ => ⟨hk_.1.1, hk_.1.2.1, hk_.1.2.2.2.2.1, hk_.1.2.2.2.2.2.1, hk_.1.2.2.2.2.2.2.1, hk_.1.2.2.2.2.2.2.2, fun e_ => Or.elim (ho0.1 k_ e_.symm).1 (fun hs_ => hk_.2.1 hs_) (fun hn_ => Nat.not_le.2 hk_.2.2 hn_), fun e_ => Or.elim (ho1.1 k_ e_.symm).1 (fun hs_ => hk_.2.1 hs_) (fun hn_ => Nat.not_le.2 hk_.2.2 hn_), fun e_ => Nat.not_le.2 hk_.2.2 (Kd.N_base ho2 k_ e_.symm)⟩)) (blk_kept (bV BK270.out) hkp (fun hs_ => Or.elim hs_ (fun e_ => (fun e_ => (x9i HO0_5.out BK270.out (by decide)) e_) e_) (fun e_ => (fun e_ => (x9i HO279.out BK270.out (by decide)) e_) e_))) (blk_kept (bV BK271.out) hkp (fun hs_ => Or.elim hs_ (fun e_ => (fun e_ => (x9i HO0_5.out BK271.out (by decide)) e_) e_) (fun e_ => (fun e_ => (x9i HO279.out BK271.out (by decide)) e_) e_))) (blk_kept (bV BK272.out) hkp (fun hs_ => Or.elim hs_ (fun e_ => (fun e_ => (Kd.R_away HO0_5.out (fun _ hk => hk.2.2.2)) e_) e_) (fun e_ => (fun e_ => (Kd.R_away HO279.out (fun _ hk => hk.2.2.2)) e_) e_))) (blk_kept (bV BK281.out) hkp (fun hs_ => Or.elim hs_ (fun e_ => (fun e_ => (x9i HO0_5.out BK281.out (by decide)) e_) e_) (fun e_ => (fun e_ => (x9i HO279.out BK281.out (by decide)) e_) e_))) (x6i (ok' := fun k_ => ((P0_2_ k_ ∨ P0_5_ k_) ∨ w.heap.size ≤ k_) ∧ some k_ ≠ (v290 : Value).ownBlock ∧ some k_ ≠ (.slice Ao11 l0_2.length co11 : Value).ownBlock ∧ k_ ≠ gb272) ho0 (fun k_ hk_ => ⟨Or.elim hk_.1 (fun hs_ => Or.elim hs_ (fun hs_ => (HO0_5.out.1 k_ (hs_).symm).1) (fun hs_ => (HO279.out.1 k_ (hs_).symm).1)) (fun hn_ => (.inr (Nat.le_trans (by first | exact HK.out.1 | exact (show Kept w _ (fun k_ => P0_2_ k_ ∨ P0_5_ k_) from by repeat (first | (with_reducible first | exact HK.out | apply Kept.alloc | apply Kept.drewN | apply Kept.drew | refine Kept.setCell ?_ (.inr GW270.out) _ | refine Kept.setCell ?_ (.inr GW271.out) _ | refine Kept.setCell ?_ (.inr GW272.out) _ | refine Kept.setCell ?_ (.inr GW281.out) _) | exact HK.out)).1) hn_))), hk_.2, Or.elim hk_.1 (fun hs_ => Or.elim hs_ (fun hs_ => fun e_ => (((HO0_2.out).1 k_ e_.symm).2.1) hs_) (fun hs_ => fun e_ => (((HO0_2.out).1 k_ e_.symm).2.2.1) hs_)) (fun hn_ => (Kd.fresh' (Kd.R_lt (rV HO0_2.out)) k_ hn_)), Or.elim hk_.1 (fun hs_ => Or.elim hs_ (fun hs_ => fun e_ => (Kd.R_away HO0_5.out (fun _ hk => hk.2.2.2)) (by rw [← e_]; exact hs_)) (fun hs_ => fun e_ => (Kd.R_away HO279.out (fun _ hk => hk.2.2.2)) (by rw [← e_]; exact hs_))) (fun hn_ => (Kd.freshB (g := gb272) (o := ow_) (bV BK272.out) k_ hn_))⟩)) (x6i (ok' := fun k_ => ((P0_2_ k_ ∨ P0_5_ k_) ∨ w.heap.size ≤ k_) ∧ some k_ ≠ (v285 : Value).ownBlock ∧ some k_ ≠ (.slice Ao11 l0_2.length co11 : Value).ownBlock ∧ k_ ≠ gb272) ho1 (fun k_ hk_ => ⟨Or.elim hk_.1 (fun hs_ => Or.elim hs_ (fun hs_ => (HO0_5.out.1 k_ (hs_).symm).1) (fun hs_ => (HO279.out.1 k_ (hs_).symm).1)) (fun hn_ => (.inr (Nat.le_trans (by first | exact HK.out.1 | exact (show Kept w _ (fun k_ => P0_2_ k_ ∨ P0_5_ k_) from by repeat (first | (with_reducible first | exact HK.out | apply Kept.alloc | apply Kept.drewN | apply Kept.drew | refine Kept.setCell ?_ (.inr GW270.out) _ | refine Kept.setCell ?_ (.inr GW271.out) _ | refine Kept.setCell ?_ (.inr GW272.out) _ | refine Kept.setCell ?_ (.inr GW281.out) _) | exact HK.out)).1) hn_))), hk_.2, Or.elim hk_.1 (fun hs_ => Or.elim hs_ (fun hs_ => fun e_ => (((HO0_2.out).1 k_ e_.symm).2.1) hs_) (fun hs_ => fun e_ => (((HO0_2.out).1 k_ e_.symm).2.2.1) hs_)) (fun hn_ => (Kd.fresh' (Kd.R_lt (rV HO0_2.out)) k_ hn_)), Or.elim hk_.1 (fun hs_ => Or.elim hs_ (fun hs_ => fun e_ => (Kd.R_away HO0_5.out (fun _ hk => hk.2.2.2)) (by rw [← e_]; exact hs_)) (fun hs_ => fun e_ => (Kd.R_away HO279.out (fun _ hk => hk.2.2.2)) (by rw [← e_]; exact hs_))) (fun hn_ => (Kd.freshB (g := gb272) (o := ow_) (bV BK272.out) k_ hn_))⟩)) (Kd.N_lower (Kd.N_mono (ok' := fun k_ => ((P0_2_ k_ ∨ P0_5_ k_ ∨ P0_6_ k_) ∨ w.heap.size ≤ k_) ∧ some k_ ≠ (v285 : Value).ownBlock ∧ some k_ ≠ (v290 : Value).ownBlock ∧ some k_ ≠ (.slice Ao11 l0_2.length co11 : Value).ownBlock ∧ k_ ≠ gb270 ∧ k_ ≠ gb271 ∧ k_ ≠ gb272 ∧ k_ ≠ gb281) ho2 (fun k_ hk_ => ⟨Or.elim hk_.1 (fun hs_ => Or.elim hs_ (fun hs_ => (Or.imp_left (fun h_ => (Or.elim h_ (fun z_ => .inl z_) (fun z_ => .inr (.inl z_)))) ((HO0_5.out.1 k_ (hs_).symm).1))) (fun hs_ => (Or.imp_left (fun h_ => (Or.elim h_ (fun z_ => .inl z_) (fun z_ => .inr (.inl z_)))) ((HO279.out.1 k_ (hs_).symm).1)))) (fun hn_ => (.inr (Nat.le_trans (by first | exact HK.out.1 | exact (show Kept w _ (fun k_ => P0_2_ k_ ∨ P0_5_ k_) from by repeat (first | (with_reducible first | exact HK.out | apply Kept.alloc | apply Kept.drewN | apply Kept.drew | refine Kept.setCell ?_ (.inr GW270.out) _ | refine Kept.setCell ?_ (.inr GW271.out) _ | refine Kept.setCell ?_ (.inr GW272.out) _ | refine Kept.setCell ?_ (.inr GW281.out) _) | exact HK.out)).1) hn_))), hk_.2.1, hk_.2.2, Or.elim hk_.1 (fun hs_ => Or.elim hs_ (fun hs_ => fun e_ => (((HO0_2.out).1 k_ e_.symm).2.1) hs_) (fun hs_ => fun e_ => (((HO0_2.out).1 k_ e_.symm).2.2.1) hs_)) (fun hn_ => (Kd.fresh' (Kd.R_lt (rV HO0_2.out)) k_ hn_)), Or.elim hk_.1 (fun hs_ => Or.elim hs_ (fun hs_ => fun e_ => (x9i HO0_5.out BK270.out (by decide)) (by rw [← e_]; exact hs_)) (fun hs_ => fun e_ => (x9i HO279.out BK270.out (by decide)) (by rw [← e_]; exact hs_))) (fun hn_ => (Kd.freshB (bV BK270.out) k_ hn_)), Or.elim hk_.1 (fun hs_ => Or.elim hs_ (fun hs_ => fun e_ => (x9i HO0_5.out BK271.out (by decide)) (by rw [← e_]; exact hs_)) (fun hs_ => fun e_ => (x9i HO279.out BK271.out (by decide)) (by rw [← e_]; exact hs_))) (fun hn_ => (Kd.freshB (bV BK271.out) k_ hn_)), Or.elim hk_.1 (fun hs_ => Or.elim hs_ (fun hs_ => fun e_ => (Kd.R_away HO0_5.out (fun _ hk => hk.2.2.2)) (by rw [← e_]; exact hs_)) (fun hs_ => fun e_ => (Kd.R_away HO279.out (fun _ hk => hk.2.2.2)) (by rw [← e_]; exact hs_))) (fun hn_ => (Kd.freshB (g := gb272) (o := ow_) (bV BK272.out) k_ hn_)), Or.elim hk_.1 (fun hs_ => Or.elim hs_ (fun hs_ => fun e_ => (x9i HO0_5.out BK281.out (by decide)) (by rw [← e_]; exact hs_)) (fun hs_ => fun e_ => (x9i HO279.out BK281.out (by decide)) (by rw [← e_]; exact hs_))) (fun hn_ => (Kd.freshB (bV BK281.out) k_ hn_))⟩)) (by first | exact HK.out.1 | exact (show Kept w _ (fun k_ => P0_2_ k_ ∨ P0_5_ k_) from by repeat (first | (with_reducible first | exact HK.out | apply Kept.alloc | apply Kept.drewN | apply Kept.drew | refine Kept.setCell ?_ (.inr GW270.out) _ | refine Kept.setCell ?_ (.inr GW271.out) _ | refine Kept.setCell ?_ (.inr GW272.out) _ | refine Kept.setCell ?_ (.inr GW281.out) _) | exact HK.out)).1)) (Kept.then_ (S := (fun k_ => P0_2_ k_ ∨ P0_5_ k_)) (by repeat (first | (with_reducible first | exact HK.out | apply Kept.alloc | apply Kept.drewN | apply Kept.drew | refine Kept.setCell ?_ (.inr GW270.out) _ | refine Kept.setCell ?_ (.inr GW271.out) _ | refine Kept.setCell ?_ (.inr GW272.out) _ | refine Kept.setCell ?_ (.inr GW281.out) _) | exact HK.out)) hkp (fun k_ hs_ => Or.elim hs_ (fun e_ => (fun e_ => (HO0_5.out.1 k_ e_.symm).1) e_) (fun e_ => (fun e_ => (HO279.out.1 k_ e_.symm).1) e_))) (hb); clear HO0_2 HO0_6 BK270 BK271 BK272 BK281 HK HB HO0_5 HO279; obtain ⟨HO0_2, HO0_6, BK270, BK271, BK272, BK281, HO286, HO291, HO294, HK, HB⟩ := n_; (try clear hb); (try clear hkp); (try clear ho0); (try clear ho1); (try clear ho2); have hcz35_0 : w34.cell? ⟨gb271, 0, none⟩ = some (.int .i64 0) := (x3i BK271.out 0).trans rfl; have hcz35_1 : w34.cell? ⟨gb271, 1, none⟩ = some (.int .i64 0) := (x3i BK271.out 1).trans rfl; have hcz35_2 : w34.cell? ⟨gb271, 2, none⟩ = some (.slice none 0 0) := (x3i BK271.out 2).trans rfl; have hcz35_3 : w34.cell? ⟨gb271, 3, none⟩ = some (.int .i64 0) := (x3i BK271.out 3).trans rfl; have hcz35_4 : w34.cell? ⟨gb271, 4, none⟩ = some (.int .i64 0) := (x3i BK271.out 4).trans rfl; have hcz35_5 : w34.cell? ⟨gb271, 5, none⟩ = some (.slice none 0 0) := (x3i BK271.out 5).trans rfl; have hcz35_6 : w34.cell? ⟨gb271, 6, none⟩ = some (.slice none 0 0) := (x3i BK271.out 6).trans rfl; have hfz35_0 := x2i BK271.out 0; have hfz35_1 := x2i BK271.out 1; have hfz35_2 := x2i BK271.out 2; have hfz35_3 := x2i BK271.out 3; have hfz35_4 := x2i BK271.out 4; have hfz35_5 := x2i BK271.out 5; have hfz35_6 := x2i BK271.out 6; obtain ⟨Ao36, co36, eo36⟩ := Kd.R_slice HO286.out; subst eo36; obtain ⟨Ao37, co37, eo37⟩ := Kd.R_slice HO291.out; subst eo37; obtain ⟨Ao38, co38, eo38⟩ := Kd.N_slice HO294.out; subst eo38))
      refine bodyPost_ret (results_ct rfl _ _ gb271 55 #[.int .i64 t282, .int .i64 t283, .slice Ao36 t284.length co36, .int .i64 t287, .int .i64 t288, .slice Ao37 t289.length co37, .slice Ao38 t292.length co38] (0, 0) _ rfl (by (with_reducible repeat (first | refine z1i ?_ _ | refine z3i ?_ | refine z2i ?_ _)); refine blk_put (cs := #[.int .i64 t282, .int .i64 t283, .slice Ao36 t284.length co36, .int .i64 t287, .int .i64 t288, .slice Ao37 t289.length co37, .slice none 0 0]) ?_ 6 _ rfl; (with_reducible repeat (first | refine z1i ?_ _ | refine z3i ?_ | refine z2i ?_ _)); refine blk_put (cs := #[.int .i64 t282, .int .i64 t283, .slice Ao36 t284.length co36, .int .i64 t287, .int .i64 t288, .slice none 0 0, .slice none 0 0]) ?_ 5 _ rfl; (with_reducible repeat (first | refine z1i ?_ _ | refine z3i ?_ | refine z2i ?_ _)); refine blk_put (cs := #[.int .i64 t282, .int .i64 t283, .slice Ao36 t284.length co36, .int .i64 t287, .int .i64 0, .slice none 0 0, .slice none 0 0]) ?_ 4 _ rfl; (with_reducible repeat (first | refine z1i ?_ _ | refine z3i ?_ | refine z2i ?_ _)); refine blk_put (cs := #[.int .i64 t282, .int .i64 t283, .slice Ao36 t284.length co36, .int .i64 0, .int .i64 0, .slice none 0 0, .slice none 0 0]) ?_ 3 _ rfl; (with_reducible repeat (first | refine z1i ?_ _ | refine z3i ?_ | refine z2i ?_ _)); refine blk_put (cs := #[.int .i64 t282, .int .i64 t283, .slice none 0 0, .int .i64 0, .int .i64 0, .slice none 0 0, .slice none 0 0]) ?_ 2 _ rfl; (with_reducible repeat (first | refine z1i ?_ _ | refine z3i ?_ | refine z2i ?_ _)); refine blk_put (cs := #[.int .i64 t282, .int .i64 0, .slice none 0 0, .int .i64 0, .int .i64 0, .slice none 0 0, .slice none 0 0]) ?_ 1 _ rfl; (with_reducible repeat (first | refine z1i ?_ _ | refine z3i ?_ | refine z2i ?_ _)); refine blk_put (cs := #[.int .i64 0, .int .i64 0, .slice none 0 0, .int .i64 0, .int .i64 0, .slice none 0 0, .slice none 0 0]) ?_ 0 _ rfl; (with_reducible repeat (first | refine z1i ?_ _ | refine z3i ?_ | refine z2i ?_ _)); exact BK271.out) Tryz.underlying55 rfl (by kernel_rfl)) rfl ?_
      exact ⟨_, _, _, by first | rfl | (simp [errW_none, errW_some] <;> rfl) | (simp [*, errW_none, errW_some] <;> rfl), by (with_reducible repeat (first | apply z8i | apply z9i | apply y1i)); exact x6i (x1i (p := ⟨gb271, 6, none⟩) (x1i (p := ⟨gb271, 5, none⟩) (x1i (p := ⟨gb271, 4, none⟩) (x1i (p := ⟨gb271, 3, none⟩) (x1i (p := ⟨gb271, 2, none⟩) (x1i (p := ⟨gb271, 1, none⟩) (x1i (p := ⟨gb271, 0, none⟩) (x7i HO286.out BK271.out (by decide)) (fun _ hk => hk.2) (.int .i64 t282)) (fun _ hk => hk.2) (.int .i64 t283)) (fun _ hk => hk.2) (.slice Ao36 t284.length co36)) (fun _ hk => hk.2) (.int .i64 t287)) (fun _ hk => hk.2) (.int .i64 t288)) (fun _ hk => hk.2) (.slice Ao37 t289.length co37)) (fun _ hk => hk.2) (.slice Ao38 t292.length co38)) (fun _ hk => ⟨hk.1.1, hk.1.2.1⟩), by (with_reducible repeat (first | apply z8i | apply z9i | apply y1i)); exact x6i (x1i (p := ⟨gb271, 6, none⟩) (x1i (p := ⟨gb271, 5, none⟩) (x1i (p := ⟨gb271, 4, none⟩) (x1i (p := ⟨gb271, 3, none⟩) (x1i (p := ⟨gb271, 2, none⟩) (x1i (p := ⟨gb271, 1, none⟩) (x1i (p := ⟨gb271, 0, none⟩) (x7i HO291.out BK271.out (by decide)) (fun _ hk => hk.2) (.int .i64 t282)) (fun _ hk => hk.2) (.int .i64 t283)) (fun _ hk => hk.2) (.slice Ao36 t284.length co36)) (fun _ hk => hk.2) (.int .i64 t287)) (fun _ hk => hk.2) (.int .i64 t288)) (fun _ hk => hk.2) (.slice Ao37 t289.length co37)) (fun _ hk => hk.2) (.slice Ao38 t292.length co38)) (fun _ hk => ⟨hk.1.1, hk.1.2.1⟩), Kd.N_V (by (with_reducible repeat (first | apply Kd.N_alloc | apply Kd.N_drewN | apply Kd.N_drew)); exact Kd.N_mono (Kd.N_far (p := ⟨gb271, 6, none⟩) (Kd.N_far (p := ⟨gb271, 5, none⟩) (Kd.N_far (p := ⟨gb271, 4, none⟩) (Kd.N_far (p := ⟨gb271, 3, none⟩) (Kd.N_far (p := ⟨gb271, 2, none⟩) (Kd.N_far (p := ⟨gb271, 1, none⟩) (Kd.N_far (p := ⟨gb271, 0, none⟩) (Kd.N_mono HO294.out (fun k_ hk => (⟨hk, hk.2.2.2.2.2.1⟩ : _ ∧ k_ ≠ gb271))) (fun _ hk => hk.2) (.int .i64 t282)) (fun _ hk => hk.2) (.int .i64 t283)) (fun _ hk => hk.2) (.slice Ao36 t284.length co36)) (fun _ hk => hk.2) (.int .i64 t287)) (fun _ hk => hk.2) (.int .i64 t288)) (fun _ hk => hk.2) (.slice Ao37 t289.length co37)) (fun _ hk => hk.2) (.slice Ao38 t292.length co38)) (fun _ hk => ⟨hk.1.1, ⟨hk.1.2.1, hk.1.2.2.1⟩⟩)), dV HB.out, by repeat (first | (with_reducible first | exact HK.out | apply Kept.alloc | apply Kept.drewN | apply Kept.drew | refine Kept.setCell ?_ (.inr GW270.out) _ | refine Kept.setCell ?_ (.inr GW271.out) _ | refine Kept.setCell ?_ (.inr GW272.out) _ | refine Kept.setCell ?_ (.inr GW281.out) _) | exact HK.out)⟩
     ·rw [if_neg c8] at H
      exact absurd H (by simp)
    ·rw [if_neg c7] at H
     exact absurd H (by simp)
   ·rw [if_neg c6] at H
    have c6b0 : (a1.toList == ([114, 97, 109, 112] : List UInt8)) = false := beq_eq_false_iff_ne.mpr c6
    have c6b1 : (a1.toList != ([114, 97, 109, 112] : List UInt8)) = true := bne_iff_ne.mpr c6
    by_cases c39 : a1.toList = ([98, 97, 121, 101, 114] : List UInt8)
    ·rw [if_pos c39] at H
     have c39b0 : (a1.toList == ([98, 97, 121, 101, 114] : List UInt8)) = true := beq_iff_eq.mpr c39
     have c39b1 : (a1.toList != ([98, 97, 121, 101, 114] : List UInt8)) = false := bne_eq_false_iff_eq.mpr c39
     clear c39
     by_cases c40 : 0 < (l2.length : Int)
     ·rw [if_pos c40] at H
      have c40b0 : decide (0 < (l2.length : Int)) = true := decide_eq_true c40
      have c40b1 : decide (0 < l2.length) = true := decide_eq_true (by omega)
      clear c40
      replace H := Option.bind_eq_some_iff.mp H
      obtain ⟨⟨t297, t298, t299, t302⟩, A410, H⟩ := H
      (try dsimp only at H)
      have A41 := z0i A410
      clear A410
      replace H := Option.bind_eq_some_iff.mp H
      obtain ⟨⟨t304, t305, t306, t309, t310, t311, t314, t317⟩, A420, H⟩ := H
      (try dsimp only at H)
      have A42 := z0i A420
      clear A420
      simp only [Option.some.injEq, Prod.mk.injEq] at H
      obtain ⟨rfl, rfl, rfl, rfl, rfl, rfl, rfl, rfl⟩ := H
      obtain ⟨Ao43, co43, eo43⟩ := Kd.R_slice HO0_2.out
      subst eo43
      obtain ⟨Ao44, co44, eo44⟩ := Kd.R_slice HO0_5.out
      subst eo44
      go_enter Tryz.func41, Tryz.ntmps41
      go_wp2_with (first | ((with_reducible refine gate_dst (N := 3) rfl ?_); refine box_event rfl (N := 3) rfl (cs := #[.int .i64 a0_0, .int .i64 a0_1, .slice Ao43 l0_2.length co43, .int .i64 a0_3, .int .i64 a0_4, .slice Ao44 l0_5.length co44, .slice A0_6 l0_6.length c0_6]) (t := 55) (by first | (go_simp; done) | (go_simp; rfl)) ?_; intro gb270 hg w45 hbox hb; have n_ := a8 (x4i (rV HO0_2.out) hb) (x4i (rV HO0_5.out) hb) (Kd.V_below (Kd.V_elderB (vV HO0_6.out) gb270 (Nat.le_of_eq hg.symm)) hb) (Kept.below (S := (fun k_ => P0_2_ k_ ∨ P0_5_ k_)) (by repeat (first | (with_reducible first | exact HK.out | apply Kept.alloc | apply Kept.drewN | apply Kept.drew) | exact HK.out)) hb) (dU HB.out hb) (hbox) ((by rw [hg]; exact (by first | exact HK.out.1 | exact (show Kept w _ (fun k_ => P0_2_ k_ ∨ P0_5_ k_) from by repeat (first | (with_reducible first | exact HK.out | apply Kept.alloc | apply Kept.drewN | apply Kept.drew) | exact HK.out)).1) : w.heap.size ≤ gb270)) (gE hg HB.out); clear HO0_2 HO0_5 HO0_6 HK HB; obtain ⟨HO0_2, HO0_5, HO0_6, HK, HB, BK270, GW270, GE270⟩ := n_; have gi_270 := GEc.mk GE270.out; clear hb hbox hg) | ((with_reducible refine gate_dst (N := 6) rfl ?_); refine box_event rfl (N := 6) rfl (cs := #[.int .i64 0, .int .i64 0, .slice none 0 0, .int .i64 0, .int .i64 0, .slice none 0 0, .slice none 0 0]) (t := 55) (by first | (go_simp; done) | (go_simp; rfl)) ?_; intro gb271 hg w46 hbox hb; have n_ := a11 (x4i (rV HO0_2.out) hb) (x4i (rV HO0_5.out) hb) (Kd.V_below (Kd.V_elderB (vV HO0_6.out) gb271 (Nat.le_of_eq hg.symm)) hb) (bU BK270.out hb) (Kept.below (S := (fun k_ => P0_2_ k_ ∨ P0_5_ k_)) (by repeat (first | (with_reducible first | exact HK.out | apply Kept.alloc | apply Kept.drewN | apply Kept.drew | refine Kept.setCell ?_ (.inr GW270.out) _) | exact HK.out)) hb) (dU HB.out hb) (hbox) ((by rw [hg]; exact (by first | exact HK.out.1 | exact (show Kept w _ (fun k_ => P0_2_ k_ ∨ P0_5_ k_) from by repeat (first | (with_reducible first | exact HK.out | apply Kept.alloc | apply Kept.drewN | apply Kept.drew | refine Kept.setCell ?_ (.inr GW270.out) _) | exact HK.out)).1) : w.heap.size ≤ gb271)) (gE hg HB.out) (nL hg BK270.out) (nG hg BK270.out); clear HO0_2 HO0_5 HO0_6 BK270 HK HB; obtain ⟨HO0_2, HO0_5, HO0_6, BK270, HK, HB, BK271, GW271, GE271, NB270_271, NB271_270⟩ := n_; have gi_271 := GEc.mk GE271.out; clear hb hbox hg) | ((with_reducible refine gate_dst (N := 24) rfl ?_); refine Ext.map8 _ 24 ?h0 ?hs ?he ?_; (case h0 => exact ⟨rfl, rfl⟩); (case hs => rfl); (case he => exact (fun _ => rfl)); intro gb272 ow_ w47 hg iw_ hbox hb; have HLK_ := Ext.looks hbox iw_ a1 (by have := HSZ_.out; unfold maxLen; omega); clear iw_; have n_ := a14 (x4i (Kd.R_elderB (rV HO0_2.out) gb272 (Nat.le_of_eq hg.symm)) hb) (x4i (Kd.R_elderB (rV HO0_5.out) gb272 (Nat.le_of_eq hg.symm)) hb) (Kd.V_below (Kd.V_elderB (vV HO0_6.out) gb272 (Nat.le_of_eq hg.symm)) hb) (bU BK270.out hb) (bU BK271.out hb) (Kept.below (S := (fun k_ => P0_2_ k_ ∨ P0_5_ k_)) (by repeat (first | (with_reducible first | exact HK.out | apply Kept.alloc | apply Kept.drewN | apply Kept.drew | refine Kept.setCell ?_ (.inr GW270.out) _ | refine Kept.setCell ?_ (.inr GW271.out) _) | exact HK.out)) hb) (dU HB.out hb) (hbox) ((by rw [hg]; exact (by first | exact HK.out.1 | exact (show Kept w _ (fun k_ => P0_2_ k_ ∨ P0_5_ k_) from by repeat (first | (with_reducible first | exact HK.out | apply Kept.alloc | apply Kept.drewN | apply Kept.drew | refine Kept.setCell ?_ (.inr GW270.out) _ | refine Kept.setCell ?_ (.inr GW271.out) _) | exact HK.out)).1) : w.heap.size ≤ gb272)) (gE hg HB.out) (nL hg BK270.out) (nG hg BK270.out) (nL hg BK271.out) (nG hg BK271.out); clear HO0_2 HO0_5 HO0_6 BK270 BK271 HK HB; obtain ⟨HO0_2, HO0_5, HO0_6, BK270, BK271, HK, HB, BK272, GW272, GE272, NB270_272, NB272_270, NB271_272, NB272_271⟩ := n_; have gi_272 := GEc.mk GE272.out; clear hb hbox hg; have hnb48 := NB272_270.out; have hnc48 := NB270_272.out; have hnb49 := NB272_271.out; have hnc49 := NB271_272.out; have p296 : 0 ≤ (0 : Int) := (by omega); have q296 : 0 < (l2.length : Int) := of_decide_eq_true (by first | (with_reducible assumption) | assumption); obtain ⟨ad296, e296, hx296_0⟩ := Kd.at_int (Kd.C_kept_now HR2.out HK.out) 0 p296 q296; cases e296; have qi296 : (0 < l2.length) = True := eq_true (by omega); (try rw [show ((0 : Int)).toNat = 0 from rfl] at hx296_0); (try rw [Addr.add_zero'] at hx296_0); replace p296 := eq_true p296; replace q296 := eq_true q296) | ((with_reducible refine gate_callee (f := 7) rfl ?_); refine goesL_ (some 79) rfl rfl Tryz.func7 (by kernel_rfl) rfl #[.int .i64 (rd l2 0)] rfl (by (try simp only [List.map_toArray, List.map_cons, List.map_nil]); first | done | rfl | (simp only [List.length_drop, List.length_take]; rfl)) ?_; (with_reducible refine (impl_BayerMatrix.calls k (rd l2 0) t297 t298 t299 t302 _ A41.out).mono ?_); rintro e w51 ⟨v300, rfl, ho0, hb⟩; refine ⟨_, rfl, ?_⟩; have n_ := a9 (Kd.R_elder' (rV HO0_2.out) (w2_i ho0) hb) (Kd.R_elder' (rV HO0_5.out) (w2_i ho0) hb) (Kd.V_elder' (vV HO0_6.out) (w2_i ho0) hb) (Kd.R_lower (Kd.R_newB (Kd.R_new' (Kd.R_new' (Kd.R_newM (M := fun k_ => ((P0_2_ k_ ∨ P0_5_ k_) ∨ w.heap.size ≤ k_)) ho0 (by first | exact HK.out.1 | exact (show Kept w _ (fun k_ => P0_2_ k_ ∨ P0_5_ k_) from by repeat (first | (with_reducible first | exact HK.out | apply Kept.alloc | apply Kept.drewN | apply Kept.drew | refine Kept.setCell ?_ (.inr GW270.out) _ | refine Kept.setCell ?_ (.inr GW271.out) _ | refine Kept.setCell ?_ (.inr GW272.out) _) | exact HK.out)).1) (fun k_ h_ => .inr h_)) (Kd.R_lt (rV HO0_2.out))) (Kd.R_lt (rV HO0_5.out))) (g := gb272) (o := ow_) (bV BK272.out)) (below_size (dV HB.out))) (bU BK270.out hb) (bU BK271.out hb) (blk_below (g := gb272) (o := ow_) (bV BK272.out) hb) (Kept.below (S := (fun k_ => P0_2_ k_ ∨ P0_5_ k_)) (by repeat (first | (with_reducible first | exact HK.out | apply Kept.alloc | apply Kept.drewN | apply Kept.drew | refine Kept.setCell ?_ (.inr GW270.out) _ | refine Kept.setCell ?_ (.inr GW271.out) _ | refine Kept.setCell ?_ (.inr GW272.out) _) | exact HK.out)) hb) (dU HB.out hb); clear HO0_2 HO0_5 HO0_6 BK270 BK271 BK272 HK HB; obtain ⟨HO0_2, HO0_5, HO0_6, HO301, BK270, BK271, BK272, HK, HB⟩ := n_; (try clear hb); (try clear ho0)) | ((with_reducible refine gate_dst (N := 13) rfl ?_); refine box_event rfl (N := 13) rfl (cs := #[.int .i64 0, .int .i64 0, .slice none 0 0]) (t := 31) (by first | (go_simp; done) | (go_simp; rfl)) ?_; intro gb303 hg w52 hbox hb; have n_ := a18 (x4i (rV HO0_2.out) hb) (x4i (rV HO0_5.out) hb) (Kd.V_below (Kd.V_elderB (vV HO0_6.out) gb303 (Nat.le_of_eq hg.symm)) hb) (x4i (rV HO301.out) hb) (bU BK270.out hb) (bU BK271.out hb) (blk_below (g := gb272) (o := ow_) (bV BK272.out) hb) (Kept.below (S := (fun k_ => P0_2_ k_ ∨ P0_5_ k_)) (by repeat (first | (with_reducible first | exact HK.out | apply Kept.alloc | apply Kept.drewN | apply Kept.drew | refine Kept.setCell ?_ (.inr GW270.out) _ | refine Kept.setCell ?_ (.inr GW271.out) _ | refine Kept.setCell ?_ (.inr GW272.out) _) | exact HK.out)) hb) (dU HB.out hb) (hbox) ((by rw [hg]; exact (by first | exact HK.out.1 | exact (show Kept w _ (fun k_ => P0_2_ k_ ∨ P0_5_ k_) from by repeat (first | (with_reducible first | exact HK.out | apply Kept.alloc | apply Kept.drewN | apply Kept.drew | refine Kept.setCell ?_ (.inr GW270.out) _ | refine Kept.setCell ?_ (.inr GW271.out) _ | refine Kept.setCell ?_ (.inr GW272.out) _) | exact HK.out)).1) : w.heap.size ≤ gb303)) (gE hg HB.out) (nL hg BK270.out) (nG hg BK270.out) (nL hg BK271.out) (nG hg BK271.out) ((by rw [hg]; exact Nat.ne_of_lt (blk_lt (g := gb272) (o := ow_) (bV BK272.out)) : gb272 ≠ gb303)) ((by rw [hg]; exact Nat.ne_of_gt (blk_lt (g := gb272) (o := ow_) (bV BK272.out)) : gb303 ≠ gb272)); clear HO0_2 HO0_5 HO0_6 HO301 BK270 BK271 BK272 HK HB; obtain ⟨HO0_2, HO0_5, HO0_6, HO301, BK270, BK271, BK272, HK, HB, BK303, GW303, GE303, NB270_303, NB303_270, NB271_303, NB303_271, NB272_303, NB303_272⟩ := n_; have gi_303 := GEc.mk GE303.out; clear hb hbox hg; have hnb53 := NB303_270.out; have hnc53 := NB270_303.out; have hnb54 := NB303_271.out; have hnc54 := NB271_303.out; have hnb55 := NB303_272.out; have hnc55 := NB272_303.out; have hcz56_0 : w52.cell? ⟨gb303, 0, none⟩ = some (.int .i64 0) := (x3i BK303.out 0).trans rfl; have hcz56_1 : w52.cell? ⟨gb303, 1, none⟩ = some (.int .i64 0) := (x3i BK303.out 1).trans rfl; have hcz56_2 : w52.cell? ⟨gb303, 2, none⟩ = some (.slice none 0 0) := (x3i BK303.out 2).trans rfl; have hfz56_0 := x2i BK303.out 0; have hfz56_1 := x2i BK303.out 1; have hfz56_2 := x2i BK303.out 2; obtain ⟨Ao57, co57, eo57⟩ := Kd.R_slice HO301.out; subst eo57) | ((with_reducible refine gate_store (t := 31) (p := 13) rfl ?_); refine store_event (t := 31) (p := 13) (v := ?vo_w58) (w1 := (((w52.setCell ⟨gb303, 0, none⟩ (.int .i64 t297)).setCell ⟨gb303, 1, none⟩ (.int .i64 t298)).setCell ⟨gb303, 2, none⟩ (.slice Ao57 t299.length co57))) ?hg ?ho ?hn ?hr ?_; (case ho => rfl); (case hg => rfl); (case hn => rfl); (case hr => first | (go_simp; done) | (go_simp; rfl)); intro w58 hw; have n0_ : Aside0 (Kd.R (Kd.int .i64) 3 w58 w0.heap.size (fun k_ => ((P0_2_ k_ ∨ P0_5_ k_) ∨ w.heap.size ≤ k_) ∧ some k_ ≠ (.slice Ao44 l0_5.length co44 : Value).ownBlock ∧ some k_ ≠ (.slice Ao57 t299.length co57 : Value).ownBlock ∧ k_ ≠ gb272) (.slice Ao43 l0_2.length co43) l0_2) := ⟨(by rw [hw]; exact (by (with_reducible repeat (first | apply z8i | apply z9i | apply y1i)); exact x6i (x1i (p := ⟨gb303, 2, none⟩) (x1i (p := ⟨gb303, 1, none⟩) (x1i (p := ⟨gb303, 0, none⟩) (x7i HO0_2.out BK303.out (by decide)) (fun _ hk => hk.2) (.int .i64 t297)) (fun _ hk => hk.2) (.int .i64 t298)) (fun _ hk => hk.2) (.slice Ao57 t299.length co57)) (fun _ hk => ⟨hk.1.1.1.1, ⟨hk.1.1.1.2, ⟨hk.1.2, hk.1.1.2⟩⟩⟩)))⟩; have n1_ : Aside0 (Kd.R (Kd.int .i64) 3 w58 w0.heap.size (fun k_ => ((P0_2_ k_ ∨ P0_5_ k_) ∨ w.heap.size ≤ k_) ∧ some k_ ≠ (.slice Ao43 l0_2.length co43 : Value).ownBlock ∧ some k_ ≠ (.slice Ao57 t299.length co57 : Value).ownBlock ∧ k_ ≠ gb272) (.slice Ao44 l0_5.length co44) l0_5) := ⟨(by rw [hw]; exact (by (with_reducible repeat (first | apply z8i | apply z9i | apply y1i)); exact x6i (x1i (p := ⟨gb303, 2, none⟩) (x1i (p := ⟨gb303, 1, none⟩) (x1i (p := ⟨gb303, 0, none⟩) (x7i HO0_5.out BK303.out (by decide)) (fun _ hk => hk.2) (.int .i64 t297)) (fun _ hk => hk.2) (.int .i64 t298)) (fun _ hk => hk.2) (.slice Ao57 t299.length co57)) (fun _ hk => ⟨hk.1.1.1.1, ⟨hk.1.1.1.2, ⟨hk.1.2, hk.1.1.2⟩⟩⟩)))⟩; have n2_ : Aside0 (Kd.V k27 27 w58 w0.heap.size (fun k_ => ((P0_2_ k_ ∨ P0_5_ k_ ∨ P0_6_ k_) ∨ w.heap.size ≤ k_) ∧ some k_ ≠ (.slice Ao43 l0_2.length co43 : Value).ownBlock ∧ some k_ ≠ (.slice Ao44 l0_5.length co44 : Value).ownBlock ∧ some k_ ≠ (.slice Ao57 t299.length co57 : Value).ownBlock ∧ k_ ≠ gb270 ∧ k_ ≠ gb271 ∧ k_ ≠ gb272 ∧ k_ ≠ gb303) (.slice A0_6 l0_6.length c0_6) l0_6) := ⟨(by rw [hw]; exact (by (with_reducible repeat (first | apply Kd.V_alloc | apply Kd.V_drewN | apply Kd.V_drew)); exact Kd.V_mono (Kd.V_far (p := ⟨gb303, 2, none⟩) (Kd.V_far (p := ⟨gb303, 1, none⟩) (Kd.V_far (p := ⟨gb303, 0, none⟩) (Kd.V_mono HO0_6.out (fun k_ hk => (⟨hk, hk.2⟩ : _ ∧ k_ ≠ gb303))) (fun _ hk => hk.2) (.int .i64 t297)) (fun _ hk => hk.2) (.int .i64 t298)) (fun _ hk => hk.2) (.slice Ao57 t299.length co57)) (fun _ hk => ⟨hk.1.1.1.1.1.1.1, ⟨hk.1.1.1.1.1.1.2.1, ⟨hk.1.1.1.1.1.1.2.2, ⟨hk.1.1.2, ⟨hk.1.1.1.1.1.2, ⟨hk.1.1.1.1.2, ⟨hk.1.1.1.2, hk.1.2⟩⟩⟩⟩⟩⟩⟩)))⟩; have n3_ : Aside0 (Kd.R (Kd.int .i64) 3 w58 w0.heap.size (fun k_ => ((P0_2_ k_ ∨ P0_5_ k_) ∨ w.heap.size ≤ k_) ∧ some k_ ≠ (.slice Ao43 l0_2.length co43 : Value).ownBlock ∧ some k_ ≠ (.slice Ao44 l0_5.length co44 : Value).ownBlock ∧ k_ ≠ gb272) (.slice Ao57 t299.length co57) t299) := ⟨(by rw [hw]; exact (by (with_reducible repeat (first | apply z8i | apply z9i | apply y1i)); exact x6i (x1i (p := ⟨gb303, 2, none⟩) (x1i (p := ⟨gb303, 1, none⟩) (x1i (p := ⟨gb303, 0, none⟩) (x7i HO301.out BK303.out (by decide)) (fun _ hk => hk.2) (.int .i64 t297)) (fun _ hk => hk.2) (.int .i64 t298)) (fun _ hk => hk.2) (.slice Ao57 t299.length co57)) (fun _ hk => ⟨hk.1.1.1.1.1, ⟨hk.1.1.1.2, ⟨hk.1.1.2, hk.1.2⟩⟩⟩)))⟩; have n4_ : Aside0 (w58.heap[gb270]? = some (.cells #[.int .i64 a0_0, .int .i64 a0_1, .slice Ao43 l0_2.length co43, .int .i64 a0_3, .int .i64 a0_4, .slice Ao44 l0_5.length co44, .slice A0_6 l0_6.length c0_6] 55 (0, 0))) := ⟨(by rw [hw]; exact (by (with_reducible repeat (first | refine z1i ?_ _ | refine z3i ?_ | refine z2i ?_ _)); refine Ext.obj_far ?_ NB270_303.out _; (with_reducible repeat (first | refine z1i ?_ _ | refine z3i ?_ | refine z2i ?_ _)); refine Ext.obj_far ?_ NB270_303.out _; (with_reducible repeat (first | refine z1i ?_ _ | refine z3i ?_ | refine z2i ?_ _)); refine Ext.obj_far ?_ NB270_303.out _; (with_reducible repeat (first | refine z1i ?_ _ | refine z3i ?_ | refine z2i ?_ _)); exact BK270.out))⟩; have n5_ : Aside0 (w58.heap[gb271]? = some (.cells #[.int .i64 0, .int .i64 0, .slice none 0 0, .int .i64 0, .int .i64 0, .slice none 0 0, .slice none 0 0] 55 (0, 0))) := ⟨(by rw [hw]; exact (by (with_reducible repeat (first | refine z1i ?_ _ | refine z3i ?_ | refine z2i ?_ _)); refine Ext.obj_far ?_ NB271_303.out _; (with_reducible repeat (first | refine z1i ?_ _ | refine z3i ?_ | refine z2i ?_ _)); refine Ext.obj_far ?_ NB271_303.out _; (with_reducible repeat (first | refine z1i ?_ _ | refine z3i ?_ | refine z2i ?_ _)); refine Ext.obj_far ?_ NB271_303.out _; (with_reducible repeat (first | refine z1i ?_ _ | refine z3i ?_ | refine z2i ?_ _)); exact BK271.out))⟩; have n6_ : Aside0 (w58.heap[gb272]? = some (ow_)) := ⟨(by rw [hw]; exact (by (with_reducible repeat (first | refine z1i ?_ _ | refine z3i ?_ | refine z2i ?_ _)); refine Ext.obj_far ?_ NB272_303.out _; (with_reducible repeat (first | refine z1i ?_ _ | refine z3i ?_ | refine z2i ?_ _)); refine Ext.obj_far ?_ NB272_303.out _; (with_reducible repeat (first | refine z1i ?_ _ | refine z3i ?_ | refine z2i ?_ _)); refine Ext.obj_far ?_ NB272_303.out _; (with_reducible repeat (first | refine z1i ?_ _ | refine z3i ?_ | refine z2i ?_ _)); exact BK272.out))⟩; have n7_ : Aside0 (w58.heap[gb303]? = some (.cells #[.int .i64 t297, .int .i64 t298, .slice Ao57 t299.length co57] 31 (0, 0))) := ⟨(by rw [hw]; exact (by (with_reducible repeat (first | refine z1i ?_ _ | refine z3i ?_ | refine z2i ?_ _)); refine blk_put (cs := #[.int .i64 t297, .int .i64 t298, .slice none 0 0]) ?_ 2 _ rfl; (with_reducible repeat (first | refine z1i ?_ _ | refine z3i ?_ | refine z2i ?_ _)); refine blk_put (cs := #[.int .i64 t297, .int .i64 0, .slice none 0 0]) ?_ 1 _ rfl; (with_reducible repeat (first | refine z1i ?_ _ | refine z3i ?_ | refine z2i ?_ _)); refine blk_put (cs := #[.int .i64 0, .int .i64 0, .slice none 0 0]) ?_ 0 _ rfl; (with_reducible repeat (first | refine z1i ?_ _ | refine z3i ?_ | refine z2i ?_ _)); exact BK303.out))⟩; have n8_ : Aside0 (Kept w w58 (fun k_ => P0_2_ k_ ∨ P0_5_ k_)) := ⟨(by rw [hw]; exact (by repeat (first | (with_reducible first | exact HK.out | apply Kept.alloc | apply Kept.drewN | apply Kept.drew | refine Kept.setCell ?_ (.inr GW270.out) _ | refine Kept.setCell ?_ (.inr GW271.out) _ | refine Kept.setCell ?_ (.inr GW272.out) _ | refine Kept.setCell ?_ (.inr GW303.out) _) | exact HK.out)))⟩; have n9_ : Aside0 (Below w0.heap.size w0 w58) := ⟨(by rw [hw]; exact (dV HB.out))⟩; clear hw; clear HO0_2; clear HO0_5; clear HO0_6; clear HO301; clear BK270; clear BK271; clear BK272; clear BK303; clear HK; clear HB; have HO0_2 := n0_; have HO0_5 := n1_; have HO0_6 := n2_; have HO301 := n3_; have BK270 := n4_; have BK271 := n5_; have BK272 := n6_; have BK303 := n7_; have HK := n8_; have HB := n9_; clear n0_ n1_ n2_ n3_ n4_ n5_ n6_ n7_ n8_ n9_; have hnb59 := NB270_271.out; have hnc59 := NB271_270.out; have hcz60_0 : w58.cell? ⟨gb270, 0, none⟩ = some (.int .i64 a0_0) := (x3i BK270.out 0).trans rfl; have hcz60_1 : w58.cell? ⟨gb270, 1, none⟩ = some (.int .i64 a0_1) := (x3i BK270.out 1).trans rfl; have hcz60_2 : w58.cell? ⟨gb270, 2, none⟩ = some (.slice Ao43 l0_2.length co43) := (x3i BK270.out 2).trans rfl; have hcz60_3 : w58.cell? ⟨gb270, 3, none⟩ = some (.int .i64 a0_3) := (x3i BK270.out 3).trans rfl; have hcz60_4 : w58.cell? ⟨gb270, 4, none⟩ = some (.int .i64 a0_4) := (x3i BK270.out 4).trans rfl; have hcz60_5 : w58.cell? ⟨gb270, 5, none⟩ = some (.slice Ao44 l0_5.length co44) := (x3i BK270.out 5).trans rfl; have hcz60_6 : w58.cell? ⟨gb270, 6, none⟩ = some (.slice A0_6 l0_6.length c0_6) := (x3i BK270.out 6).trans rfl; have hfz60_0 := x2i BK270.out 0; have hfz60_1 := x2i BK270.out 1; have hfz60_2 := x2i BK270.out 2; have hfz60_3 := x2i BK270.out 3; have hfz60_4 := x2i BK270.out 4; have hfz60_5 := x2i BK270.out 5; have hfz60_6 := x2i BK270.out 6; have hcz61_0 : w58.cell? ⟨gb303, 0, none⟩ = some (.int .i64 t297) := (x3i BK303.out 0).trans rfl; have hcz61_1 : w58.cell? ⟨gb303, 1, none⟩ = some (.int .i64 t298) := (x3i BK303.out 1).trans rfl; have hcz61_2 : w58.cell? ⟨gb303, 2, none⟩ = some (.slice Ao57 t299.length co57) := (x3i BK303.out 2).trans rfl; have hfz61_0 := x2i BK303.out 0; have hfz61_1 := x2i BK303.out 1; have hfz61_2 := x2i BK303.out 2) | ((with_reducible refine gate_callee (f := 60) rfl ?_); refine goesL_ (some 85) rfl rfl Tryz.func60 (by kernel_rfl) rfl #[.agg #[.int .i64 a0_0, .int .i64 a0_1, .slice Ao43 l0_2.length co43, .int .i64 a0_3, .int .i64 a0_4, .slice Ao44 l0_5.length co44, .slice A0_6 l0_6.length c0_6], .agg #[.int .i64 t297, .int .i64 t298, .slice Ao57 t299.length co57], .bool t302] rfl (by (try simp only [List.map_toArray, List.map_cons, List.map_nil]); first | done | rfl | (simp only [List.length_drop, List.length_take]; rfl)) ?_; (with_reducible refine (impl_Desk_screened.calls a0_0 a0_1 (fun k_ => some k_ = (.slice Ao43 l0_2.length co43 : Value).ownBlock) (.slice Ao43 l0_2.length co43) l0_2 a0_3 a0_4 _ _ l0_5 (fun k_ => (((P0_2_ k_ ∨ P0_5_ k_ ∨ P0_6_ k_) ∨ w.heap.size ≤ k_) ∧ (some k_ ≠ (.slice Ao43 l0_2.length co43 : Value).ownBlock ∧ (some k_ ≠ (.slice Ao44 l0_5.length co44 : Value).ownBlock ∧ (some k_ ≠ (.slice Ao57 t299.length co57 : Value).ownBlock ∧ (k_ ≠ gb270 ∧ (k_ ≠ gb271 ∧ (k_ ≠ gb272 ∧ k_ ≠ gb303)))))))) _ _ l0_6 t297 t298 (fun k_ => some k_ = (.slice Ao57 t299.length co57 : Value).ownBlock) (.slice Ao57 t299.length co57) t299 t302 t304 t305 t306 t309 t310 t311 t314 t317 w0 _ ?side1 ?side2 ?side3 ?side4 ?side5 ?side6 ?side7 ?side8 A42.out).mono ?_); (case side1 => repeat (first | (with_reducible first | exact HB.out | apply below_alloc | apply pw_below_drewN | apply below_drew1 | refine below_set ?_ GE270.out | refine below_set ?_ GE271.out | refine below_set ?_ GE272.out | refine below_set ?_ GE303.out) | exact HB.out)); (case side2 => exact Kd.R_tight rfl HO0_2.out); (case side3 => exact fun k_ e_ => (HO0_2.out.1 k_ e_.symm).2.2.1); (case side4 => exact Kd.C_kept_own (HO0_5.out) (fun k_ hk_ hs_ => Or.elim hs_ (fun e_ => (hk_.2.1) e_) (fun e_ => (hk_.2.2.1) e_))); (case side5 => exact (Kd.R_reads' HO0_5.out).2.1); (case side6 => exact Kd.V_mono (HO0_6.out) (fun k_ hk_ => ⟨hk_, hk_.2.1, hk_.2.2.2.1⟩)); (case side7 => exact Kd.R_tight rfl HO301.out); (case side8 => exact fun k_ e_ => (HO301.out.1 k_ e_.symm).2.1); rintro e w62 ⟨v307, v312, v315, rfl, ho0, ho1, ho2, hb, hkp⟩; refine ⟨_, rfl, ?_⟩; have n_ := a11 (x6i (ok' := fun k_ => ((P0_2_ k_ ∨ P0_5_ k_) ∨ w.heap.size ≤ k_) ∧ k_ ≠ gb272 ∧ some k_ ≠ (v307 : Value).ownBlock ∧ some k_ ≠ (v312 : Value).ownBlock) (Kd.R_keptB (HO0_5.out) hkp (fun k_ hk_ hs_ => Or.elim hs_ (fun e_ => (hk_.2.1) e_) (fun e_ => (hk_.2.2.1) e_))) (fun k_ hk_ => ⟨hk_.1.1, hk_.1.2.2.2, fun e_ => Or.elim (ho0.1 k_ e_.symm).1 (fun hs_ => hk_.2.1 hs_) (fun hn_ => Nat.not_le.2 hk_.2.2 hn_), fun e_ => Or.elim (ho1.1 k_ e_.symm).1 (fun hs_ => hk_.2.1 hs_) (fun hn_ => Nat.not_le.2 hk_.2.2 hn_)⟩)) (Kd.V_mono (ok' := fun k_ => ((P0_2_ k_ ∨ P0_5_ k_ ∨ P0_6_ k_) ∨ w.heap.size ≤ k_) ∧ some k_ ≠ (.slice Ao44 l0_5.length co44 : Value).ownBlock ∧ k_ ≠ gb270 ∧ k_ ≠ gb271 ∧ k_ ≠ gb272 ∧ k_ ≠ gb303 ∧ some k_ ≠ (v307 : Value).ownBlock ∧ some k_ ≠ (v312 : Value).ownBlock) (Kd.V_keptB (HO0_6.out) hkp (fun k_ hk_ hs_ => Or.elim hs_ (fun e_ => (hk_.2.1) e_) (fun e_ => (hk_.2.2.2.1) e_))) (fun k_ hk_ => ⟨hk_.1.1, hk_.1.2.2.1, hk_.1.2.2.2.2.1, hk_.1.2.2.2.2.2.1, hk_.1.2.2.2.2.2.2.1, hk_.1.2.2.2.2.2.2.2, fun e_ => Or.elim (ho0.1 k_ e_.symm).1 (fun hs_ => hk_.2.1 hs_) (fun hn_ => Nat.not_le.2 hk_.2.2 hn_), fun e_ => Or.elim (ho1.1 k_ e_.symm).1 (fun hs_ => hk_.2.1 hs_) (fun hn_ => Nat.not_le.2 hk_.2.2 hn_)⟩)) (blk_kept (bV BK270.out) hkp (fun hs_ => Or.elim hs_ (fun e_ => (fun e_ => (x9i HO0_2.out BK270.out (by decide)) e_) e_) (fun e_ => (fun e_ => (x9i HO301.out BK270.out (by decide)) e_) e_))) (blk_kept (bV BK271.out) hkp (fun hs_ => Or.elim hs_ (fun e_ => (fun e_ => (x9i HO0_2.out BK271.out (by decide)) e_) e_) (fun e_ => (fun e_ => (x9i HO301.out BK271.out (by decide)) e_) e_))) (blk_kept (bV BK272.out) hkp (fun hs_ => Or.elim hs_ (fun e_ => (fun e_ => (Kd.R_away HO0_2.out (fun _ hk => hk.2.2.2)) e_) e_) (fun e_ => (fun e_ => (Kd.R_away HO301.out (fun _ hk => hk.2.2.2)) e_) e_))) (blk_kept (bV BK303.out) hkp (fun hs_ => Or.elim hs_ (fun e_ => (fun e_ => (x9i HO0_2.out BK303.out (by decide)) e_) e_) (fun e_ => (fun e_ => (x9i HO301.out BK303.out (by decide)) e_) e_))) (x6i (ok' := fun k_ => ((P0_2_ k_ ∨ P0_5_ k_) ∨ w.heap.size ≤ k_) ∧ some k_ ≠ (v312 : Value).ownBlock ∧ some k_ ≠ (.slice Ao44 l0_5.length co44 : Value).ownBlock ∧ k_ ≠ gb272) ho0 (fun k_ hk_ => ⟨Or.elim hk_.1 (fun hs_ => Or.elim hs_ (fun hs_ => (HO0_2.out.1 k_ (hs_).symm).1) (fun hs_ => (HO301.out.1 k_ (hs_).symm).1)) (fun hn_ => (.inr (Nat.le_trans (by first | exact HK.out.1 | exact (show Kept w _ (fun k_ => P0_2_ k_ ∨ P0_5_ k_) from by repeat (first | (with_reducible first | exact HK.out | apply Kept.alloc | apply Kept.drewN | apply Kept.drew | refine Kept.setCell ?_ (.inr GW270.out) _ | refine Kept.setCell ?_ (.inr GW271.out) _ | refine Kept.setCell ?_ (.inr GW272.out) _ | refine Kept.setCell ?_ (.inr GW303.out) _) | exact HK.out)).1) hn_))), hk_.2, Or.elim hk_.1 (fun hs_ => Or.elim hs_ (fun hs_ => fun e_ => (((HO0_5.out).1 k_ e_.symm).2.1) hs_) (fun hs_ => fun e_ => (((HO0_5.out).1 k_ e_.symm).2.2.1) hs_)) (fun hn_ => (Kd.fresh' (Kd.R_lt (rV HO0_5.out)) k_ hn_)), Or.elim hk_.1 (fun hs_ => Or.elim hs_ (fun hs_ => fun e_ => (Kd.R_away HO0_2.out (fun _ hk => hk.2.2.2)) (by rw [← e_]; exact hs_)) (fun hs_ => fun e_ => (Kd.R_away HO301.out (fun _ hk => hk.2.2.2)) (by rw [← e_]; exact hs_))) (fun hn_ => (Kd.freshB (g := gb272) (o := ow_) (bV BK272.out) k_ hn_))⟩)) (x6i (ok' := fun k_ => ((P0_2_ k_ ∨ P0_5_ k_) ∨ w.heap.size ≤ k_) ∧ some k_ ≠ (v307 : Value).ownBlock ∧ some k_ ≠ (.slice Ao44 l0_5.length co44 : Value).ownBlock ∧ k_ ≠ gb272) ho1 (fun k_ hk_ => ⟨Or.elim hk_.1 (fun hs_ => Or.elim hs_ (fun hs_ => (HO0_2.out.1 k_ (hs_).symm).1) (fun hs_ => (HO301.out.1 k_ (hs_).symm).1)) (fun hn_ => (.inr (Nat.le_trans (by first | exact HK.out.1 | exact (show Kept w _ (fun k_ => P0_2_ k_ ∨ P0_5_ k_) from by repeat (first | (with_reducible first | exact HK.out | apply Kept.alloc | apply Kept.drewN | apply Kept.drew | refine Kept.setCell ?_ (.inr GW270.out) _ | refine Kept.setCell ?_ (.inr GW271.out) _ | refine Kept.setCell ?_ (.inr GW272.out) _ | refine Kept.setCell ?_ (.inr GW303.out) _) | exact HK.out)).1) hn_))), hk_.2, Or.elim hk_.1 (fun hs_ => Or.elim hs_ (fun hs_ => fun e_ => (((HO0_5.out).1 k_ e_.symm).2.1) hs_) (fun hs_ => fun e_ => (((HO0_5.out).1 k_ e_.symm).2.2.1) hs_)) (fun hn_ => (Kd.fresh' (Kd.R_lt (rV HO0_5.out)) k_ hn_)), Or.elim hk_.1 (fun hs_ => Or.elim hs_ (fun hs_ => fun e_ => (Kd.R_away HO0_2.out (fun _ hk => hk.2.2.2)) (by rw [← e_]; exact hs_)) (fun hs_ => fun e_ => (Kd.R_away HO301.out (fun _ hk => hk.2.2.2)) (by rw [← e_]; exact hs_))) (fun hn_ => (Kd.freshB (g := gb272) (o := ow_) (bV BK272.out) k_ hn_))⟩)) (Kd.V_mono (ok' := fun k_ => ((P0_2_ k_ ∨ P0_5_ k_ ∨ P0_6_ k_) ∨ w.heap.size ≤ k_) ∧ some k_ ≠ (v307 : Value).ownBlock ∧ some k_ ≠ (v312 : Value).ownBlock ∧ some k_ ≠ (.slice Ao44 l0_5.length co44 : Value).ownBlock ∧ k_ ≠ gb270 ∧ k_ ≠ gb271 ∧ k_ ≠ gb272 ∧ k_ ≠ gb303) ho2 (fun k_ hk_ => ⟨Or.elim hk_.1 (fun hs_ => Or.elim hs_ (fun hs_ => (Or.imp_left (fun h_ => (Or.elim h_ (fun z_ => .inl z_) (fun z_ => .inr (.inl z_)))) ((HO0_2.out.1 k_ (hs_).symm).1))) (fun hs_ => Or.elim hs_ (fun hs_ => (Or.imp_left (fun h_ => (Or.elim h_ (fun z_ => .inl z_) (fun z_ => .inr (.inl z_)))) ((HO301.out.1 k_ (hs_).symm).1))) (fun hs_ => hs_.1))) (fun hn_ => (.inr (Nat.le_trans (by first | exact HK.out.1 | exact (show Kept w _ (fun k_ => P0_2_ k_ ∨ P0_5_ k_) from by repeat (first | (with_reducible first | exact HK.out | apply Kept.alloc | apply Kept.drewN | apply Kept.drew | refine Kept.setCell ?_ (.inr GW270.out) _ | refine Kept.setCell ?_ (.inr GW271.out) _ | refine Kept.setCell ?_ (.inr GW272.out) _ | refine Kept.setCell ?_ (.inr GW303.out) _) | exact HK.out)).1) hn_))), hk_.2.1, hk_.2.2, Or.elim hk_.1 (fun hs_ => Or.elim hs_ (fun hs_ => fun e_ => (((HO0_5.out).1 k_ e_.symm).2.1) hs_) (fun hs_ => Or.elim hs_ (fun hs_ => fun e_ => (((HO0_5.out).1 k_ e_.symm).2.2.1) hs_) (fun hs_ => hs_.2.2.1))) (fun hn_ => (Kd.fresh' (Kd.R_lt (rV HO0_5.out)) k_ hn_)), Or.elim hk_.1 (fun hs_ => Or.elim hs_ (fun hs_ => fun e_ => (x9i HO0_2.out BK270.out (by decide)) (by rw [← e_]; exact hs_)) (fun hs_ => Or.elim hs_ (fun hs_ => fun e_ => (x9i HO301.out BK270.out (by decide)) (by rw [← e_]; exact hs_)) (fun hs_ => hs_.2.2.2.2.1))) (fun hn_ => (Kd.freshB (bV BK270.out) k_ hn_)), Or.elim hk_.1 (fun hs_ => Or.elim hs_ (fun hs_ => fun e_ => (x9i HO0_2.out BK271.out (by decide)) (by rw [← e_]; exact hs_)) (fun hs_ => Or.elim hs_ (fun hs_ => fun e_ => (x9i HO301.out BK271.out (by decide)) (by rw [← e_]; exact hs_)) (fun hs_ => hs_.2.2.2.2.2.1))) (fun hn_ => (Kd.freshB (bV BK271.out) k_ hn_)), Or.elim hk_.1 (fun hs_ => Or.elim hs_ (fun hs_ => fun e_ => (Kd.R_away HO0_2.out (fun _ hk => hk.2.2.2)) (by rw [← e_]; exact hs_)) (fun hs_ => Or.elim hs_ (fun hs_ => fun e_ => (Kd.R_away HO301.out (fun _ hk => hk.2.2.2)) (by rw [← e_]; exact hs_)) (fun hs_ => hs_.2.2.2.2.2.2.1))) (fun hn_ => (Kd.freshB (g := gb272) (o := ow_) (bV BK272.out) k_ hn_)), Or.elim hk_.1 (fun hs_ => Or.elim hs_ (fun hs_ => fun e_ => (x9i HO0_2.out BK303.out (by decide)) (by rw [← e_]; exact hs_)) (fun hs_ => Or.elim hs_ (fun hs_ => fun e_ => (x9i HO301.out BK303.out (by decide)) (by rw [← e_]; exact hs_)) (fun hs_ => hs_.2.2.2.2.2.2.2))) (fun hn_ => (Kd.freshB (bV BK303.out) k_ hn_))⟩)) (Kept.then_ (S := (fun k_ => P0_2_ k_ ∨ P0_5_ k_)) (by repeat (first | (with_reducible first | exact HK.out | apply Kept.alloc | apply Kept.drewN | apply Kept.drew | refine Kept.setCell ?_ (.inr GW270.out) _ | refine Kept.setCell ?_ (.inr GW271.out) _ | refine Kept.setCell ?_ (.inr GW272.out) _ | refine Kept.setCell ?_ (.inr GW303.out) _) | exact HK.out)) hkp (fun k_ hs_ => Or.elim hs_ (fun e_ => (fun e_ => (HO0_2.out.1 k_ e_.symm).1) e_) (fun e_ => (fun e_ => (HO301.out.1 k_ e_.symm).1) e_))) (hb); clear HO0_5 HO0_6 BK270 BK271 BK272 BK303 HK HB HO0_2 HO301; obtain ⟨HO0_5, HO0_6, BK270, BK271, BK272, BK303, HO308, HO313, HO316, HK, HB⟩ := n_; (try clear hb); (try clear hkp); (try clear ho0); (try clear ho1); (try clear ho2); have hcz63_0 : w62.cell? ⟨gb271, 0, none⟩ = some (.int .i64 0) := (x3i BK271.out 0).trans rfl; have hcz63_1 : w62.cell? ⟨gb271, 1, none⟩ = some (.int .i64 0) := (x3i BK271.out 1).trans rfl; have hcz63_2 : w62.cell? ⟨gb271, 2, none⟩ = some (.slice none 0 0) := (x3i BK271.out 2).trans rfl; have hcz63_3 : w62.cell? ⟨gb271, 3, none⟩ = some (.int .i64 0) := (x3i BK271.out 3).trans rfl; have hcz63_4 : w62.cell? ⟨gb271, 4, none⟩ = some (.int .i64 0) := (x3i BK271.out 4).trans rfl; have hcz63_5 : w62.cell? ⟨gb271, 5, none⟩ = some (.slice none 0 0) := (x3i BK271.out 5).trans rfl; have hcz63_6 : w62.cell? ⟨gb271, 6, none⟩ = some (.slice none 0 0) := (x3i BK271.out 6).trans rfl; have hfz63_0 := x2i BK271.out 0; have hfz63_1 := x2i BK271.out 1; have hfz63_2 := x2i BK271.out 2; have hfz63_3 := x2i BK271.out 3; have hfz63_4 := x2i BK271.out 4; have hfz63_5 := x2i BK271.out 5; have hfz63_6 := x2i BK271.out 6; obtain ⟨Ao64, co64, eo64⟩ := Kd.R_slice HO308.out; subst eo64; obtain ⟨Ao65, co65, eo65⟩ := Kd.R_slice HO313.out; subst eo65; obtain ⟨Ao66, co66, eo66⟩ := Kd.V_slice HO316.out; subst eo66))
      refine bodyPost_ret (results_ct rfl _ _ gb271 55 #[.int .i64 t304, .int .i64 t305, .slice Ao64 t306.length co64, .int .i64 t309, .int .i64 t310, .slice Ao65 t311.length co65, .slice Ao66 t314.length co66] (0, 0) _ rfl (by (with_reducible repeat (first | refine z1i ?_ _ | refine z3i ?_ | refine z2i ?_ _)); refine blk_put (cs := #[.int .i64 t304, .int .i64 t305, .slice Ao64 t306.length co64, .int .i64 t309, .int .i64 t310, .slice Ao65 t311.length co65, .slice none 0 0]) ?_ 6 _ rfl; (with_reducible repeat (first | refine z1i ?_ _ | refine z3i ?_ | refine z2i ?_ _)); refine blk_put (cs := #[.int .i64 t304, .int .i64 t305, .slice Ao64 t306.length co64, .int .i64 t309, .int .i64 t310, .slice none 0 0, .slice none 0 0]) ?_ 5 _ rfl; (with_reducible repeat (first | refine z1i ?_ _ | refine z3i ?_ | refine z2i ?_ _)); refine blk_put (cs := #[.int .i64 t304, .int .i64 t305, .slice Ao64 t306.length co64, .int .i64 t309, .int .i64 0, .slice none 0 0, .slice none 0 0]) ?_ 4 _ rfl; (with_reducible repeat (first | refine z1i ?_ _ | refine z3i ?_ | refine z2i ?_ _)); refine blk_put (cs := #[.int .i64 t304, .int .i64 t305, .slice Ao64 t306.length co64, .int .i64 0, .int .i64 0, .slice none 0 0, .slice none 0 0]) ?_ 3 _ rfl; (with_reducible repeat (first | refine z1i ?_ _ | refine z3i ?_ | refine z2i ?_ _)); refine blk_put (cs := #[.int .i64 t304, .int .i64 t305, .slice none 0 0, .int .i64 0, .int .i64 0, .slice none 0 0, .slice none 0 0]) ?_ 2 _ rfl; (with_reducible repeat (first | refine z1i ?_ _ | refine z3i ?_ | refine z2i ?_ _)); refine blk_put (cs := #[.int .i64 t304, .int .i64 0, .slice none 0 0, .int .i64 0, .int .i64 0, .slice none 0 0, .slice none 0 0]) ?_ 1 _ rfl; (with_reducible repeat (first | refine z1i ?_ _ | refine z3i ?_ | refine z2i ?_ _)); refine blk_put (cs := #[.int .i64 0, .int .i64 0, .slice none 0 0, .int .i64 0, .int .i64 0, .slice none 0 0, .slice none 0 0]) ?_ 0 _ rfl; (with_reducible repeat (first | refine z1i ?_ _ | refine z3i ?_ | refine z2i ?_ _)); exact BK271.out) Tryz.underlying55 rfl (by kernel_rfl)) rfl ?_
      exact ⟨_, _, _, by first | rfl | (simp [errW_none, errW_some] <;> rfl) | (simp [*, errW_none, errW_some] <;> rfl), by (with_reducible repeat (first | apply z8i | apply z9i | apply y1i)); exact x6i (x1i (p := ⟨gb271, 6, none⟩) (x1i (p := ⟨gb271, 5, none⟩) (x1i (p := ⟨gb271, 4, none⟩) (x1i (p := ⟨gb271, 3, none⟩) (x1i (p := ⟨gb271, 2, none⟩) (x1i (p := ⟨gb271, 1, none⟩) (x1i (p := ⟨gb271, 0, none⟩) (x7i HO308.out BK271.out (by decide)) (fun _ hk => hk.2) (.int .i64 t304)) (fun _ hk => hk.2) (.int .i64 t305)) (fun _ hk => hk.2) (.slice Ao64 t306.length co64)) (fun _ hk => hk.2) (.int .i64 t309)) (fun _ hk => hk.2) (.int .i64 t310)) (fun _ hk => hk.2) (.slice Ao65 t311.length co65)) (fun _ hk => hk.2) (.slice Ao66 t314.length co66)) (fun _ hk => ⟨hk.1.1, hk.1.2.1⟩), by (with_reducible repeat (first | apply z8i | apply z9i | apply y1i)); exact x6i (x1i (p := ⟨gb271, 6, none⟩) (x1i (p := ⟨gb271, 5, none⟩) (x1i (p := ⟨gb271, 4, none⟩) (x1i (p := ⟨gb271, 3, none⟩) (x1i (p := ⟨gb271, 2, none⟩) (x1i (p := ⟨gb271, 1, none⟩) (x1i (p := ⟨gb271, 0, none⟩) (x7i HO313.out BK271.out (by decide)) (fun _ hk => hk.2) (.int .i64 t304)) (fun _ hk => hk.2) (.int .i64 t305)) (fun _ hk => hk.2) (.slice Ao64 t306.length co64)) (fun _ hk => hk.2) (.int .i64 t309)) (fun _ hk => hk.2) (.int .i64 t310)) (fun _ hk => hk.2) (.slice Ao65 t311.length co65)) (fun _ hk => hk.2) (.slice Ao66 t314.length co66)) (fun _ hk => ⟨hk.1.1, hk.1.2.1⟩), by (with_reducible repeat (first | apply Kd.V_alloc | apply Kd.V_drewN | apply Kd.V_drew)); exact Kd.V_mono (Kd.V_far (p := ⟨gb271, 6, none⟩) (Kd.V_far (p := ⟨gb271, 5, none⟩) (Kd.V_far (p := ⟨gb271, 4, none⟩) (Kd.V_far (p := ⟨gb271, 3, none⟩) (Kd.V_far (p := ⟨gb271, 2, none⟩) (Kd.V_far (p := ⟨gb271, 1, none⟩) (Kd.V_far (p := ⟨gb271, 0, none⟩) (Kd.V_mono HO316.out (fun k_ hk => (⟨hk, hk.2.2.2.2.2.1⟩ : _ ∧ k_ ≠ gb271))) (fun _ hk => hk.2) (.int .i64 t304)) (fun _ hk => hk.2) (.int .i64 t305)) (fun _ hk => hk.2) (.slice Ao64 t306.length co64)) (fun _ hk => hk.2) (.int .i64 t309)) (fun _ hk => hk.2) (.int .i64 t310)) (fun _ hk => hk.2) (.slice Ao65 t311.length co65)) (fun _ hk => hk.2) (.slice Ao66 t314.length co66)) (fun _ hk => ⟨hk.1.1, ⟨hk.1.2.1, hk.1.2.2.1⟩⟩), dV HB.out, by repeat (first | (with_reducible first | exact HK.out | apply Kept.alloc | apply Kept.drewN | apply Kept.drew | refine Kept.setCell ?_ (.inr GW270.out) _ | refine Kept.setCell ?_ (.inr GW271.out) _ | refine Kept.setCell ?_ (.inr GW272.out) _ | refine Kept.setCell ?_ (.inr GW303.out) _) | exact HK.out)⟩
     ·rw [if_neg c40] at H
      exact absurd H (by simp)
    ·rw [if_neg c39] at H
     have c39b0 : (a1.toList == ([98, 97, 121, 101, 114] : List UInt8)) = false := beq_eq_false_iff_ne.mpr c39
     have c39b1 : (a1.toList != ([98, 97, 121, 101, 114] : List UInt8)) = true := bne_iff_ne.mpr c39
     by_cases c67 : a1.toList = ([115, 112, 105, 114, 97, 108] : List UInt8)
     ·rw [if_pos c67] at H
      exact absurd H (by simp)
     ·rw [if_neg c67] at H
      have c67b0 : (a1.toList == ([115, 112, 105, 114, 97, 108] : List UInt8)) = false := beq_eq_false_iff_ne.mpr c67
      have c67b1 : (a1.toList != ([115, 112, 105, 114, 97, 108] : List UInt8)) = true := bne_iff_ne.mpr c67
      by_cases c68 : a1.toList = ([115, 112, 111, 116] : List UInt8)
      ·rw [if_pos c68] at H
       exact absurd H (by simp)
      ·rw [if_neg c68] at H
       have c68b0 : (a1.toList == ([115, 112, 111, 116] : List UInt8)) = false := beq_eq_false_iff_ne.mpr c68
       have c68b1 : (a1.toList != ([115, 112, 111, 116] : List UInt8)) = true := bne_iff_ne.mpr c68
       by_cases c69 : a1.toList = ([115, 104, 105, 102, 116] : List UInt8)
       ·rw [if_pos c69] at H
        exact absurd H (by simp)
       ·rw [if_neg c69] at H
        have c69b0 : (a1.toList == ([115, 104, 105, 102, 116] : List UInt8)) = false := beq_eq_false_iff_ne.mpr c69
        have c69b1 : (a1.toList != ([115, 104, 105, 102, 116] : List UInt8)) = true := bne_iff_ne.mpr c69
        by_cases c70 : a1.toList = ([114, 97, 110, 107] : List UInt8)
        ·rw [if_pos c70] at H
         exact absurd H (by simp)
        ·rw [if_neg c70] at H
         have c70b0 : (a1.toList == ([114, 97, 110, 107] : List UInt8)) = false := beq_eq_false_iff_ne.mpr c70
         have c70b1 : (a1.toList != ([114, 97, 110, 107] : List UInt8)) = true := bne_iff_ne.mpr c70
         by_cases c71 : 0 < (l2.length : Int)
         ·rw [if_pos c71] at H
          exact absurd H (by simp)
         ·rw [if_neg c71] at H
          exact absurd H (by simp)
 ·rw [if_neg c4] at H
  exact absurd H (by simp)

def strings_ReplaceAll.f (a0 : ByteArray) (a1 : ByteArray) (a2 : ByteArray) : Option (ByteArray) := Ext.replF a0 a1 a2
theorem strings_ReplaceAll.calls (a0 : ByteArray) (a1 : ByteArray) (a2 : ByteArray) (r : ByteArray) (w : World) (hG_ : Ext.Glob w) (h : strings_ReplaceAll.f a0 a1 a2 = some r) :
  Calls Tryz.prog 98 #[.string a0, .string a1, .string a2] w fun e w' => e = .returned (.string r) ∧ Below w.heap.size w w' := Ext.Repl a0 a1 a2 r w hG_ h

def strings_Join.f (l0 : List ByteArray) (a1 : ByteArray) : Option (ByteArray) := Ext.joinF l0 a1
theorem strings_Join.calls (A0 : Option Addr) (c0 : Nat) (l0 : List ByteArray) (a1 : ByteArray) (r : ByteArray) (w : World) (hr0 : Kd.C Kd.string w A0 l0.length l0) (hc0 : l0.length ≤ c0) (h : strings_Join.f l0 a1 = some r) :
  Calls Tryz.prog 128 #[.slice A0 l0.length c0, .string a1] w fun e w' => e = .returned (.string r) ∧ Below w.heap.size w w' := Ext.Join A0 c0 l0 a1 r w hr0 hc0 h

def impl_listed.l0 : Nat → List ByteArray → List Int → Int → Int → Option (ByteArray)
 | 0, _, _, _, _ => none
 | k + 1, x3, x7, x8, x9 => if x9 < x8 then (if 0 ≤ x9 then (if x9 < (x7.length : Int) then ((strconv_Itoa.f (rd x7 x9)).bind fun t323 => (if x3.length < 8796093022208 then (impl_listed.l0 k (x3 ++ [t323]) x7 x8 (wrap64 (x9 + 1))) else (none))) else (none)) else (none)) else ((strings_Join.f x3 (⟨#[32]⟩ : ByteArray)).bind fun t327 => (some t327))
def impl_listed.f (k : Nat) (l0 : List Int) : Option (ByteArray) := impl_listed.l0 k (([] : List ByteArray)) l0 (l0.length : Int) 0
set_option maxHeartbeats 8000000 in
set_option maxRecDepth 100000 in
theorem impl_listed.calls (k : Nat) (A0 : Option Addr) (c0 : Nat) (l0 : List Int) (r : ByteArray) (w : World) (hr0 : Kd.C (Kd.int .i64) w A0 l0.length l0) (hc0 : l0.length ≤ c0) (hG_ : Ext.Glob w) (h : impl_listed.f k l0 = some r) :
  Calls Tryz.prog 99 #[.slice A0 l0.length c0] w fun e w' => e = .returned (.string r) ∧ Below w.heap.size w w' := by
 have HGB_ := z0i hG_
 clear hG_
 have HR0 := z0i hr0
 have HC0 := z0i hc0
 clear hr0 hc0
 have HB := z0i (Below.refl w.heap.size w)
 have H := h
 unfold impl_listed.f at H
 clear h
 obtain ⟨y319, hy319⟩ : ∃ y_ : List ByteArray, y_ = (([] : List ByteArray)) := ⟨_, rfl⟩
 replace H : (impl_listed.l0 k y319 l0 (l0.length : Int) 0) = some r := by first | (rw [hy319]; with_reducible exact H) | (have H2_ := (Option.bind_some _ _).symm.trans H; rw [hy319]; with_reducible exact H2_) | (have H2_ := (Option.bind_some _ _).symm.trans H; with_reducible exact H2_) | with_reducible exact H | (rw [hy319]; exact H) | exact H
 have Ny319 := z0i hy319
 clear hy319
 have H' := z0i H
 clear H
 go_enter Tryz.func99, Tryz.ntmps99
 go_wp2_with (first | ((with_reducible refine gate_dst (N := 6) rfl ?_); refine Kd.R_lit Kd.string _ 9 ?hg (N := 6) ?hd (xs := ([] : List ByteArray)) (inner := []) (ok := fun _ => True) (okp := fun _ => True) ?hr ?hp (fun _ hk => hk) trivial (Below.refl _ _) (Nat.le_refl _) (by simp) ?_; (case hd => rfl); (case hg => rfl); (case hr => first | (go_simp; done) | (go_simp; rfl)); (case hp => exact (Reps.none _ _)); intro v320 w2 ho3 hb hg_ hnew_; clear hg_ hnew_; (first | rw [← Ny319.out] at ho3 | (simp only [Int.reduceToNat] at ho3; rw [← Ny319.out] at ho3)); have n_ := a2 (Kd.R_lower ho3 (below_size (dV HB.out))) (dU HB.out hb); clear HB; obtain ⟨HO321, HB⟩ := n_; clear hb ho3))
 go_loopg [3, 9] k (fun kq v3 v9 w' => ∃ (x3_1 : List ByteArray) (x9_1 : Int), v9 = .int .i64 x9_1 ∧ Aside0 (impl_listed.l0 kq x3_1 l0 (l0.length : Int) x9_1 = some r) ∧ Aside0 (kq ≤ k) ∧ Aside0 (Kd.R Kd.string 9 w' w.heap.size (fun _ => True) v3 x3_1) ∧ Aside0 (Below w.heap.size w w'))
 case atStart => exact ⟨(y319), (0), (by first | rfl | (simp; done) | (simp [*]; done)), H', ⟨Nat.le_refl _⟩, ⟨by (with_reducible repeat (first | apply z8i | apply z9i | apply y1i)); exact HO321.out⟩, ⟨dV HB.out⟩⟩
 case round =>
  clear H'
  try clear p2
  obtain ⟨x3_1, x9_1, rfl, HA, HK1, HO_3, HB⟩ := hrel
  cases gk with
  | zero => exact absurd HA.out (by simp [impl_listed.l0])
  | succ k1 =>
   have H := HA.out
   clear HA
   simp only [impl_listed.l0] at H
   by_cases c4 : x9_1 < (l0.length : Int)
   ·rw [if_pos c4] at H
    have c4b0 : decide (x9_1 < (l0.length : Int)) = true := decide_eq_true c4
    clear c4
    by_cases c5 : 0 ≤ x9_1
    ·rw [if_pos c5] at H
     have c5b0 : decide (0 ≤ x9_1) = true := decide_eq_true c5
     clear c5
     by_cases c6 : x9_1 < (l0.length : Int)
     ·rw [if_pos c6] at H
      have c6b0 : decide (x9_1 < (l0.length : Int)) = true := decide_eq_true c6
      clear c6
      replace H := Option.bind_eq_some_iff.mp H
      obtain ⟨t323, A70, H⟩ := H
      (try dsimp only at H)
      have A7 := z0i A70
      clear A70
      by_cases c8 : x3_1.length < 8796093022208
      ·rw [if_pos c8] at H
       have LMc8 := z0i c8
       clear c8
       obtain ⟨y324, hy324⟩ : ∃ y_ : List ByteArray, y_ = (x3_1 ++ [t323]) := ⟨_, rfl⟩
       replace H : (impl_listed.l0 k1 y324 l0 (l0.length : Int) (wrap64 (x9_1 + 1))) = some r := by first | (rw [hy324]; with_reducible exact H) | (have H2_ := (Option.bind_some _ _).symm.trans H; rw [hy324]; with_reducible exact H2_) | (have H2_ := (Option.bind_some _ _).symm.trans H; with_reducible exact H2_) | with_reducible exact H | (rw [hy324]; exact H) | exact H
       have Ny324 := z0i hy324
       clear hy324
       have H' := z0i H
       clear H
       have p322 : 0 ≤ (x9_1 : Int) := of_decide_eq_true (by first | (with_reducible assumption) | assumption)
       have q322 : x9_1 < (l0.length : Int) := of_decide_eq_true (by first | (with_reducible assumption) | assumption)
       obtain ⟨ad322, e322, hx322_0⟩ := Kd.at_int HR0.out x9_1 p322 q322
       cases e322
       try replace hx322_0 := (HB.out.cell (World.block_lt_of_cell? w _ hx322_0)).trans hx322_0
       replace p322 := eq_true p322
       replace q322 := eq_true q322
       go_wp2_with (first | ((with_reducible refine gate_callee (f := 57) rfl ?_); refine goesL_ (some 15) rfl rfl Tryz.func57 (by kernel_rfl) rfl #[.int .i64 (rd l0 x9_1)] rfl (by (try simp only [List.map_toArray, List.map_cons, List.map_nil]); first | done | rfl | (simp only [List.length_drop, List.length_take]; rfl)) ?_; (with_reducible refine (strconv_Itoa.calls (rd l0 x9_1) t323 _ ?side1 A7.out).mono ?_); (case side1 => exact Ext.Glob.below HGB_.out (dV HB.out)); rintro e w9 ⟨rfl, hb⟩; refine ⟨_, rfl, ?_⟩; have n_ := a2 (x4i (rV HO_3.out) hb) (dU HB.out hb); clear HO_3 HB; obtain ⟨HO_3, HB⟩ := n_; (try clear hb)) | ((with_reducible refine gate_builtin (b := .append) (xs := #[.tmp 13, .tmp 16]) rfl ?_); at_builtin; refine Kd.R_append Kd.string (w0 := w) w.heap.size rfl (.tmp 13) (.tmp 16) 50 9 (.string ⟨#[]⟩) 16 rfl Tryz.underlying50 info9 rfl (by decide) (by omega) u3 x3_1 t323 [.string t323] (fun _ => True) (fun _ => False) rfl rfl ?aP (fun _ hk => hk.elim) ?aF ?aO ?aB ?aS ?aL ?_; (case aP => exact rfl); (case aB => exact (dV HB.out)); (case aF => exact (fun _ _ => trivial)); (case aO => exact (rV HO_3.out)); (case aS => exact (below_size (dV HB.out))); (case aL => have := LMc8.out; omega); intro v325 w10 ho hb hg hat; rw [← Ny324.out] at ho; have n_ := a2 (hb) (ho); clear HB HO_3; obtain ⟨HB, HO326⟩ := n_; clear ho hb hg hat))
       go_roundg k1
       case measure => have := HK1.out; omega
       case rel => exact ⟨(y324), (wrap64 (x9_1 + 1)), (by first | rfl | (simp; done) | (simp [*]; done)), H', ⟨by have := HK1.out; omega⟩, ⟨by (with_reducible repeat (first | apply z8i | apply z9i | apply y1i)); exact HO326.out⟩, ⟨dV HB.out⟩⟩
      ·rw [if_neg c8] at H
       exact absurd H (by simp)
     ·rw [if_neg c6] at H
      exact absurd H (by simp)
    ·rw [if_neg c5] at H
     exact absurd H (by simp)
   ·rw [if_neg c4] at H
    have c4b0 : decide (x9_1 < (l0.length : Int)) = false := decide_eq_false c4
    clear c4
    replace H := Option.bind_eq_some_iff.mp H
    obtain ⟨t327, A110, H⟩ := H
    (try dsimp only at H)
    have A11 := z0i A110
    clear A110
    obtain rfl := Option.some.inj H
    obtain ⟨Ao12, co12, eo12⟩ := Kd.R_slice HO_3.out
    subst eo12
    go_wp2_with (first | ((with_reducible refine gate_callee (f := 128) rfl ?_); refine goesL_ (some 20) rfl rfl Tryz.func128 (by kernel_rfl) rfl #[.slice Ao12 x3_1.length co12, .string (⟨#[32]⟩ : ByteArray)] rfl (by (try simp only [List.map_toArray, List.map_cons, List.map_nil]); first | done | rfl | (simp only [List.length_drop, List.length_take]; rfl)) ?_; (with_reducible refine (strings_Join.calls _ _ x3_1 (⟨#[32]⟩ : ByteArray) t327 _ ?side1 ?side2 A11.out).mono ?_); (case side1 => repeat (first | exact (Kd.R_reads' HO_3.out).2.2 | (with_reducible refine Kd.C_alloc ?_ _) | (with_reducible refine Kd.C_drewN ?_ _) | (with_reducible refine Kd.C_drew ?_))); (case side2 => exact (Kd.R_reads' HO_3.out).2.1); rintro e w13 ⟨rfl, hb⟩; refine ⟨_, rfl, ?_⟩; have n_ := a2 (x4i (rV HO_3.out) hb) (dU HB.out hb); clear HO_3 HB; obtain ⟨HO_3, HB⟩ := n_; (try clear hb)))
    go_ret
    exact ⟨by first | rfl | (simp [errW_none, errW_some] <;> rfl) | (simp [*, errW_none, errW_some] <;> rfl), dV HB.out⟩

end Go.Proofs.YtkcgnnepgebekaaGreatDoor.PFnDesk
