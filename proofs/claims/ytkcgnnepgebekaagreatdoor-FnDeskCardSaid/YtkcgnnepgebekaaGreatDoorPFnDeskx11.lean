/- Machine side of laws FnDesk: written for this claim by the kit's print program under this session's wip/tools/mp_setup.py (with contracts of the session's own, wip/ext). -/
import Derived.Test.YtkcgnnepgebekaaGreatDoorPFnDeskx0
import Derived.Test.YtkcgnnepgebekaaGreatDoorPFnDeskx4
import Derived.Test.YtkcgnnepgebekaaGreatDoorPFnDeskx5
import Derived.Test.YtkcgnnepgebekaaGreatDoorPFnDeskx7
import Derived.Test.YtkcgnnepgebekaaGreatDoorPFnDeskx8
import Derived.Test.YtkcgnnepgebekaaGreatDoorPFnDeskx10
namespace Go.Proofs.YtkcgnnepgebekaaGreatDoor.PFnDesk
open Go.RowKit Go.Proofs.YtkcgnnepgebekaaGreatDoorW.PrintWords Go.Proofs.YtkcgnnepgebekaaGreatDoorW.PrintLast Go.Proofs.YtkcgnnepgebekaaGreatDoorW.PrintMore
attribute [local go_sem] max2_int min2_int max_two min_two max_three min_three max_four min_four   -- for this text's walks alone
set_option linter.unusedVariables false
set_option linter.unusedSimpArgs false
-- squeezed: words under short names
set_option linter.defProp false in
def z0l := @Aside0.mk
set_option linter.defProp false in
def z1l := @blk_drewN
set_option linter.defProp false in
def z2l := @blk_alloc
set_option linter.defProp false in
def z3l := @blk_drew
set_option linter.defProp false in
def z8l := @Kd.R_alloc
set_option linter.defProp false in
def z9l := @Kd.R_drewN
set_option linter.defProp false in
def y1l := @Kd.R_drew
set_option linter.defProp false in
def y7l := @below_size
set_option linter.defProp false in
def x1l := @Kd.R_far
set_option linter.defProp false in
def x2l := @blk_frozen
set_option linter.defProp false in
def x3l := @blk_cell
set_option linter.defProp false in
def x4l := @Kd.R_below
set_option linter.defProp false in
def x5l := @Kd.R_reads'
set_option linter.defProp false in
def x6l := @Kd.R_mono
set_option linter.defProp false in
def x7l := @Kd.R_types
set_option linter.defProp false in
def x8l := @blk_far
set_option linter.defProp false in
def x9l := @Kd.R_ne
def bsl_ (n m : Nat) : Array Bool := ((List.range n).map fun i => m.testBit i).toArray
theorem s1l_ {α : Type} (l : List α) (i : Nat) (a : α) : l.toArray.setIfInBounds i a = (l.set i a).toArray := List.setIfInBounds_toArray l i a
theorem s2l_ {α : Type} (a b : α) (l : List α) : (a :: l).set 0 b = b :: l := rfl
theorem s3l_ {α : Type} (a b : α) (n : Nat) (l : List α) : (a :: l).set (n + 1) b = a :: l.set n b := rfl

mutual
def impl_RunLine.l0 : Nat → List ByteArray → List Int → List ByteArray → Int → Int → Int → Int → List Int → Int → Int → List Int → List (S27) → Option (Int × Int × List Int × Int × Int × List Int × (List (S27)) × ByteArray)
 | 0, _, _, _, _, _, _, _, _, _, _, _, _ => none
 | k + 1, x6, x7, x35, x36, x37, x366000, x366001, x366002, x366003, x366004, x366005, x366006 => if x37 < x36 then (if 0 ≤ x37 then (if x37 < (x35.length : Int) then ((impl_number.f (rdOf ByteArray.empty x35 x37)).bind fun bt393 => (if bt393.2 = true then (if x7.length < 17592186044416 then (impl_RunLine.l0 k x6 (x7 ++ [bt393.1]) x35 x36 (wrap64 (x37 + 1)) x366000 x366001 x366002 x366003 x366004 x366005 x366006) else (none)) else (none))) else (none)) else (none)) else (if 0 < (x6.length : Int) then (if (rdOf ByteArray.empty x6 0).toList = ([102, 108, 97, 116] : List UInt8) then (none) else (if (rdOf ByteArray.empty x6 0).toList = ([114, 97, 109, 112] : List UInt8) then (impl_RunLine.j1 k x6 x7 ((rdOf ByteArray.empty x6 0).toList == ([114, 97, 109, 112] : List UInt8)) x366000 x366001 x366002 x366003 x366004 x366005 x366006) else (if (rdOf ByteArray.empty x6 0).toList = ([98, 97, 121, 101, 114] : List UInt8) then (impl_RunLine.j1 k x6 x7 ((rdOf ByteArray.empty x6 0).toList == ([98, 97, 121, 101, 114] : List UInt8)) x366000 x366001 x366002 x366003 x366004 x366005 x366006) else (if (rdOf ByteArray.empty x6 0).toList = ([115, 112, 105, 114, 97, 108] : List UInt8) then (none) else (if (rdOf ByteArray.empty x6 0).toList = ([115, 112, 111, 116] : List UInt8) then (none) else (if (rdOf ByteArray.empty x6 0).toList = ([115, 104, 105, 102, 116] : List UInt8) then (none) else (if (rdOf ByteArray.empty x6 0).toList = ([114, 97, 110, 107] : List UInt8) then (none) else (impl_RunLine.j1 k x6 x7 ((rdOf ByteArray.empty x6 0).toList == ([108, 101, 118, 101, 108] : List UInt8)) x366000 x366001 x366002 x366003 x366004 x366005 x366006)))))))) else (none))
def impl_RunLine.j1 : Nat → List ByteArray → List Int → Bool → Int → Int → List Int → Int → Int → List Int → List (S27) → Option (Int × Int × List Int × Int × Int × List Int × (List (S27)) × ByteArray)
 | 0, _, _, _, _, _, _, _, _, _, _ => none
 | k + 1, x6, x7, x57, x366000, x366001, x366002, x366003, x366004, x366005, x366006 => if x57 = true then (if 0 < (x6.length : Int) then ((impl_Desk_numbered.f k x366000 x366001 x366002 x366003 x366004 x366005 x366006 (rdOf ByteArray.empty x6 0) x7).bind fun bt400 => (some (bt400.1, bt400.2.1, bt400.2.2.1, bt400.2.2.2.1, bt400.2.2.2.2.1, bt400.2.2.2.2.2.1, bt400.2.2.2.2.2.2.1, bt400.2.2.2.2.2.2.2))) else (none)) else (if (x7.length : Int) > 0 then (none) else (if 0 < (x6.length : Int) then ((impl_Desk_plain.f k x366000 x366001 x366002 x366003 x366004 x366005 x366006 (rdOf ByteArray.empty x6 0)).bind fun bt415 => (some (bt415.1, bt415.2.1, bt415.2.2.1, bt415.2.2.2.1, bt415.2.2.2.2.1, bt415.2.2.2.2.2.1, bt415.2.2.2.2.2.2.1, bt415.2.2.2.2.2.2.2))) else (none)))
end
def impl_RunLine.f (k : Nat) (a0_0 : Int) (a0_1 : Int) (l0_2 : List Int) (a0_3 : Int) (a0_4 : Int) (l0_5 : List Int) (l0_6 : List (S27)) (a1 : ByteArray) : Option (Int × Int × List Int × Int × Int × List Int × (List (S27)) × ByteArray) := (impl_deskCopy.f k a0_0 a0_1 l0_2 a0_3 a0_4 l0_5 l0_6).bind fun bt367 => ((impl_DeskOk.f k bt367.1 bt367.2.1 bt367.2.2.1 bt367.2.2.2.1 bt367.2.2.2.2.1 bt367.2.2.2.2.2.1 bt367.2.2.2.2.2.2).bind fun t380 => (if t380 = true then (if a1.toList = ([] : List UInt8) then (some (bt367.1, bt367.2.1, bt367.2.2.1, bt367.2.2.2.1, bt367.2.2.2.2.1, bt367.2.2.2.2.2.1, bt367.2.2.2.2.2.2, (⟨#[]⟩ : ByteArray))) else ((strings_Split.f a1 (⟨#[32]⟩ : ByteArray)).bind fun t381 => (if 0 < (t381.length : Int) then (if (rdOf ByteArray.empty t381 0).toList = ([100, 105, 102, 102, 117, 115, 101] : List UInt8) then (none) else (if 1 ≤ (t381.length : Int) then ((some (t381.drop 1 : List ByteArray)).bind fun y388 => (impl_RunLine.l0 k t381 (([] : List Int)) y388 (y388.length : Int) 0 bt367.1 bt367.2.1 bt367.2.2.1 bt367.2.2.2.1 bt367.2.2.2.2.1 bt367.2.2.2.2.2.1 bt367.2.2.2.2.2.2)) else (none))) else (none)))) else (none)))
def impl_RunLine.T27 : Bool × List (List Nat × List Nat) := (true, [([], []), ([], []), ([1], [1]), ([2], [2]), ([], []), ([0, 3, 4], [0, 3, 4]), ([5], [5]), ([5], [5]), ([6, 5, 0, 1, 2, 3, 4, 5, 6, 7], [6]), ([7, 8, 0, 1, 2, 3, 4, 5, 6, 7, 8], [7])])
def impl_RunLine.B27 : List Nat := [0, 0, 2, 6, 0, 31, 63, 63, 255, 511]
theorem impl_RunLine.tab27 : rtab .any (opsOf Tryz.f28 27) = impl_RunLine.T27 := by kernel_rfl
theorem impl_RunLine.bits27 : waitsOk impl_RunLine.T27.2 impl_RunLine.B27 = true := by kernel_rfl
def impl_RunLine.T30 : Bool × List (List Nat × List Nat) := (true, [([], []), ([], []), ([1], [1]), ([2], [2]), ([0, 3], [0, 3]), ([4], [4]), ([4], [4]), ([5, 4, 0, 1, 2, 3, 4, 5, 6], [5]), ([6, 7, 0, 1, 2, 3, 4, 5, 6, 7], [6])])
def impl_RunLine.B30 : List Nat := [0, 0, 2, 6, 15, 31, 31, 127, 255]
theorem impl_RunLine.tab30 : rtab .any (opsOf Tryz.f28 30) = impl_RunLine.T30 := by kernel_rfl
theorem impl_RunLine.bits30 : waitsOk impl_RunLine.T30.2 impl_RunLine.B30 = true := by kernel_rfl
set_option maxHeartbeats 8000000 in
set_option maxRecDepth 100000 in
theorem impl_RunLine.calls (k : Nat) (a0_0 : Int) (a0_1 : Int) (A0_2 : Option Addr) (c0_2 : Nat) (l0_2 : List Int) (a0_3 : Int) (a0_4 : Int) (A0_5 : Option Addr) (c0_5 : Nat) (l0_5 : List Int) (A0_6 : Option Addr) (c0_6 : Nat) (l0_6 : List (S27)) (a1 : ByteArray) (r1 : Int) (r2 : Int) (r3 : List Int) (r4 : Int) (r5 : Int) (r6 : List Int) (r7 : List (S27)) (r8 : ByteArray) (w : World) (hr0_2 : Kd.C (Kd.int .i64) w A0_2 l0_2.length l0_2) (hc0_2 : l0_2.length ≤ c0_2) (hr0_5 : Kd.C (Kd.int .i64) w A0_5 l0_5.length l0_5) (hc0_5 : l0_5.length ≤ c0_5) (hr0_6 : Kd.C k27 w A0_6 l0_6.length l0_6) (hc0_6 : l0_6.length ≤ c0_6) (hG_ : Ext.Glob w) (h : impl_RunLine.f k a0_0 a0_1 l0_2 a0_3 a0_4 l0_5 l0_6 a1 = some (r1, r2, r3, r4, r5, r6, r7, r8)) :
  Calls Tryz.prog 28 #[.agg #[.int .i64 a0_0, .int .i64 a0_1, .slice A0_2 l0_2.length c0_2, .int .i64 a0_3, .int .i64 a0_4, .slice A0_5 l0_5.length c0_5, .slice A0_6 l0_6.length c0_6], .string a1] w fun e w' => ∃ v2_ v5_ v6_ : Value, e = .returned (.tuple #[.agg #[.int .i64 r1, .int .i64 r2, v2_, .int .i64 r4, .int .i64 r5, v5_, v6_], .string r8]) ∧ Kd.R (Kd.int .i64) 3 w' w.heap.size (fun k_ => (w.heap.size ≤ k_) ∧ some k_ ≠ (v5_ : Value).ownBlock) v2_ r3 ∧ Kd.R (Kd.int .i64) 3 w' w.heap.size (fun k_ => (w.heap.size ≤ k_) ∧ some k_ ≠ (v2_ : Value).ownBlock) v5_ r6 ∧ Kd.V k27 27 w' w.heap.size (fun k_ => (w.heap.size ≤ k_) ∧ some k_ ≠ (v2_ : Value).ownBlock ∧ some k_ ≠ (v5_ : Value).ownBlock) v6_ r7 ∧ Below w.heap.size w w' := by
 have HGB_ := z0l hG_
 clear hG_
 have hu55 := Tryz.underlying55
 have HR0_2 := z0l hr0_2
 have HC0_2 := z0l hc0_2
 clear hr0_2 hc0_2
 have HR0_5 := z0l hr0_5
 have HC0_5 := z0l hc0_5
 clear hr0_5 hc0_5
 have HR0_6 := z0l hr0_6
 have HC0_6 := z0l hc0_6
 clear hr0_6 hc0_6
 have HB := z0l (Below.refl w.heap.size w)
 have H := h
 unfold impl_RunLine.f at H
 clear h
 replace H := Option.bind_eq_some_iff.mp H
 obtain ⟨⟨t367, t368, t369, t372, t373, t374, t377⟩, A30, H⟩ := H
 (try dsimp only at H)
 have A3 := z0l A30
 clear A30
 replace H := Option.bind_eq_some_iff.mp H
 obtain ⟨t380, A40, H⟩ := H
 (try dsimp only at H)
 have A4 := z0l A40
 clear A40
 by_cases c5 : t380 = true
 ·subst c5
  rw [if_pos rfl] at H
  by_cases c6 : a1.toList = ([] : List UInt8)
  ·rw [if_pos c6] at H
   have c6b0 : (a1.toList == ([] : List UInt8)) = true := beq_iff_eq.mpr c6
   have c6b1 : (a1.toList != ([] : List UInt8)) = false := bne_eq_false_iff_eq.mpr c6
   clear c6
   simp only [Option.some.injEq, Prod.mk.injEq] at H
   obtain ⟨rfl, rfl, rfl, rfl, rfl, rfl, rfl, rfl⟩ := H
   go_enter Tryz.func28, Tryz.ntmps28
   go_wp2_with (first | ((with_reducible refine gate_dst (N := 2) rfl ?_); refine box_event rfl (N := 2) rfl (cs := #[.int .i64 a0_0, .int .i64 a0_1, .slice A0_2 l0_2.length c0_2, .int .i64 a0_3, .int .i64 a0_4, .slice A0_5 l0_5.length c0_5, .slice A0_6 l0_6.length c0_6]) (t := 55) (by first | (go_simp; done) | (go_simp; rfl)) ?_; intro gb365 hg w7 hbox hb; have n_ := a4 (dU HB.out hb) (hbox) (gE hg HB.out) (gE hg HB.out); clear HB; obtain ⟨HB, BK365, GW365, GE365⟩ := n_; have gi_365 := GEc.mk GE365.out; clear hb hbox hg) | ((with_reducible refine gate_dst (N := 4) rfl ?_); refine box_event rfl (N := 4) rfl (cs := #[.int .i64 0, .int .i64 0, .slice none 0 0, .int .i64 0, .int .i64 0, .slice none 0 0, .slice none 0 0]) (t := 55) (by first | (go_simp; done) | (go_simp; rfl)) ?_; intro gb366 hg w8 hbox hb; have n_ := a7 (bU BK365.out hb) (dU HB.out hb) (hbox) (gE hg HB.out) (gE hg HB.out) (nL hg BK365.out) (nG hg BK365.out); clear BK365 HB; obtain ⟨BK365, HB, BK366, GW366, GE366, NB365_366, NB366_365⟩ := n_; have gi_366 := GEc.mk GE366.out; clear hb hbox hg; have hnb9 := NB365_366.out; have hnc9 := NB366_365.out; have hcz10_0 : w8.cell? ⟨gb365, 0, none⟩ = some (.int .i64 a0_0) := (x3l BK365.out 0).trans rfl; have hcz10_1 : w8.cell? ⟨gb365, 1, none⟩ = some (.int .i64 a0_1) := (x3l BK365.out 1).trans rfl; have hcz10_2 : w8.cell? ⟨gb365, 2, none⟩ = some (.slice A0_2 l0_2.length c0_2) := (x3l BK365.out 2).trans rfl; have hcz10_3 : w8.cell? ⟨gb365, 3, none⟩ = some (.int .i64 a0_3) := (x3l BK365.out 3).trans rfl; have hcz10_4 : w8.cell? ⟨gb365, 4, none⟩ = some (.int .i64 a0_4) := (x3l BK365.out 4).trans rfl; have hcz10_5 : w8.cell? ⟨gb365, 5, none⟩ = some (.slice A0_5 l0_5.length c0_5) := (x3l BK365.out 5).trans rfl; have hcz10_6 : w8.cell? ⟨gb365, 6, none⟩ = some (.slice A0_6 l0_6.length c0_6) := (x3l BK365.out 6).trans rfl; have hfz10_0 := x2l BK365.out 0; have hfz10_1 := x2l BK365.out 1; have hfz10_2 := x2l BK365.out 2; have hfz10_3 := x2l BK365.out 3; have hfz10_4 := x2l BK365.out 4; have hfz10_5 := x2l BK365.out 5; have hfz10_6 := x2l BK365.out 6) | ((with_reducible refine gate_callee (f := 37) rfl ?_); refine goesL_ (some 13) rfl rfl Tryz.func37 (by kernel_rfl) rfl #[.agg #[.int .i64 a0_0, .int .i64 a0_1, .slice A0_2 l0_2.length c0_2, .int .i64 a0_3, .int .i64 a0_4, .slice A0_5 l0_5.length c0_5, .slice A0_6 l0_6.length c0_6]] rfl (by (try simp only [List.map_toArray, List.map_cons, List.map_nil]); first | done | rfl | (simp only [List.length_drop, List.length_take]; rfl)) ?_; (with_reducible refine (impl_deskCopy.calls k a0_0 a0_1 _ _ l0_2 a0_3 a0_4 _ _ l0_5 _ _ l0_6 t367 t368 t369 t372 t373 t374 t377 _ ?side1 ?side2 ?side3 ?side4 ?side5 ?side6 A3.out).mono ?_); (case side1 => repeat (first | exact HR0_2.out | exact (Kd.C_below HR0_2.out HB.out) | (with_reducible refine Kd.C_alloc ?_ _) | (with_reducible refine Kd.C_drewN ?_ _) | (with_reducible refine Kd.C_drew ?_))); (case side2 => exact HC0_2.out); (case side3 => repeat (first | exact HR0_5.out | exact (Kd.C_below HR0_5.out HB.out) | (with_reducible refine Kd.C_alloc ?_ _) | (with_reducible refine Kd.C_drewN ?_ _) | (with_reducible refine Kd.C_drew ?_))); (case side4 => exact HC0_5.out); (case side5 => repeat (first | exact HR0_6.out | exact (Kd.C_below HR0_6.out HB.out) | (with_reducible refine Kd.C_alloc ?_ _) | (with_reducible refine Kd.C_drewN ?_ _) | (with_reducible refine Kd.C_drew ?_))); (case side6 => exact HC0_6.out); rintro e w11 ⟨v370, v375, v378, rfl, ho0, ho1, ho2, hb⟩; refine ⟨_, rfl, ?_⟩; have n_ := a6 (Kd.R_lower (Kd.R_newM (M := fun k_ => (w.heap.size ≤ k_)) ho0 (y7l (dV HB.out)) (fun k_ h_ => h_)) (y7l (dV HB.out))) (Kd.R_lower (Kd.R_newM (M := fun k_ => (w.heap.size ≤ k_)) ho1 (y7l (dV HB.out)) (fun k_ h_ => h_)) (y7l (dV HB.out))) (Kd.S_lower (Kd.S_newM (M := fun k_ => (w.heap.size ≤ k_)) ho2 (y7l (dV HB.out)) (fun k_ h_ => h_)) (y7l (dV HB.out))) (bU BK365.out hb) (bU BK366.out hb) (dU HB.out hb); clear BK365 BK366 HB; obtain ⟨HO371, HO376, HO379, BK365, BK366, HB⟩ := n_; (try clear hb); (try clear ho0); (try clear ho1); (try clear ho2); have hcz12_0 : w11.cell? ⟨gb365, 0, none⟩ = some (.int .i64 a0_0) := (x3l BK365.out 0).trans rfl; have hcz12_1 : w11.cell? ⟨gb365, 1, none⟩ = some (.int .i64 a0_1) := (x3l BK365.out 1).trans rfl; have hcz12_2 : w11.cell? ⟨gb365, 2, none⟩ = some (.slice A0_2 l0_2.length c0_2) := (x3l BK365.out 2).trans rfl; have hcz12_3 : w11.cell? ⟨gb365, 3, none⟩ = some (.int .i64 a0_3) := (x3l BK365.out 3).trans rfl; have hcz12_4 : w11.cell? ⟨gb365, 4, none⟩ = some (.int .i64 a0_4) := (x3l BK365.out 4).trans rfl; have hcz12_5 : w11.cell? ⟨gb365, 5, none⟩ = some (.slice A0_5 l0_5.length c0_5) := (x3l BK365.out 5).trans rfl; have hcz12_6 : w11.cell? ⟨gb365, 6, none⟩ = some (.slice A0_6 l0_6.length c0_6) := (x3l BK365.out 6).trans rfl; have hfz12_0 := x2l BK365.out 0; have hfz12_1 := x2l BK365.out 1; have hfz12_2 := x2l BK365.out 2; have hfz12_3 := x2l BK365.out 3; have hfz12_4 := x2l BK365.out 4; have hfz12_5 := x2l BK365.out 5; have hfz12_6 := x2l BK365.out 6; obtain ⟨Ao13, co13, eo13⟩ := Kd.R_slice HO371.out; subst eo13; obtain ⟨Ao14, co14, eo14⟩ := Kd.R_slice HO376.out; subst eo14; obtain ⟨Ao15, co15, eo15⟩ := Kd.S_slice HO379.out; subst eo15) | ((with_reducible refine gate_callee (f := 38) rfl ?_); refine goesL_ (some 15) rfl rfl Tryz.func38 (by kernel_rfl) rfl #[.agg #[.int .i64 t367, .int .i64 t368, .slice Ao13 t369.length co13, .int .i64 t372, .int .i64 t373, .slice Ao14 t374.length co14, .slice Ao15 t377.length co15]] rfl (by (try simp only [List.map_toArray, List.map_cons, List.map_nil]); first | done | rfl | (simp only [List.length_drop, List.length_take]; rfl)) ?_; (with_reducible refine (impl_DeskOk.calls k t367 t368 _ _ t369 t372 t373 _ _ t374 _ _ t377 true _ ?side1 ?side2 ?side3 ?side4 ?side5 ?side6 A4.out).mono ?_); (case side1 => refine (x5l (e := 3) (base := w.heap.size) (ok := fun k_ => ((w.heap.size ≤ k_) ∧ some k_ ≠ (.slice Ao14 t374.length co14 : Value).ownBlock)) (n := t369.length) (c := co13) ?_).2.2; exact (by (with_reducible repeat (first | apply z8l | apply z9l | apply y1l)); exact (x6l (x1l (p := ⟨gb365, 6, none⟩) (x1l (p := ⟨gb365, 5, none⟩) (x1l (p := ⟨gb365, 4, none⟩) (x1l (p := ⟨gb365, 3, none⟩) (x1l (p := ⟨gb365, 2, none⟩) (x1l (p := ⟨gb365, 1, none⟩) (x1l (p := ⟨gb365, 0, none⟩) (x7l HO371.out BK365.out (by decide)) (fun _ hk => hk.2) (.int .i64 t367)) (fun _ hk => hk.2) (.int .i64 t368)) (fun _ hk => hk.2) (.slice Ao13 t369.length co13)) (fun _ hk => hk.2) (.int .i64 t372)) (fun _ hk => hk.2) (.int .i64 t373)) (fun _ hk => hk.2) (.slice Ao14 t374.length co14)) (fun _ hk => hk.2) (.slice Ao15 t377.length co15)) (fun _ h_ => h_.1)))); (case side2 => exact (x5l HO371.out).2.1); (case side3 => refine (x5l (e := 3) (base := w.heap.size) (ok := fun k_ => ((w.heap.size ≤ k_) ∧ some k_ ≠ (.slice Ao13 t369.length co13 : Value).ownBlock)) (n := t374.length) (c := co14) ?_).2.2; exact (by (with_reducible repeat (first | apply z8l | apply z9l | apply y1l)); exact (x6l (x1l (p := ⟨gb365, 6, none⟩) (x1l (p := ⟨gb365, 5, none⟩) (x1l (p := ⟨gb365, 4, none⟩) (x1l (p := ⟨gb365, 3, none⟩) (x1l (p := ⟨gb365, 2, none⟩) (x1l (p := ⟨gb365, 1, none⟩) (x1l (p := ⟨gb365, 0, none⟩) (x7l HO376.out BK365.out (by decide)) (fun _ hk => hk.2) (.int .i64 t367)) (fun _ hk => hk.2) (.int .i64 t368)) (fun _ hk => hk.2) (.slice Ao13 t369.length co13)) (fun _ hk => hk.2) (.int .i64 t372)) (fun _ hk => hk.2) (.int .i64 t373)) (fun _ hk => hk.2) (.slice Ao14 t374.length co14)) (fun _ hk => hk.2) (.slice Ao15 t377.length co15)) (fun _ h_ => h_.1)))); (case side4 => exact (x5l HO376.out).2.1); (case side5 => refine (Kd.S_reads' (e := 27) (base := w.heap.size) (ok := fun k_ => ((w.heap.size ≤ k_) ∧ (some k_ ≠ (.slice Ao13 t369.length co13 : Value).ownBlock ∧ some k_ ≠ (.slice Ao14 t374.length co14 : Value).ownBlock))) (n := t377.length) (c := co15) ?_).2.2; exact (by (with_reducible repeat (first | apply Kd.S_alloc | apply Kd.S_drewN | apply Kd.S_drew)); exact (Kd.S_mono (Kd.S_far (p := ⟨gb365, 6, none⟩) (Kd.S_far (p := ⟨gb365, 5, none⟩) (Kd.S_far (p := ⟨gb365, 4, none⟩) (Kd.S_far (p := ⟨gb365, 3, none⟩) (Kd.S_far (p := ⟨gb365, 2, none⟩) (Kd.S_far (p := ⟨gb365, 1, none⟩) (Kd.S_far (p := ⟨gb365, 0, none⟩) (Kd.S_types HO379.out BK365.out (by decide)) (fun _ hk => hk.2) (.int .i64 t367)) (fun _ hk => hk.2) (.int .i64 t368)) (fun _ hk => hk.2) (.slice Ao13 t369.length co13)) (fun _ hk => hk.2) (.int .i64 t372)) (fun _ hk => hk.2) (.int .i64 t373)) (fun _ hk => hk.2) (.slice Ao14 t374.length co14)) (fun _ hk => hk.2) (.slice Ao15 t377.length co15)) (fun _ h_ => h_.1)))); (case side6 => exact (Kd.S_reads' HO379.out).2.1); rintro e w16 ⟨rfl, hb⟩; refine ⟨_, rfl, ?_⟩; have n_ := a6 (x4l (by (with_reducible repeat (first | apply z8l | apply z9l | apply y1l)); exact (x6l (x1l (p := ⟨gb365, 6, none⟩) (x1l (p := ⟨gb365, 5, none⟩) (x1l (p := ⟨gb365, 4, none⟩) (x1l (p := ⟨gb365, 3, none⟩) (x1l (p := ⟨gb365, 2, none⟩) (x1l (p := ⟨gb365, 1, none⟩) (x1l (p := ⟨gb365, 0, none⟩) (x7l HO371.out BK365.out (by decide)) (fun _ hk => hk.2) (.int .i64 t367)) (fun _ hk => hk.2) (.int .i64 t368)) (fun _ hk => hk.2) (.slice Ao13 t369.length co13)) (fun _ hk => hk.2) (.int .i64 t372)) (fun _ hk => hk.2) (.int .i64 t373)) (fun _ hk => hk.2) (.slice Ao14 t374.length co14)) (fun _ hk => hk.2) (.slice Ao15 t377.length co15)) (fun _ h_ => h_.1))) hb) (x4l (by (with_reducible repeat (first | apply z8l | apply z9l | apply y1l)); exact (x6l (x1l (p := ⟨gb365, 6, none⟩) (x1l (p := ⟨gb365, 5, none⟩) (x1l (p := ⟨gb365, 4, none⟩) (x1l (p := ⟨gb365, 3, none⟩) (x1l (p := ⟨gb365, 2, none⟩) (x1l (p := ⟨gb365, 1, none⟩) (x1l (p := ⟨gb365, 0, none⟩) (x7l HO376.out BK365.out (by decide)) (fun _ hk => hk.2) (.int .i64 t367)) (fun _ hk => hk.2) (.int .i64 t368)) (fun _ hk => hk.2) (.slice Ao13 t369.length co13)) (fun _ hk => hk.2) (.int .i64 t372)) (fun _ hk => hk.2) (.int .i64 t373)) (fun _ hk => hk.2) (.slice Ao14 t374.length co14)) (fun _ hk => hk.2) (.slice Ao15 t377.length co15)) (fun _ h_ => h_.1))) hb) (Kd.S_below (by (with_reducible repeat (first | apply Kd.S_alloc | apply Kd.S_drewN | apply Kd.S_drew)); exact (Kd.S_mono (Kd.S_far (p := ⟨gb365, 6, none⟩) (Kd.S_far (p := ⟨gb365, 5, none⟩) (Kd.S_far (p := ⟨gb365, 4, none⟩) (Kd.S_far (p := ⟨gb365, 3, none⟩) (Kd.S_far (p := ⟨gb365, 2, none⟩) (Kd.S_far (p := ⟨gb365, 1, none⟩) (Kd.S_far (p := ⟨gb365, 0, none⟩) (Kd.S_types HO379.out BK365.out (by decide)) (fun _ hk => hk.2) (.int .i64 t367)) (fun _ hk => hk.2) (.int .i64 t368)) (fun _ hk => hk.2) (.slice Ao13 t369.length co13)) (fun _ hk => hk.2) (.int .i64 t372)) (fun _ hk => hk.2) (.int .i64 t373)) (fun _ hk => hk.2) (.slice Ao14 t374.length co14)) (fun _ hk => hk.2) (.slice Ao15 t377.length co15)) (fun _ h_ => h_.1))) hb) (blk_below (g := gb365) (o := .cells #[.int .i64 t367, .int .i64 t368, .slice Ao13 t369.length co13, .int .i64 t372, .int .i64 t373, .slice Ao14 t374.length co14, .slice Ao15 t377.length co15] 55 (0, 0)) (by (with_reducible repeat (first | refine z1l ?_ _ | refine z3l ?_ | refine z2l ?_ _)); refine blk_put (cs := #[.int .i64 t367, .int .i64 t368, .slice Ao13 t369.length co13, .int .i64 t372, .int .i64 t373, .slice Ao14 t374.length co14, .slice A0_6 l0_6.length c0_6]) ?_ 6 _ rfl; (with_reducible repeat (first | refine z1l ?_ _ | refine z3l ?_ | refine z2l ?_ _)); refine blk_put (cs := #[.int .i64 t367, .int .i64 t368, .slice Ao13 t369.length co13, .int .i64 t372, .int .i64 t373, .slice A0_5 l0_5.length c0_5, .slice A0_6 l0_6.length c0_6]) ?_ 5 _ rfl; (with_reducible repeat (first | refine z1l ?_ _ | refine z3l ?_ | refine z2l ?_ _)); refine blk_put (cs := #[.int .i64 t367, .int .i64 t368, .slice Ao13 t369.length co13, .int .i64 t372, .int .i64 a0_4, .slice A0_5 l0_5.length c0_5, .slice A0_6 l0_6.length c0_6]) ?_ 4 _ rfl; (with_reducible repeat (first | refine z1l ?_ _ | refine z3l ?_ | refine z2l ?_ _)); refine blk_put (cs := #[.int .i64 t367, .int .i64 t368, .slice Ao13 t369.length co13, .int .i64 a0_3, .int .i64 a0_4, .slice A0_5 l0_5.length c0_5, .slice A0_6 l0_6.length c0_6]) ?_ 3 _ rfl; (with_reducible repeat (first | refine z1l ?_ _ | refine z3l ?_ | refine z2l ?_ _)); refine blk_put (cs := #[.int .i64 t367, .int .i64 t368, .slice A0_2 l0_2.length c0_2, .int .i64 a0_3, .int .i64 a0_4, .slice A0_5 l0_5.length c0_5, .slice A0_6 l0_6.length c0_6]) ?_ 2 _ rfl; (with_reducible repeat (first | refine z1l ?_ _ | refine z3l ?_ | refine z2l ?_ _)); refine blk_put (cs := #[.int .i64 t367, .int .i64 a0_1, .slice A0_2 l0_2.length c0_2, .int .i64 a0_3, .int .i64 a0_4, .slice A0_5 l0_5.length c0_5, .slice A0_6 l0_6.length c0_6]) ?_ 1 _ rfl; (with_reducible repeat (first | refine z1l ?_ _ | refine z3l ?_ | refine z2l ?_ _)); refine blk_put (cs := #[.int .i64 a0_0, .int .i64 a0_1, .slice A0_2 l0_2.length c0_2, .int .i64 a0_3, .int .i64 a0_4, .slice A0_5 l0_5.length c0_5, .slice A0_6 l0_6.length c0_6]) ?_ 0 _ rfl; (with_reducible repeat (first | refine z1l ?_ _ | refine z3l ?_ | refine z2l ?_ _)); exact BK365.out) hb) (blk_below (g := gb366) (o := .cells #[.int .i64 0, .int .i64 0, .slice none 0 0, .int .i64 0, .int .i64 0, .slice none 0 0, .slice none 0 0] 55 (0, 0)) (by (with_reducible repeat (first | refine z1l ?_ _ | refine z3l ?_ | refine z2l ?_ _)); refine x8l ?_ NB366_365.out _; (with_reducible repeat (first | refine z1l ?_ _ | refine z3l ?_ | refine z2l ?_ _)); refine x8l ?_ NB366_365.out _; (with_reducible repeat (first | refine z1l ?_ _ | refine z3l ?_ | refine z2l ?_ _)); refine x8l ?_ NB366_365.out _; (with_reducible repeat (first | refine z1l ?_ _ | refine z3l ?_ | refine z2l ?_ _)); refine x8l ?_ NB366_365.out _; (with_reducible repeat (first | refine z1l ?_ _ | refine z3l ?_ | refine z2l ?_ _)); refine x8l ?_ NB366_365.out _; (with_reducible repeat (first | refine z1l ?_ _ | refine z3l ?_ | refine z2l ?_ _)); refine x8l ?_ NB366_365.out _; (with_reducible repeat (first | refine z1l ?_ _ | refine z3l ?_ | refine z2l ?_ _)); refine x8l ?_ NB366_365.out _; (with_reducible repeat (first | refine z1l ?_ _ | refine z3l ?_ | refine z2l ?_ _)); exact BK366.out) hb) (dU HB.out hb); clear HO371 HO376 HO379 BK365 BK366 HB; obtain ⟨HO371, HO376, HO379, BK365, BK366, HB⟩ := n_; (try clear hb); have hcz17_0 : w16.cell? ⟨gb365, 0, none⟩ = some (.int .i64 t367) := (x3l BK365.out 0).trans rfl; have hcz17_1 : w16.cell? ⟨gb365, 1, none⟩ = some (.int .i64 t368) := (x3l BK365.out 1).trans rfl; have hcz17_2 : w16.cell? ⟨gb365, 2, none⟩ = some (.slice Ao13 t369.length co13) := (x3l BK365.out 2).trans rfl; have hcz17_3 : w16.cell? ⟨gb365, 3, none⟩ = some (.int .i64 t372) := (x3l BK365.out 3).trans rfl; have hcz17_4 : w16.cell? ⟨gb365, 4, none⟩ = some (.int .i64 t373) := (x3l BK365.out 4).trans rfl; have hcz17_5 : w16.cell? ⟨gb365, 5, none⟩ = some (.slice Ao14 t374.length co14) := (x3l BK365.out 5).trans rfl; have hcz17_6 : w16.cell? ⟨gb365, 6, none⟩ = some (.slice Ao15 t377.length co15) := (x3l BK365.out 6).trans rfl; have hfz17_0 := x2l BK365.out 0; have hfz17_1 := x2l BK365.out 1; have hfz17_2 := x2l BK365.out 2; have hfz17_3 := x2l BK365.out 3; have hfz17_4 := x2l BK365.out 4; have hfz17_5 := x2l BK365.out 5; have hfz17_6 := x2l BK365.out 6; have hcz18_0 : w16.cell? ⟨gb366, 0, none⟩ = some (.int .i64 0) := (x3l BK366.out 0).trans rfl; have hcz18_1 : w16.cell? ⟨gb366, 1, none⟩ = some (.int .i64 0) := (x3l BK366.out 1).trans rfl; have hcz18_2 : w16.cell? ⟨gb366, 2, none⟩ = some (.slice none 0 0) := (x3l BK366.out 2).trans rfl; have hcz18_3 : w16.cell? ⟨gb366, 3, none⟩ = some (.int .i64 0) := (x3l BK366.out 3).trans rfl; have hcz18_4 : w16.cell? ⟨gb366, 4, none⟩ = some (.int .i64 0) := (x3l BK366.out 4).trans rfl; have hcz18_5 : w16.cell? ⟨gb366, 5, none⟩ = some (.slice none 0 0) := (x3l BK366.out 5).trans rfl; have hcz18_6 : w16.cell? ⟨gb366, 6, none⟩ = some (.slice none 0 0) := (x3l BK366.out 6).trans rfl; have hfz18_0 := x2l BK366.out 0; have hfz18_1 := x2l BK366.out 1; have hfz18_2 := x2l BK366.out 2; have hfz18_3 := x2l BK366.out 3; have hfz18_4 := x2l BK366.out 4; have hfz18_5 := x2l BK366.out 5; have hfz18_6 := x2l BK366.out 6))
   refine bodyPost_ret (results_ct rfl _ _ gb366 55 #[.int .i64 t367, .int .i64 t368, .slice Ao13 t369.length co13, .int .i64 t372, .int .i64 t373, .slice Ao14 t374.length co14, .slice Ao15 t377.length co15] (0, 0) _ rfl (by (with_reducible repeat (first | refine z1l ?_ _ | refine z3l ?_ | refine z2l ?_ _)); refine blk_put (cs := #[.int .i64 t367, .int .i64 t368, .slice Ao13 t369.length co13, .int .i64 t372, .int .i64 t373, .slice Ao14 t374.length co14, .slice none 0 0]) ?_ 6 _ rfl; (with_reducible repeat (first | refine z1l ?_ _ | refine z3l ?_ | refine z2l ?_ _)); refine blk_put (cs := #[.int .i64 t367, .int .i64 t368, .slice Ao13 t369.length co13, .int .i64 t372, .int .i64 t373, .slice none 0 0, .slice none 0 0]) ?_ 5 _ rfl; (with_reducible repeat (first | refine z1l ?_ _ | refine z3l ?_ | refine z2l ?_ _)); refine blk_put (cs := #[.int .i64 t367, .int .i64 t368, .slice Ao13 t369.length co13, .int .i64 t372, .int .i64 0, .slice none 0 0, .slice none 0 0]) ?_ 4 _ rfl; (with_reducible repeat (first | refine z1l ?_ _ | refine z3l ?_ | refine z2l ?_ _)); refine blk_put (cs := #[.int .i64 t367, .int .i64 t368, .slice Ao13 t369.length co13, .int .i64 0, .int .i64 0, .slice none 0 0, .slice none 0 0]) ?_ 3 _ rfl; (with_reducible repeat (first | refine z1l ?_ _ | refine z3l ?_ | refine z2l ?_ _)); refine blk_put (cs := #[.int .i64 t367, .int .i64 t368, .slice none 0 0, .int .i64 0, .int .i64 0, .slice none 0 0, .slice none 0 0]) ?_ 2 _ rfl; (with_reducible repeat (first | refine z1l ?_ _ | refine z3l ?_ | refine z2l ?_ _)); refine blk_put (cs := #[.int .i64 t367, .int .i64 0, .slice none 0 0, .int .i64 0, .int .i64 0, .slice none 0 0, .slice none 0 0]) ?_ 1 _ rfl; (with_reducible repeat (first | refine z1l ?_ _ | refine z3l ?_ | refine z2l ?_ _)); refine blk_put (cs := #[.int .i64 0, .int .i64 0, .slice none 0 0, .int .i64 0, .int .i64 0, .slice none 0 0, .slice none 0 0]) ?_ 0 _ rfl; (with_reducible repeat (first | refine z1l ?_ _ | refine z3l ?_ | refine z2l ?_ _)); exact BK366.out) Tryz.underlying55 rfl (by kernel_rfl)) rfl ?_
   exact ⟨_, _, _, by first | rfl | (simp [errW_none, errW_some] <;> rfl) | (simp [*, errW_none, errW_some] <;> rfl), by (with_reducible repeat (first | apply z8l | apply z9l | apply y1l)); exact x6l (x1l (p := ⟨gb366, 6, none⟩) (x1l (p := ⟨gb366, 5, none⟩) (x1l (p := ⟨gb366, 4, none⟩) (x1l (p := ⟨gb366, 3, none⟩) (x1l (p := ⟨gb366, 2, none⟩) (x1l (p := ⟨gb366, 1, none⟩) (x1l (p := ⟨gb366, 0, none⟩) (x7l HO371.out BK366.out (by decide)) (fun _ hk => hk.2) (.int .i64 t367)) (fun _ hk => hk.2) (.int .i64 t368)) (fun _ hk => hk.2) (.slice Ao13 t369.length co13)) (fun _ hk => hk.2) (.int .i64 t372)) (fun _ hk => hk.2) (.int .i64 t373)) (fun _ hk => hk.2) (.slice Ao14 t374.length co14)) (fun _ hk => hk.2) (.slice Ao15 t377.length co15)) (fun _ hk => ⟨hk.1.1, hk.1.2⟩), by (with_reducible repeat (first | apply z8l | apply z9l | apply y1l)); exact x6l (x1l (p := ⟨gb366, 6, none⟩) (x1l (p := ⟨gb366, 5, none⟩) (x1l (p := ⟨gb366, 4, none⟩) (x1l (p := ⟨gb366, 3, none⟩) (x1l (p := ⟨gb366, 2, none⟩) (x1l (p := ⟨gb366, 1, none⟩) (x1l (p := ⟨gb366, 0, none⟩) (x7l HO376.out BK366.out (by decide)) (fun _ hk => hk.2) (.int .i64 t367)) (fun _ hk => hk.2) (.int .i64 t368)) (fun _ hk => hk.2) (.slice Ao13 t369.length co13)) (fun _ hk => hk.2) (.int .i64 t372)) (fun _ hk => hk.2) (.int .i64 t373)) (fun _ hk => hk.2) (.slice Ao14 t374.length co14)) (fun _ hk => hk.2) (.slice Ao15 t377.length co15)) (fun _ hk => ⟨hk.1.1, hk.1.2⟩), Kd.S_V (by (with_reducible repeat (first | apply Kd.S_alloc | apply Kd.S_drewN | apply Kd.S_drew)); exact Kd.S_mono (Kd.S_far (p := ⟨gb366, 6, none⟩) (Kd.S_far (p := ⟨gb366, 5, none⟩) (Kd.S_far (p := ⟨gb366, 4, none⟩) (Kd.S_far (p := ⟨gb366, 3, none⟩) (Kd.S_far (p := ⟨gb366, 2, none⟩) (Kd.S_far (p := ⟨gb366, 1, none⟩) (Kd.S_far (p := ⟨gb366, 0, none⟩) (Kd.S_types HO379.out BK366.out (by decide)) (fun _ hk => hk.2) (.int .i64 t367)) (fun _ hk => hk.2) (.int .i64 t368)) (fun _ hk => hk.2) (.slice Ao13 t369.length co13)) (fun _ hk => hk.2) (.int .i64 t372)) (fun _ hk => hk.2) (.int .i64 t373)) (fun _ hk => hk.2) (.slice Ao14 t374.length co14)) (fun _ hk => hk.2) (.slice Ao15 t377.length co15)) (fun _ hk => ⟨hk.1.1, ⟨hk.1.2.1, hk.1.2.2⟩⟩)), dV HB.out⟩
  ·rw [if_neg c6] at H
   have c6b0 : (a1.toList == ([] : List UInt8)) = false := beq_eq_false_iff_ne.mpr c6
   have c6b1 : (a1.toList != ([] : List UInt8)) = true := bne_iff_ne.mpr c6
   replace H := Option.bind_eq_some_iff.mp H
   obtain ⟨t381, A190, H⟩ := H
   (try dsimp only at H)
   have A19 := z0l A190
   clear A190
   by_cases c20 : 0 < (t381.length : Int)
   ·rw [if_pos c20] at H
    have c20b0 : decide (0 < (t381.length : Int)) = true := decide_eq_true c20
    have c20b1 : decide (0 < t381.length) = true := decide_eq_true (by omega)
    clear c20
    by_cases c21 : (rdOf ByteArray.empty t381 0).toList = ([100, 105, 102, 102, 117, 115, 101] : List UInt8)
    ·rw [if_pos c21] at H
     exact absurd H (by simp)
    ·rw [if_neg c21] at H
     have c21b0 : ((rdOf ByteArray.empty t381 0).toList == ([100, 105, 102, 102, 117, 115, 101] : List UInt8)) = false := beq_eq_false_iff_ne.mpr c21
     have c21b1 : ((rdOf ByteArray.empty t381 0).toList != ([100, 105, 102, 102, 117, 115, 101] : List UInt8)) = true := bne_iff_ne.mpr c21
     obtain ⟨y385, hy385⟩ : ∃ y_ : List Int, y_ = (([] : List Int)) := ⟨_, rfl⟩
     replace H : (if 1 ≤ (t381.length : Int) then ((some (t381.drop 1 : List ByteArray)).bind fun y388 => (impl_RunLine.l0 k t381 y385 y388 (y388.length : Int) 0 t367 t368 t369 t372 t373 t374 t377)) else (none)) = some (r1, r2, r3, r4, r5, r6, r7, r8) := by first | (rw [hy385]; with_reducible exact H) | (have H2_ := (Option.bind_some _ _).symm.trans H; rw [hy385]; with_reducible exact H2_) | (have H2_ := (Option.bind_some _ _).symm.trans H; with_reducible exact H2_) | with_reducible exact H | (rw [hy385]; exact H) | exact H
     have Ny385 := z0l hy385
     clear hy385
     by_cases c22 : 1 ≤ (t381.length : Int)
     ·rw [if_pos c22] at H
      have c22b0 := eq_true c22
      have c22b1 : decide (1 ≤ (t381.length : Int)) = true := decide_eq_true c22
      clear c22
      obtain ⟨y388, hy388⟩ : ∃ y_ : List ByteArray, y_ = (t381.drop 1) := ⟨_, rfl⟩
      replace H : (impl_RunLine.l0 k t381 y385 y388 (y388.length : Int) 0 t367 t368 t369 t372 t373 t374 t377) = some (r1, r2, r3, r4, r5, r6, r7, r8) := by first | (rw [hy388]; with_reducible exact H) | (have H2_ := (Option.bind_some _ _).symm.trans H; rw [hy388]; with_reducible exact H2_) | (have H2_ := (Option.bind_some _ _).symm.trans H; with_reducible exact H2_) | with_reducible exact H | (rw [hy388]; exact H) | exact H
      have Ny388 := z0l hy388
      clear hy388
      have H' := z0l H
      clear H
      go_enter Tryz.func28, Tryz.ntmps28
      go_wp2_with (first | ((with_reducible refine gate_dst (N := 2) rfl ?_); refine box_event rfl (N := 2) rfl (cs := #[.int .i64 a0_0, .int .i64 a0_1, .slice A0_2 l0_2.length c0_2, .int .i64 a0_3, .int .i64 a0_4, .slice A0_5 l0_5.length c0_5, .slice A0_6 l0_6.length c0_6]) (t := 55) (by first | (go_simp; done) | (go_simp; rfl)) ?_; intro gb365 hg w23 hbox hb; have n_ := a4 (dU HB.out hb) (hbox) (gE hg HB.out) (gE hg HB.out); clear HB; obtain ⟨HB, BK365, GW365, GE365⟩ := n_; have gi_365 := GEc.mk GE365.out; clear hb hbox hg) | ((with_reducible refine gate_dst (N := 4) rfl ?_); refine box_event rfl (N := 4) rfl (cs := #[.int .i64 0, .int .i64 0, .slice none 0 0, .int .i64 0, .int .i64 0, .slice none 0 0, .slice none 0 0]) (t := 55) (by first | (go_simp; done) | (go_simp; rfl)) ?_; intro gb366 hg w24 hbox hb; have n_ := a7 (bU BK365.out hb) (dU HB.out hb) (hbox) (gE hg HB.out) (gE hg HB.out) (nL hg BK365.out) (nG hg BK365.out); clear BK365 HB; obtain ⟨BK365, HB, BK366, GW366, GE366, NB365_366, NB366_365⟩ := n_; have gi_366 := GEc.mk GE366.out; clear hb hbox hg; have hnb25 := NB365_366.out; have hnc25 := NB366_365.out; have hcz26_0 : w24.cell? ⟨gb365, 0, none⟩ = some (.int .i64 a0_0) := (x3l BK365.out 0).trans rfl; have hcz26_1 : w24.cell? ⟨gb365, 1, none⟩ = some (.int .i64 a0_1) := (x3l BK365.out 1).trans rfl; have hcz26_2 : w24.cell? ⟨gb365, 2, none⟩ = some (.slice A0_2 l0_2.length c0_2) := (x3l BK365.out 2).trans rfl; have hcz26_3 : w24.cell? ⟨gb365, 3, none⟩ = some (.int .i64 a0_3) := (x3l BK365.out 3).trans rfl; have hcz26_4 : w24.cell? ⟨gb365, 4, none⟩ = some (.int .i64 a0_4) := (x3l BK365.out 4).trans rfl; have hcz26_5 : w24.cell? ⟨gb365, 5, none⟩ = some (.slice A0_5 l0_5.length c0_5) := (x3l BK365.out 5).trans rfl; have hcz26_6 : w24.cell? ⟨gb365, 6, none⟩ = some (.slice A0_6 l0_6.length c0_6) := (x3l BK365.out 6).trans rfl; have hfz26_0 := x2l BK365.out 0; have hfz26_1 := x2l BK365.out 1; have hfz26_2 := x2l BK365.out 2; have hfz26_3 := x2l BK365.out 3; have hfz26_4 := x2l BK365.out 4; have hfz26_5 := x2l BK365.out 5; have hfz26_6 := x2l BK365.out 6) | ((with_reducible refine gate_callee (f := 37) rfl ?_); refine goesL_ (some 13) rfl rfl Tryz.func37 (by kernel_rfl) rfl #[.agg #[.int .i64 a0_0, .int .i64 a0_1, .slice A0_2 l0_2.length c0_2, .int .i64 a0_3, .int .i64 a0_4, .slice A0_5 l0_5.length c0_5, .slice A0_6 l0_6.length c0_6]] rfl (by (try simp only [List.map_toArray, List.map_cons, List.map_nil]); first | done | rfl | (simp only [List.length_drop, List.length_take]; rfl)) ?_; (with_reducible refine (impl_deskCopy.calls k a0_0 a0_1 _ _ l0_2 a0_3 a0_4 _ _ l0_5 _ _ l0_6 t367 t368 t369 t372 t373 t374 t377 _ ?side1 ?side2 ?side3 ?side4 ?side5 ?side6 A3.out).mono ?_); (case side1 => repeat (first | exact HR0_2.out | exact (Kd.C_below HR0_2.out HB.out) | (with_reducible refine Kd.C_alloc ?_ _) | (with_reducible refine Kd.C_drewN ?_ _) | (with_reducible refine Kd.C_drew ?_))); (case side2 => exact HC0_2.out); (case side3 => repeat (first | exact HR0_5.out | exact (Kd.C_below HR0_5.out HB.out) | (with_reducible refine Kd.C_alloc ?_ _) | (with_reducible refine Kd.C_drewN ?_ _) | (with_reducible refine Kd.C_drew ?_))); (case side4 => exact HC0_5.out); (case side5 => repeat (first | exact HR0_6.out | exact (Kd.C_below HR0_6.out HB.out) | (with_reducible refine Kd.C_alloc ?_ _) | (with_reducible refine Kd.C_drewN ?_ _) | (with_reducible refine Kd.C_drew ?_))); (case side6 => exact HC0_6.out); rintro e w27 ⟨v370, v375, v378, rfl, ho0, ho1, ho2, hb⟩; refine ⟨_, rfl, ?_⟩; have n_ := a6 (Kd.R_lower (Kd.R_newM (M := fun k_ => (w.heap.size ≤ k_)) ho0 (y7l (dV HB.out)) (fun k_ h_ => h_)) (y7l (dV HB.out))) (Kd.R_lower (Kd.R_newM (M := fun k_ => (w.heap.size ≤ k_)) ho1 (y7l (dV HB.out)) (fun k_ h_ => h_)) (y7l (dV HB.out))) (Kd.S_lower (Kd.S_newM (M := fun k_ => (w.heap.size ≤ k_)) ho2 (y7l (dV HB.out)) (fun k_ h_ => h_)) (y7l (dV HB.out))) (bU BK365.out hb) (bU BK366.out hb) (dU HB.out hb); clear BK365 BK366 HB; obtain ⟨HO371, HO376, HO379, BK365, BK366, HB⟩ := n_; (try clear hb); (try clear ho0); (try clear ho1); (try clear ho2); have hcz28_0 : w27.cell? ⟨gb365, 0, none⟩ = some (.int .i64 a0_0) := (x3l BK365.out 0).trans rfl; have hcz28_1 : w27.cell? ⟨gb365, 1, none⟩ = some (.int .i64 a0_1) := (x3l BK365.out 1).trans rfl; have hcz28_2 : w27.cell? ⟨gb365, 2, none⟩ = some (.slice A0_2 l0_2.length c0_2) := (x3l BK365.out 2).trans rfl; have hcz28_3 : w27.cell? ⟨gb365, 3, none⟩ = some (.int .i64 a0_3) := (x3l BK365.out 3).trans rfl; have hcz28_4 : w27.cell? ⟨gb365, 4, none⟩ = some (.int .i64 a0_4) := (x3l BK365.out 4).trans rfl; have hcz28_5 : w27.cell? ⟨gb365, 5, none⟩ = some (.slice A0_5 l0_5.length c0_5) := (x3l BK365.out 5).trans rfl; have hcz28_6 : w27.cell? ⟨gb365, 6, none⟩ = some (.slice A0_6 l0_6.length c0_6) := (x3l BK365.out 6).trans rfl; have hfz28_0 := x2l BK365.out 0; have hfz28_1 := x2l BK365.out 1; have hfz28_2 := x2l BK365.out 2; have hfz28_3 := x2l BK365.out 3; have hfz28_4 := x2l BK365.out 4; have hfz28_5 := x2l BK365.out 5; have hfz28_6 := x2l BK365.out 6; obtain ⟨Ao29, co29, eo29⟩ := Kd.R_slice HO371.out; subst eo29; obtain ⟨Ao30, co30, eo30⟩ := Kd.R_slice HO376.out; subst eo30; obtain ⟨Ao31, co31, eo31⟩ := Kd.S_slice HO379.out; subst eo31) | ((with_reducible refine gate_callee (f := 38) rfl ?_); refine goesL_ (some 15) rfl rfl Tryz.func38 (by kernel_rfl) rfl #[.agg #[.int .i64 t367, .int .i64 t368, .slice Ao29 t369.length co29, .int .i64 t372, .int .i64 t373, .slice Ao30 t374.length co30, .slice Ao31 t377.length co31]] rfl (by (try simp only [List.map_toArray, List.map_cons, List.map_nil]); first | done | rfl | (simp only [List.length_drop, List.length_take]; rfl)) ?_; (with_reducible refine (impl_DeskOk.calls k t367 t368 _ _ t369 t372 t373 _ _ t374 _ _ t377 true _ ?side1 ?side2 ?side3 ?side4 ?side5 ?side6 A4.out).mono ?_); (case side1 => refine (x5l (e := 3) (base := w.heap.size) (ok := fun k_ => ((w.heap.size ≤ k_) ∧ some k_ ≠ (.slice Ao30 t374.length co30 : Value).ownBlock)) (n := t369.length) (c := co29) ?_).2.2; exact (by (with_reducible repeat (first | apply z8l | apply z9l | apply y1l)); exact (x6l (x1l (p := ⟨gb365, 6, none⟩) (x1l (p := ⟨gb365, 5, none⟩) (x1l (p := ⟨gb365, 4, none⟩) (x1l (p := ⟨gb365, 3, none⟩) (x1l (p := ⟨gb365, 2, none⟩) (x1l (p := ⟨gb365, 1, none⟩) (x1l (p := ⟨gb365, 0, none⟩) (x7l HO371.out BK365.out (by decide)) (fun _ hk => hk.2) (.int .i64 t367)) (fun _ hk => hk.2) (.int .i64 t368)) (fun _ hk => hk.2) (.slice Ao29 t369.length co29)) (fun _ hk => hk.2) (.int .i64 t372)) (fun _ hk => hk.2) (.int .i64 t373)) (fun _ hk => hk.2) (.slice Ao30 t374.length co30)) (fun _ hk => hk.2) (.slice Ao31 t377.length co31)) (fun _ h_ => h_.1)))); (case side2 => exact (x5l HO371.out).2.1); (case side3 => refine (x5l (e := 3) (base := w.heap.size) (ok := fun k_ => ((w.heap.size ≤ k_) ∧ some k_ ≠ (.slice Ao29 t369.length co29 : Value).ownBlock)) (n := t374.length) (c := co30) ?_).2.2; exact (by (with_reducible repeat (first | apply z8l | apply z9l | apply y1l)); exact (x6l (x1l (p := ⟨gb365, 6, none⟩) (x1l (p := ⟨gb365, 5, none⟩) (x1l (p := ⟨gb365, 4, none⟩) (x1l (p := ⟨gb365, 3, none⟩) (x1l (p := ⟨gb365, 2, none⟩) (x1l (p := ⟨gb365, 1, none⟩) (x1l (p := ⟨gb365, 0, none⟩) (x7l HO376.out BK365.out (by decide)) (fun _ hk => hk.2) (.int .i64 t367)) (fun _ hk => hk.2) (.int .i64 t368)) (fun _ hk => hk.2) (.slice Ao29 t369.length co29)) (fun _ hk => hk.2) (.int .i64 t372)) (fun _ hk => hk.2) (.int .i64 t373)) (fun _ hk => hk.2) (.slice Ao30 t374.length co30)) (fun _ hk => hk.2) (.slice Ao31 t377.length co31)) (fun _ h_ => h_.1)))); (case side4 => exact (x5l HO376.out).2.1); (case side5 => refine (Kd.S_reads' (e := 27) (base := w.heap.size) (ok := fun k_ => ((w.heap.size ≤ k_) ∧ (some k_ ≠ (.slice Ao29 t369.length co29 : Value).ownBlock ∧ some k_ ≠ (.slice Ao30 t374.length co30 : Value).ownBlock))) (n := t377.length) (c := co31) ?_).2.2; exact (by (with_reducible repeat (first | apply Kd.S_alloc | apply Kd.S_drewN | apply Kd.S_drew)); exact (Kd.S_mono (Kd.S_far (p := ⟨gb365, 6, none⟩) (Kd.S_far (p := ⟨gb365, 5, none⟩) (Kd.S_far (p := ⟨gb365, 4, none⟩) (Kd.S_far (p := ⟨gb365, 3, none⟩) (Kd.S_far (p := ⟨gb365, 2, none⟩) (Kd.S_far (p := ⟨gb365, 1, none⟩) (Kd.S_far (p := ⟨gb365, 0, none⟩) (Kd.S_types HO379.out BK365.out (by decide)) (fun _ hk => hk.2) (.int .i64 t367)) (fun _ hk => hk.2) (.int .i64 t368)) (fun _ hk => hk.2) (.slice Ao29 t369.length co29)) (fun _ hk => hk.2) (.int .i64 t372)) (fun _ hk => hk.2) (.int .i64 t373)) (fun _ hk => hk.2) (.slice Ao30 t374.length co30)) (fun _ hk => hk.2) (.slice Ao31 t377.length co31)) (fun _ h_ => h_.1)))); (case side6 => exact (Kd.S_reads' HO379.out).2.1); rintro e w32 ⟨rfl, hb⟩; refine ⟨_, rfl, ?_⟩; have n_ := a6 (x4l (by (with_reducible repeat (first | apply z8l | apply z9l | apply y1l)); exact (x6l (x1l (p := ⟨gb365, 6, none⟩) (x1l (p := ⟨gb365, 5, none⟩) (x1l (p := ⟨gb365, 4, none⟩) (x1l (p := ⟨gb365, 3, none⟩) (x1l (p := ⟨gb365, 2, none⟩) (x1l (p := ⟨gb365, 1, none⟩) (x1l (p := ⟨gb365, 0, none⟩) (x7l HO371.out BK365.out (by decide)) (fun _ hk => hk.2) (.int .i64 t367)) (fun _ hk => hk.2) (.int .i64 t368)) (fun _ hk => hk.2) (.slice Ao29 t369.length co29)) (fun _ hk => hk.2) (.int .i64 t372)) (fun _ hk => hk.2) (.int .i64 t373)) (fun _ hk => hk.2) (.slice Ao30 t374.length co30)) (fun _ hk => hk.2) (.slice Ao31 t377.length co31)) (fun _ h_ => h_.1))) hb) (x4l (by (with_reducible repeat (first | apply z8l | apply z9l | apply y1l)); exact (x6l (x1l (p := ⟨gb365, 6, none⟩) (x1l (p := ⟨gb365, 5, none⟩) (x1l (p := ⟨gb365, 4, none⟩) (x1l (p := ⟨gb365, 3, none⟩) (x1l (p := ⟨gb365, 2, none⟩) (x1l (p := ⟨gb365, 1, none⟩) (x1l (p := ⟨gb365, 0, none⟩) (x7l HO376.out BK365.out (by decide)) (fun _ hk => hk.2) (.int .i64 t367)) (fun _ hk => hk.2) (.int .i64 t368)) (fun _ hk => hk.2) (.slice Ao29 t369.length co29)) (fun _ hk => hk.2) (.int .i64 t372)) (fun _ hk => hk.2) (.int .i64 t373)) (fun _ hk => hk.2) (.slice Ao30 t374.length co30)) (fun _ hk => hk.2) (.slice Ao31 t377.length co31)) (fun _ h_ => h_.1))) hb) (Kd.S_below (by (with_reducible repeat (first | apply Kd.S_alloc | apply Kd.S_drewN | apply Kd.S_drew)); exact (Kd.S_mono (Kd.S_far (p := ⟨gb365, 6, none⟩) (Kd.S_far (p := ⟨gb365, 5, none⟩) (Kd.S_far (p := ⟨gb365, 4, none⟩) (Kd.S_far (p := ⟨gb365, 3, none⟩) (Kd.S_far (p := ⟨gb365, 2, none⟩) (Kd.S_far (p := ⟨gb365, 1, none⟩) (Kd.S_far (p := ⟨gb365, 0, none⟩) (Kd.S_types HO379.out BK365.out (by decide)) (fun _ hk => hk.2) (.int .i64 t367)) (fun _ hk => hk.2) (.int .i64 t368)) (fun _ hk => hk.2) (.slice Ao29 t369.length co29)) (fun _ hk => hk.2) (.int .i64 t372)) (fun _ hk => hk.2) (.int .i64 t373)) (fun _ hk => hk.2) (.slice Ao30 t374.length co30)) (fun _ hk => hk.2) (.slice Ao31 t377.length co31)) (fun _ h_ => h_.1))) hb) (blk_below (g := gb365) (o := .cells #[.int .i64 t367, .int .i64 t368, .slice Ao29 t369.length co29, .int .i64 t372, .int .i64 t373, .slice Ao30 t374.length co30, .slice Ao31 t377.length co31] 55 (0, 0)) (by (with_reducible repeat (first | refine z1l ?_ _ | refine z3l ?_ | refine z2l ?_ _)); refine blk_put (cs := #[.int .i64 t367, .int .i64 t368, .slice Ao29 t369.length co29, .int .i64 t372, .int .i64 t373, .slice Ao30 t374.length co30, .slice A0_6 l0_6.length c0_6]) ?_ 6 _ rfl; (with_reducible repeat (first | refine z1l ?_ _ | refine z3l ?_ | refine z2l ?_ _)); refine blk_put (cs := #[.int .i64 t367, .int .i64 t368, .slice Ao29 t369.length co29, .int .i64 t372, .int .i64 t373, .slice A0_5 l0_5.length c0_5, .slice A0_6 l0_6.length c0_6]) ?_ 5 _ rfl; (with_reducible repeat (first | refine z1l ?_ _ | refine z3l ?_ | refine z2l ?_ _)); refine blk_put (cs := #[.int .i64 t367, .int .i64 t368, .slice Ao29 t369.length co29, .int .i64 t372, .int .i64 a0_4, .slice A0_5 l0_5.length c0_5, .slice A0_6 l0_6.length c0_6]) ?_ 4 _ rfl; (with_reducible repeat (first | refine z1l ?_ _ | refine z3l ?_ | refine z2l ?_ _)); refine blk_put (cs := #[.int .i64 t367, .int .i64 t368, .slice Ao29 t369.length co29, .int .i64 a0_3, .int .i64 a0_4, .slice A0_5 l0_5.length c0_5, .slice A0_6 l0_6.length c0_6]) ?_ 3 _ rfl; (with_reducible repeat (first | refine z1l ?_ _ | refine z3l ?_ | refine z2l ?_ _)); refine blk_put (cs := #[.int .i64 t367, .int .i64 t368, .slice A0_2 l0_2.length c0_2, .int .i64 a0_3, .int .i64 a0_4, .slice A0_5 l0_5.length c0_5, .slice A0_6 l0_6.length c0_6]) ?_ 2 _ rfl; (with_reducible repeat (first | refine z1l ?_ _ | refine z3l ?_ | refine z2l ?_ _)); refine blk_put (cs := #[.int .i64 t367, .int .i64 a0_1, .slice A0_2 l0_2.length c0_2, .int .i64 a0_3, .int .i64 a0_4, .slice A0_5 l0_5.length c0_5, .slice A0_6 l0_6.length c0_6]) ?_ 1 _ rfl; (with_reducible repeat (first | refine z1l ?_ _ | refine z3l ?_ | refine z2l ?_ _)); refine blk_put (cs := #[.int .i64 a0_0, .int .i64 a0_1, .slice A0_2 l0_2.length c0_2, .int .i64 a0_3, .int .i64 a0_4, .slice A0_5 l0_5.length c0_5, .slice A0_6 l0_6.length c0_6]) ?_ 0 _ rfl; (with_reducible repeat (first | refine z1l ?_ _ | refine z3l ?_ | refine z2l ?_ _)); exact BK365.out) hb) (blk_below (g := gb366) (o := .cells #[.int .i64 0, .int .i64 0, .slice none 0 0, .int .i64 0, .int .i64 0, .slice none 0 0, .slice none 0 0] 55 (0, 0)) (by (with_reducible repeat (first | refine z1l ?_ _ | refine z3l ?_ | refine z2l ?_ _)); refine x8l ?_ NB366_365.out _; (with_reducible repeat (first | refine z1l ?_ _ | refine z3l ?_ | refine z2l ?_ _)); refine x8l ?_ NB366_365.out _; (with_reducible repeat (first | refine z1l ?_ _ | refine z3l ?_ | refine z2l ?_ _)); refine x8l ?_ NB366_365.out _; (with_reducible repeat (first | refine z1l ?_ _ | refine z3l ?_ | refine z2l ?_ _)); refine x8l ?_ NB366_365.out _; (with_reducible repeat (first | refine z1l ?_ _ | refine z3l ?_ | refine z2l ?_ _)); refine x8l ?_ NB366_365.out _; (with_reducible repeat (first | refine z1l ?_ _ | refine z3l ?_ | refine z2l ?_ _)); refine x8l ?_ NB366_365.out _; (with_reducible repeat (first | refine z1l ?_ _ | refine z3l ?_ | refine z2l ?_ _)); refine x8l ?_ NB366_365.out _; (with_reducible repeat (first | refine z1l ?_ _ | refine z3l ?_ | refine z2l ?_ _)); exact BK366.out) hb) (dU HB.out hb); clear HO371 HO376 HO379 BK365 BK366 HB; obtain ⟨HO371, HO376, HO379, BK365, BK366, HB⟩ := n_; (try clear hb)) | ((with_reducible refine gate_callee (f := 25) rfl ?_); refine goesL_ (some 22) rfl rfl Tryz.func25 (by kernel_rfl) rfl #[.string a1, .string (⟨#[32]⟩ : ByteArray)] rfl (by (try simp only [List.map_toArray, List.map_cons, List.map_nil]); first | done | rfl | (simp only [List.length_drop, List.length_take]; rfl)) ?_; (with_reducible refine (strings_Split.calls a1 (⟨#[32]⟩ : ByteArray) t381 _ ?side1 A19.out).mono ?_); (case side1 => exact Ext.Glob.below HGB_.out (dV HB.out)); rintro e w33 ⟨v382, rfl, ho0, hb⟩; refine ⟨_, rfl, ?_⟩; have n_ := a7 (x4l (rV HO371.out) hb) (x4l (rV HO376.out) hb) (Kd.S_below (sV HO379.out) hb) (Kd.R_lower (Kd.R_newM (M := fun k_ => (w.heap.size ≤ k_)) ho0 (y7l (dV HB.out)) (fun k_ h_ => h_)) (y7l (dV HB.out))) (bU BK365.out hb) (bU BK366.out hb) (dU HB.out hb); clear HO371 HO376 HO379 BK365 BK366 HB; obtain ⟨HO371, HO376, HO379, HO383, BK365, BK366, HB⟩ := n_; (try clear hb); (try clear ho0); obtain ⟨Ao34, co34, eo34⟩ := Kd.R_slice HO383.out; subst eo34; have p384 : 0 ≤ (0 : Int) := (by omega); have q384 : 0 < (t381.length : Int) := of_decide_eq_true (by first | (with_reducible assumption) | assumption); obtain ⟨ad384, e384, hx384_0⟩ := Kd.at_string (x5l HO383.out).2.2 0 p384 q384; cases e384; have qi384 : (0 < t381.length) = True := eq_true (by omega); (try rw [show ((0 : Int)).toNat = 0 from rfl] at hx384_0); (try rw [Addr.add_zero'] at hx384_0); replace p384 := eq_true p384; replace q384 := eq_true q384) | ((with_reducible refine gate_dst (N := 33) rfl ?_); refine Kd.R_lit (Kd.int .i64) _ 3 ?hg (N := 33) ?hd (xs := ([] : List Int)) (inner := []) (ok := fun _ => True) (okp := fun _ => True) ?hr ?hp (fun _ hk => hk) trivial (Below.refl _ _) (Nat.le_refl _) (by simp) ?_; (case hd => rfl); (case hg => rfl); (case hr => first | (go_simp; done) | (go_simp; rfl)); (case hp => exact (Reps.none _ _)); intro v386 w35 ho36 hb hg_ hnew_; clear hg_ hnew_; (first | rw [← Ny385.out] at ho36 | (simp only [Int.reduceToNat] at ho36; rw [← Ny385.out] at ho36)); have n_ := a8 (Kd.R_elder' (rV HO371.out) (Kd.R_base ho36) hb) (Kd.R_elder' (rV HO376.out) (Kd.R_base ho36) hb) (Kd.S_elder' (sV HO379.out) (Kd.R_base ho36) hb) (x4l (rV HO383.out) hb) (Kd.R_lower (Kd.R_new' (Kd.R_new' (Kd.R_newM (M := fun k_ => (w.heap.size ≤ k_)) ho36 (y7l (dV HB.out)) (fun k_ h_ => h_)) (Kd.R_lt (rV HO371.out))) (Kd.R_lt (rV HO376.out))) (y7l (dV HB.out))) (bU BK365.out hb) (bU BK366.out hb) (dU HB.out hb); clear HO371 HO376 HO379 HO383 BK365 BK366 HB; obtain ⟨HO371, HO376, HO379, HO383, HO387, BK365, BK366, HB⟩ := n_; clear hb ho36; have q37 : (1 : Int) ≤ ((t381.length : Int) : Int) := of_decide_eq_true (by first | (with_reducible assumption) | assumption); obtain ⟨i037, hi037, _, hsz37, _⟩ := info_parts info9; have hroom37 : t381.length ≤ co34 := (x5l HO383.out).2.1; have hC37 : Kd.C Kd.string _ (some ad384) t381.length t381 := (x5l HO383.out).2.2; have hcut37 := cut_from (P := Tryz.prog) 50 9 .i64 Tryz.underlying50 hi037 1 hsz37 (some ad384) t381.length co34 1 (by omega) q37; have hr37 := Kd.C_drop (m := (1 : Int).toNat) (c := co34) hC37 (by omega) hroom37; obtain ⟨A37, hA37⟩ : ∃ A1, A1 = (if co34 = (1 : Int).toNat then (some ad384) else ((some ad384) : Option Addr).map (·.add ((1 : Int).toNat * 1))) := ⟨_, rfl⟩; obtain ⟨c37, hc37⟩ : ∃ c1, c1 = co34 - (1 : Int).toNat := ⟨_, rfl⟩; have hy37 : y388.length = t381.length - (1 : Int).toNat := (by rw [Ny388.out, List.length_drop] <;> omega); rw [show (t381).drop (1 : Int).toNat = y388 from Ny388.out.symm] at hr37; replace hr37 : Kd.C Kd.string _ A37 y388.length y388 := (by rw [hA37]; exact hr37); rw [← hy37, ← hA37, ← hc37] at hcut37; have HR391 := z0l hr37; have HC391 := z0l (show y388.length ≤ c37 from by rw [hy37, hc37]; exact Nat.sub_le_sub_right hroom37 _); clear hr37 hC37 hroom37 hi037 hsz37 hc37; have KY37 := z0l hy37; have KA37 := z0l hA37; clear hy37 hA37; have KL37 := z0l (show 1 ≤ t381.length from by omega); replace q37 := eq_true q37))
      go_loopg [7, 37] k (fun kq v7 v37 w' => ∃ (x7_1 : List Int) (x37_1 : Int) (x367000_1 : Int) (x367001_1 : Int) (x367003_1 : Int) (x367004_1 : Int), v37 = .int .i64 x37_1 ∧ Aside0 (impl_RunLine.l0 kq t381 x7_1 y388 (y388.length : Int) x37_1 t367 t368 t369 t372 t373 t374 t377 = some (r1, r2, r3, r4, r5, r6, r7, r8)) ∧ Aside0 (kq ≤ k) ∧ Aside0 (Kd.R Kd.string 9 w' w.heap.size (fun k_ => (w.heap.size ≤ k_)) (.slice (some ad384) t381.length co34) t381) ∧ Aside0 (Kd.R (Kd.int .i64) 3 w' w.heap.size (fun k_ => (w.heap.size ≤ k_) ∧ some k_ ≠ ((.slice Ao29 t369.length co29) : Value).ownBlock ∧ some k_ ≠ ((.slice Ao30 t374.length co30) : Value).ownBlock) v7 x7_1) ∧ Aside0 (Kd.R (Kd.int .i64) 3 w' w.heap.size (fun k_ => (w.heap.size ≤ k_) ∧ some k_ ≠ (v7 : Value).ownBlock ∧ some k_ ≠ ((.slice Ao30 t374.length co30) : Value).ownBlock) (.slice Ao29 t369.length co29) t369) ∧ Aside0 (Kd.R (Kd.int .i64) 3 w' w.heap.size (fun k_ => (w.heap.size ≤ k_) ∧ some k_ ≠ (v7 : Value).ownBlock ∧ some k_ ≠ ((.slice Ao29 t369.length co29) : Value).ownBlock) (.slice Ao30 t374.length co30) t374) ∧ Aside0 (Kd.S k27 27 w' w.heap.size (fun k_ => (w.heap.size ≤ k_) ∧ some k_ ≠ (v7 : Value).ownBlock ∧ some k_ ≠ ((.slice Ao29 t369.length co29) : Value).ownBlock ∧ some k_ ≠ ((.slice Ao30 t374.length co30) : Value).ownBlock) (.slice Ao31 t377.length co31) t377) ∧ Aside0 (w'.heap[gb365]? = some (.cells #[.int .i64 t367, .int .i64 t368, (.slice Ao29 t369.length co29), .int .i64 t372, .int .i64 t373, (.slice Ao30 t374.length co30), (.slice Ao31 t377.length co31)] 55 (0, 0))) ∧ Aside0 (w'.heap[gb366]? = some (.cells #[.int .i64 x367000_1, .int .i64 x367001_1, (.slice none 0 0), .int .i64 x367003_1, .int .i64 x367004_1, (.slice none 0 0), (.slice none 0 0)] 55 (0, 0))) ∧ Aside0 (Below w.heap.size w w'))
      case atStart => exact ⟨(y385), (0), (0), (0), (0), (0), (by first | rfl | (simp; done) | (simp [*]; done)), H', ⟨Nat.le_refl _⟩, ⟨by (with_reducible repeat (first | apply z8l | apply z9l | apply y1l)); exact x6l HO383.out (fun _ hk => hk.1)⟩, ⟨by (with_reducible repeat (first | apply z8l | apply z9l | apply y1l)); exact x6l HO387.out (fun _ hk => ⟨hk.1.1.1, ⟨hk.1.2, hk.2⟩⟩)⟩, ⟨by (with_reducible repeat (first | apply z8l | apply z9l | apply y1l)); exact x6l HO371.out (fun _ hk => ⟨hk.1.1, ⟨hk.2, hk.1.2⟩⟩)⟩, ⟨by (with_reducible repeat (first | apply z8l | apply z9l | apply y1l)); exact x6l HO376.out (fun _ hk => ⟨hk.1.1, ⟨hk.2, hk.1.2⟩⟩)⟩, ⟨by (with_reducible repeat (first | apply Kd.S_alloc | apply Kd.S_drewN | apply Kd.S_drew)); exact Kd.S_mono HO379.out (fun _ hk => ⟨hk.1.1, ⟨hk.2, ⟨hk.1.2.1, hk.1.2.2⟩⟩⟩)⟩, ⟨by (with_reducible repeat (first | refine z1l ?_ _ | refine z3l ?_ | refine z2l ?_ _)); exact BK365.out⟩, ⟨by (with_reducible repeat (first | refine z1l ?_ _ | refine z3l ?_ | refine z2l ?_ _)); exact BK366.out⟩, ⟨dV HB.out⟩⟩
      case round =>
       clear H'
       try clear c1
       try clear c2
       try clear p2
       try clear c3
       try clear p3
       try clear q3
       try clear hx3
       try clear qi3
       try clear c5
       try clear c6
       try clear c6b0
       try clear c6b1
       try clear c9
       try clear c20
       try clear c20b0
       try clear c20b1
       try clear c21
       try clear c21b0
       try clear c21b1
       try clear c22
       try clear c22b0
       try clear c22b1
       try clear c25
       try clear c28
       try clear c37
       try clear q37
       try clear hcz10_0
       try clear hcz10_1
       try clear hcz10_2
       try clear hcz10_3
       try clear hcz10_4
       try clear hcz10_5
       try clear hcz10_6
       try clear hcz12_0
       try clear hcz12_1
       try clear hcz12_2
       try clear hcz12_3
       try clear hcz12_4
       try clear hcz12_5
       try clear hcz12_6
       try clear hcz17_0
       try clear hcz17_1
       try clear hcz17_2
       try clear hcz17_3
       try clear hcz17_4
       try clear hcz17_5
       try clear hcz17_6
       try clear hcz18_0
       try clear hcz18_1
       try clear hcz18_2
       try clear hcz18_3
       try clear hcz18_4
       try clear hcz18_5
       try clear hcz18_6
       try clear hcz26_0
       try clear hcz26_1
       try clear hcz26_2
       try clear hcz26_3
       try clear hcz26_4
       try clear hcz26_5
       try clear hcz26_6
       try clear hcz28_0
       try clear hcz28_1
       try clear hcz28_2
       try clear hcz28_3
       try clear hcz28_4
       try clear hcz28_5
       try clear hcz28_6
       try clear hfz10_0
       try clear hfz10_1
       try clear hfz10_2
       try clear hfz10_3
       try clear hfz10_4
       try clear hfz10_5
       try clear hfz10_6
       try clear hfz12_0
       try clear hfz12_1
       try clear hfz12_2
       try clear hfz12_3
       try clear hfz12_4
       try clear hfz12_5
       try clear hfz12_6
       try clear hfz17_0
       try clear hfz17_1
       try clear hfz17_2
       try clear hfz17_3
       try clear hfz17_4
       try clear hfz17_5
       try clear hfz17_6
       try clear hfz18_0
       try clear hfz18_1
       try clear hfz18_2
       try clear hfz18_3
       try clear hfz18_4
       try clear hfz18_5
       try clear hfz18_6
       try clear hfz26_0
       try clear hfz26_1
       try clear hfz26_2
       try clear hfz26_3
       try clear hfz26_4
       try clear hfz26_5
       try clear hfz26_6
       try clear hfz28_0
       try clear hfz28_1
       try clear hfz28_2
       try clear hfz28_3
       try clear hfz28_4
       try clear hfz28_5
       try clear hfz28_6
       try clear hx384_0
       try clear p384
       try clear q37
       try clear q384
       obtain ⟨x7_1, x37_1, x367000_1, x367001_1, x367003_1, x367004_1, rfl, HA, HK1, HO_6, HO_7, Ha_, Hb_, Hc_, BK365, BK366, HB⟩ := hrel
       cases gk with
       | zero => exact absurd HA.out (by simp [impl_RunLine.l0])
       | succ k1 =>
        have H := HA.out
        clear HA
        simp only [impl_RunLine.l0] at H
        by_cases c38 : x37_1 < (y388.length : Int)
        ·rw [if_pos c38] at H
         have c38b0 : decide (x37_1 < (y388.length : Int)) = true := decide_eq_true c38
         clear c38
         by_cases c39 : 0 ≤ x37_1
         ·rw [if_pos c39] at H
          have c39b0 : decide (0 ≤ x37_1) = true := decide_eq_true c39
          clear c39
          by_cases c40 : x37_1 < (y388.length : Int)
          ·rw [if_pos c40] at H
           have c40b0 : decide (x37_1 < (y388.length : Int)) = true := decide_eq_true c40
           clear c40
           replace H := Option.bind_eq_some_iff.mp H
           obtain ⟨⟨t393, t394⟩, A410, H⟩ := H
           (try dsimp only at H)
           have A41 := z0l A410
           clear A410
           by_cases c42 : t394 = true
           ·subst c42
            rw [if_pos rfl] at H
            by_cases c43 : x7_1.length < 17592186044416
            ·rw [if_pos c43] at H
             have LMc43 := z0l c43
             clear c43
             obtain ⟨y395, hy395⟩ : ∃ y_ : List Int, y_ = (x7_1 ++ [t393]) := ⟨_, rfl⟩
             replace H : (impl_RunLine.l0 k1 t381 y395 y388 (y388.length : Int) (wrap64 (x37_1 + 1)) t367 t368 t369 t372 t373 t374 t377) = some (r1, r2, r3, r4, r5, r6, r7, r8) := by first | (rw [hy395]; with_reducible exact H) | (have H2_ := (Option.bind_some _ _).symm.trans H; rw [hy395]; with_reducible exact H2_) | (have H2_ := (Option.bind_some _ _).symm.trans H; with_reducible exact H2_) | with_reducible exact H | (rw [hy395]; exact H) | exact H
             have Ny395 := z0l hy395
             clear hy395
             have H' := z0l H
             clear H
             have p392 : 0 ≤ (x37_1 : Int) := of_decide_eq_true (by first | (with_reducible assumption) | assumption)
             have q392 : x37_1 < (y388.length : Int) := of_decide_eq_true (by first | (with_reducible assumption) | assumption)
             have hr_cut := Kd.C_drop (m := (1 : Int).toNat) (c := co34) (x5l HO_6.out).2.2 (by have := KL37.out; omega) (x5l HO_6.out).2.1
             rw [show (t381).drop (1 : Int).toNat = y388 from Ny388.out.symm] at hr_cut
             have HRC_ : Kd.C Kd.string _ A37 y388.length y388 := (by rw [KA37.out]; exact hr_cut)
             obtain ⟨ad392, e392, hx392_0⟩ := Kd.at_string HRC_ x37_1 p392 q392
             cases e392
             replace p392 := eq_true p392
             replace q392 := eq_true q392
             go_wp2_with (first | ((with_reducible refine gate_callee (f := 40) rfl ?_); refine goesL_ (some 43) rfl rfl Tryz.func40 (by kernel_rfl) rfl #[.string (rdOf ByteArray.empty y388 x37_1)] rfl (by (try simp only [List.map_toArray, List.map_cons, List.map_nil]); first | done | rfl | (simp only [List.length_drop, List.length_take]; rfl)) ?_; (with_reducible refine (impl_number.calls (rdOf ByteArray.empty y388 x37_1) t393 true _ ?side1 A41.out).mono ?_); (case side1 => exact Ext.Glob.below HGB_.out (dV HB.out)); rintro e w44 ⟨rfl, hb⟩; refine ⟨_, rfl, ?_⟩; have n_ := a8 (x4l (rV HO_6.out) hb) (x4l (rV HO_7.out) hb) (x4l (rV Ha_.out) hb) (x4l (rV Hb_.out) hb) (Kd.S_below (sV Hc_.out) hb) (bU BK365.out hb) (bU BK366.out hb) (dU HB.out hb); clear HO_6 HO_7 Ha_ Hb_ Hc_ BK365 BK366 HB; obtain ⟨HO_6, HO_7, Ha_, Hb_, Hc_, BK365, BK366, HB⟩ := n_; (try clear hb)) | ((with_reducible refine gate_builtin (b := .append) (xs := #[.tmp 49, .tmp 51]) rfl ?_); at_builtin; refine Kd.R_append (Kd.int .i64) (w0 := w) w.heap.size rfl (.tmp 49) (.tmp 51) 25 3 (.int .i64 0) 8 rfl Tryz.underlying25 info3 rfl (by decide) (by omega) u7 x7_1 t393 [.int .i64 t393] (fun k_ => (w.heap.size ≤ k_) ∧ some k_ ≠ (.slice Ao29 t369.length co29 : Value).ownBlock ∧ some k_ ≠ (.slice Ao30 t374.length co30 : Value).ownBlock) (fun _ => False) rfl rfl ?aP (fun _ hk => hk.elim) ?aF ?aO ?aB ?aS ?aL ?_; (case aP => exact rfl); (case aB => exact (dV HB.out)); (case aF => exact (fun k_ hk => ⟨(Nat.le_trans (y7l (dV HB.out)) hk), Kd.fresh' (Kd.R_lt (rV Ha_.out)) k_ hk, Kd.fresh' (Kd.R_lt (rV Hb_.out)) k_ hk⟩)); (case aO => exact (rV HO_7.out)); (case aS => exact (y7l (dV HB.out))); (case aL => have := LMc43.out; omega); intro v396 w45 ho hb hg hat; rw [← Ny395.out] at ho; have n_ := a8 (Kd.R_over' (rV HO_6.out) (Kd.R_typed (rV HO_7.out)) (by decide) hg) (Kd.R_after (ok := (fun k_ => (w.heap.size ≤ k_) ∧ some k_ ≠ (.slice Ao30 t374.length co30 : Value).ownBlock)) (by (with_reducible repeat (first | apply z8l | apply z9l | apply y1l)); exact x6l Ha_.out (fun _ hk => ⟨⟨hk.1, hk.2.2⟩, hk.2.1⟩)) hg hat) (Kd.R_after (ok := (fun k_ => (w.heap.size ≤ k_) ∧ some k_ ≠ (.slice Ao29 t369.length co29 : Value).ownBlock)) (by (with_reducible repeat (first | apply z8l | apply z9l | apply y1l)); exact x6l Hb_.out (fun _ hk => ⟨⟨hk.1, hk.2.2⟩, hk.2.1⟩)) hg hat) (Kd.S_after (ok := (fun k_ => (w.heap.size ≤ k_) ∧ some k_ ≠ (.slice Ao29 t369.length co29 : Value).ownBlock ∧ some k_ ≠ (.slice Ao30 t374.length co30 : Value).ownBlock)) (by (with_reducible repeat (first | apply Kd.S_alloc | apply Kd.S_drewN | apply Kd.S_drew)); exact Kd.S_mono Hc_.out (fun _ hk => ⟨⟨hk.1, ⟨hk.2.2.1, hk.2.2.2⟩⟩, hk.2.1⟩)) hg hat) (blk_grown (bV BK365.out) hg (x9l HO_7.out BK365.out (by decide))) (blk_grown (bV BK366.out) hg (x9l HO_7.out BK366.out (by decide))) (hb) (ho); clear HO_6 Ha_ Hb_ Hc_ BK365 BK366 HB HO_7; obtain ⟨HO_6, Ha_, Hb_, Hc_, BK365, BK366, HB, HO397⟩ := n_; clear ho hb hg hat))
             go_roundg k1
             case measure => have := HK1.out; omega
             case rel => exact ⟨(y395), (wrap64 (x37_1 + 1)), (x367000_1), (x367001_1), (x367003_1), (x367004_1), (by first | rfl | (simp; done) | (simp [*]; done)), H', ⟨by have := HK1.out; omega⟩, ⟨by (with_reducible repeat (first | apply z8l | apply z9l | apply y1l)); exact HO_6.out⟩, ⟨by (with_reducible repeat (first | apply z8l | apply z9l | apply y1l)); exact HO397.out⟩, ⟨by (with_reducible repeat (first | apply z8l | apply z9l | apply y1l)); exact x6l Ha_.out (fun _ hk => ⟨hk.1.1, ⟨hk.2, hk.1.2⟩⟩)⟩, ⟨by (with_reducible repeat (first | apply z8l | apply z9l | apply y1l)); exact x6l Hb_.out (fun _ hk => ⟨hk.1.1, ⟨hk.2, hk.1.2⟩⟩)⟩, ⟨by (with_reducible repeat (first | apply Kd.S_alloc | apply Kd.S_drewN | apply Kd.S_drew)); exact Kd.S_mono Hc_.out (fun _ hk => ⟨hk.1.1, ⟨hk.2, ⟨hk.1.2.1, hk.1.2.2⟩⟩⟩)⟩, ⟨by (with_reducible repeat (first | refine z1l ?_ _ | refine z3l ?_ | refine z2l ?_ _)); exact BK365.out⟩, ⟨by (with_reducible repeat (first | refine z1l ?_ _ | refine z3l ?_ | refine z2l ?_ _)); exact BK366.out⟩, ⟨dV HB.out⟩⟩
            ·rw [if_neg c43] at H
             exact absurd H (by simp)
           ·replace c42 := Bool.eq_false_iff.mpr c42
            subst c42
            rw [if_neg (show ¬ (false = true) by decide)] at H
            exact absurd H (by simp)
          ·rw [if_neg c40] at H
           exact absurd H (by simp)
         ·rw [if_neg c39] at H
          exact absurd H (by simp)
        ·rw [if_neg c38] at H
         have c38b0 : decide (x37_1 < (y388.length : Int)) = false := decide_eq_false c38
         clear c38
         by_cases c46 : 0 < (t381.length : Int)
         ·rw [if_pos c46] at H
          have c46b0 : decide (0 < (t381.length : Int)) = true := decide_eq_true c46
          have c46b1 : decide (0 < t381.length) = true := decide_eq_true (by omega)
          clear c46
          have HC47 := z0l H
          clear H
          have p398 : 0 ≤ (0 : Int) := (by omega)
          have q398 : 0 < (t381.length : Int) := of_decide_eq_true (by first | (with_reducible assumption) | assumption)
          obtain ⟨ad398, e398, hx398_0⟩ := Kd.at_string (x5l HO_6.out).2.2 0 p398 q398
          obtain rfl : ad384 = ad398 := (by injection e398)
          have qi398 : (0 < t381.length) = True := eq_true (by omega)
          (try rw [show ((0 : Int)).toNat = 0 from rfl] at hx398_0)
          (try rw [Addr.add_zero'] at hx398_0)
          replace p398 := eq_true p398
          replace q398 := eq_true q398
          go_upto_if 57 with (fail)
          go_cut [57] (fun v57 wc => ∃ (kq : Nat) (x57_46 : Bool), v57 = .bool x57_46 ∧ Aside0 (impl_RunLine.j1 kq t381 x7_1 x57_46 t367 t368 t369 t372 t373 t374 t377 = some (r1, r2, r3, r4, r5, r6, r7, r8)) ∧ Aside0 (kq ≤ k1) ∧ Aside0 (Kd.R Kd.string 9 wc w.heap.size (fun k_ => (w.heap.size ≤ k_)) (.slice (some ad384) t381.length co34) t381) ∧ Aside0 (Kd.R (Kd.int .i64) 3 wc w.heap.size (fun k_ => (w.heap.size ≤ k_) ∧ some k_ ≠ ((.slice Ao29 t369.length co29) : Value).ownBlock ∧ some k_ ≠ ((.slice Ao30 t374.length co30) : Value).ownBlock) u7 x7_1) ∧ Aside0 (Kd.R (Kd.int .i64) 3 wc w.heap.size (fun k_ => (w.heap.size ≤ k_) ∧ some k_ ≠ (u7 : Value).ownBlock ∧ some k_ ≠ ((.slice Ao30 t374.length co30) : Value).ownBlock) (.slice Ao29 t369.length co29) t369) ∧ Aside0 (Kd.R (Kd.int .i64) 3 wc w.heap.size (fun k_ => (w.heap.size ≤ k_) ∧ some k_ ≠ (u7 : Value).ownBlock ∧ some k_ ≠ ((.slice Ao29 t369.length co29) : Value).ownBlock) (.slice Ao30 t374.length co30) t374) ∧ Aside0 (Kd.S k27 27 wc w.heap.size (fun k_ => (w.heap.size ≤ k_) ∧ some k_ ≠ (u7 : Value).ownBlock ∧ some k_ ≠ ((.slice Ao29 t369.length co29) : Value).ownBlock ∧ some k_ ≠ ((.slice Ao30 t374.length co30) : Value).ownBlock) (.slice Ao31 t377.length co31) t377) ∧ Aside0 (wc.heap[gb365]? = some (.cells #[.int .i64 t367, .int .i64 t368, (.slice Ao29 t369.length co29), .int .i64 t372, .int .i64 t373, (.slice Ao30 t374.length co30), (.slice Ao31 t377.length co31)] 55 (0, 0))) ∧ Aside0 (wc.heap[gb366]? = some (.cells #[.int .i64 x367000_1, .int .i64 x367001_1, (.slice none 0 0), .int .i64 x367003_1, .int .i64 x367004_1, (.slice none 0 0), (.slice none 0 0)] 55 (0, 0))) ∧ Aside0 (Below w.heap.size w wc))
          case first =>
           have H := HC47.out
           clear HC47
           by_cases c48 : (rdOf ByteArray.empty t381 0).toList = ([102, 108, 97, 116] : List UInt8)
           ·rw [if_pos c48] at H
            exact absurd H (by simp)
           ·rw [if_neg c48] at H
            have c48b0 : ((rdOf ByteArray.empty t381 0).toList == ([102, 108, 97, 116] : List UInt8)) = false := beq_eq_false_iff_ne.mpr c48
            have c48b1 : ((rdOf ByteArray.empty t381 0).toList != ([102, 108, 97, 116] : List UInt8)) = true := bne_iff_ne.mpr c48
            (first | rw [c48b0] | (simp only [i64_w, i32_w]; rw [c48b0]) | skip)
            by_cases c49 : (rdOf ByteArray.empty t381 0).toList = ([114, 97, 109, 112] : List UInt8)
            ·rw [if_pos c49] at H
             have c49b0 : ((rdOf ByteArray.empty t381 0).toList == ([114, 97, 109, 112] : List UInt8)) = true := beq_iff_eq.mpr c49
             have c49b1 : ((rdOf ByteArray.empty t381 0).toList != ([114, 97, 109, 112] : List UInt8)) = false := bne_eq_false_iff_eq.mpr c49
             clear c49
             have H' := z0l H
             clear H
             go_wp2
             go_meet
             case rel => exact ⟨_, (((rdOf ByteArray.empty t381 0).toList == ([114, 97, 109, 112] : List UInt8))), (by first | rfl | (simp; done) | (simp [*]; done)), H', ⟨by have := HK1.out; first | omega | exact Nat.le_refl _⟩, ⟨by (with_reducible repeat (first | apply z8l | apply z9l | apply y1l)); exact HO_6.out⟩, ⟨by (with_reducible repeat (first | apply z8l | apply z9l | apply y1l)); exact HO_7.out⟩, ⟨by (with_reducible repeat (first | apply z8l | apply z9l | apply y1l)); exact Ha_.out⟩, ⟨by (with_reducible repeat (first | apply z8l | apply z9l | apply y1l)); exact Hb_.out⟩, ⟨by (with_reducible repeat (first | apply Kd.S_alloc | apply Kd.S_drewN | apply Kd.S_drew)); exact Hc_.out⟩, ⟨by (with_reducible repeat (first | refine z1l ?_ _ | refine z3l ?_ | refine z2l ?_ _)); exact BK365.out⟩, ⟨by (with_reducible repeat (first | refine z1l ?_ _ | refine z3l ?_ | refine z2l ?_ _)); exact BK366.out⟩, ⟨dV HB.out⟩⟩
            ·rw [if_neg c49] at H
             have c49b0 : ((rdOf ByteArray.empty t381 0).toList == ([114, 97, 109, 112] : List UInt8)) = false := beq_eq_false_iff_ne.mpr c49
             have c49b1 : ((rdOf ByteArray.empty t381 0).toList != ([114, 97, 109, 112] : List UInt8)) = true := bne_iff_ne.mpr c49
             by_cases c50 : (rdOf ByteArray.empty t381 0).toList = ([98, 97, 121, 101, 114] : List UInt8)
             ·rw [if_pos c50] at H
              have c50b0 : ((rdOf ByteArray.empty t381 0).toList == ([98, 97, 121, 101, 114] : List UInt8)) = true := beq_iff_eq.mpr c50
              have c50b1 : ((rdOf ByteArray.empty t381 0).toList != ([98, 97, 121, 101, 114] : List UInt8)) = false := bne_eq_false_iff_eq.mpr c50
              clear c50
              have H' := z0l H
              clear H
              go_wp2
              go_meet
              case rel => exact ⟨_, (((rdOf ByteArray.empty t381 0).toList == ([98, 97, 121, 101, 114] : List UInt8))), (by first | rfl | (simp; done) | (simp [*]; done)), H', ⟨by have := HK1.out; first | omega | exact Nat.le_refl _⟩, ⟨by (with_reducible repeat (first | apply z8l | apply z9l | apply y1l)); exact HO_6.out⟩, ⟨by (with_reducible repeat (first | apply z8l | apply z9l | apply y1l)); exact HO_7.out⟩, ⟨by (with_reducible repeat (first | apply z8l | apply z9l | apply y1l)); exact Ha_.out⟩, ⟨by (with_reducible repeat (first | apply z8l | apply z9l | apply y1l)); exact Hb_.out⟩, ⟨by (with_reducible repeat (first | apply Kd.S_alloc | apply Kd.S_drewN | apply Kd.S_drew)); exact Hc_.out⟩, ⟨by (with_reducible repeat (first | refine z1l ?_ _ | refine z3l ?_ | refine z2l ?_ _)); exact BK365.out⟩, ⟨by (with_reducible repeat (first | refine z1l ?_ _ | refine z3l ?_ | refine z2l ?_ _)); exact BK366.out⟩, ⟨dV HB.out⟩⟩
             ·rw [if_neg c50] at H
              have c50b0 : ((rdOf ByteArray.empty t381 0).toList == ([98, 97, 121, 101, 114] : List UInt8)) = false := beq_eq_false_iff_ne.mpr c50
              have c50b1 : ((rdOf ByteArray.empty t381 0).toList != ([98, 97, 121, 101, 114] : List UInt8)) = true := bne_iff_ne.mpr c50
              by_cases c51 : (rdOf ByteArray.empty t381 0).toList = ([115, 112, 105, 114, 97, 108] : List UInt8)
              ·rw [if_pos c51] at H
               exact absurd H (by simp)
              ·rw [if_neg c51] at H
               have c51b0 : ((rdOf ByteArray.empty t381 0).toList == ([115, 112, 105, 114, 97, 108] : List UInt8)) = false := beq_eq_false_iff_ne.mpr c51
               have c51b1 : ((rdOf ByteArray.empty t381 0).toList != ([115, 112, 105, 114, 97, 108] : List UInt8)) = true := bne_iff_ne.mpr c51
               by_cases c52 : (rdOf ByteArray.empty t381 0).toList = ([115, 112, 111, 116] : List UInt8)
               ·rw [if_pos c52] at H
                exact absurd H (by simp)
               ·rw [if_neg c52] at H
                have c52b0 : ((rdOf ByteArray.empty t381 0).toList == ([115, 112, 111, 116] : List UInt8)) = false := beq_eq_false_iff_ne.mpr c52
                have c52b1 : ((rdOf ByteArray.empty t381 0).toList != ([115, 112, 111, 116] : List UInt8)) = true := bne_iff_ne.mpr c52
                by_cases c53 : (rdOf ByteArray.empty t381 0).toList = ([115, 104, 105, 102, 116] : List UInt8)
                ·rw [if_pos c53] at H
                 exact absurd H (by simp)
                ·rw [if_neg c53] at H
                 have c53b0 : ((rdOf ByteArray.empty t381 0).toList == ([115, 104, 105, 102, 116] : List UInt8)) = false := beq_eq_false_iff_ne.mpr c53
                 have c53b1 : ((rdOf ByteArray.empty t381 0).toList != ([115, 104, 105, 102, 116] : List UInt8)) = true := bne_iff_ne.mpr c53
                 by_cases c54 : (rdOf ByteArray.empty t381 0).toList = ([114, 97, 110, 107] : List UInt8)
                 ·rw [if_pos c54] at H
                  exact absurd H (by simp)
                 ·rw [if_neg c54] at H
                  have c54b0 : ((rdOf ByteArray.empty t381 0).toList == ([114, 97, 110, 107] : List UInt8)) = false := beq_eq_false_iff_ne.mpr c54
                  have c54b1 : ((rdOf ByteArray.empty t381 0).toList != ([114, 97, 110, 107] : List UInt8)) = true := bne_iff_ne.mpr c54
                  have H' := z0l H
                  clear H
                  go_wp2
                  go_meet
                  case rel => exact ⟨_, (((rdOf ByteArray.empty t381 0).toList == ([108, 101, 118, 101, 108] : List UInt8))), (by first | rfl | (simp; done) | (simp [*]; done)), H', ⟨by have := HK1.out; first | omega | exact Nat.le_refl _⟩, ⟨by (with_reducible repeat (first | apply z8l | apply z9l | apply y1l)); exact HO_6.out⟩, ⟨by (with_reducible repeat (first | apply z8l | apply z9l | apply y1l)); exact HO_7.out⟩, ⟨by (with_reducible repeat (first | apply z8l | apply z9l | apply y1l)); exact Ha_.out⟩, ⟨by (with_reducible repeat (first | apply z8l | apply z9l | apply y1l)); exact Hb_.out⟩, ⟨by (with_reducible repeat (first | apply Kd.S_alloc | apply Kd.S_drewN | apply Kd.S_drew)); exact Hc_.out⟩, ⟨by (with_reducible repeat (first | refine z1l ?_ _ | refine z3l ?_ | refine z2l ?_ _)); exact BK365.out⟩, ⟨by (with_reducible repeat (first | refine z1l ?_ _ | refine z3l ?_ | refine z2l ?_ _)); exact BK366.out⟩, ⟨dV HB.out⟩⟩
          case rest =>
           clear HC47
           try clear c1
           try clear c2
           try clear p2
           try clear c3
           try clear p3
           try clear q3
           try clear hx3
           try clear qi3
           try clear c4
           try clear c5
           try clear c6
           try clear c6b0
           try clear c6b1
           try clear p6
           try clear c9
           try clear c20
           try clear c20b0
           try clear c20b1
           try clear c21
           try clear c21b0
           try clear c21b1
           try clear c22
           try clear c22b0
           try clear c22b1
           try clear c25
           try clear c28
           try clear c37
           try clear q37
           try clear c38
           try clear c38b0
           try clear p38
           try clear q38
           try clear hx38
           try clear qi38
           try clear c39
           try clear c39b0
           try clear p39
           try clear q39
           try clear hx39
           try clear qi39
           try clear c40
           try clear c40b0
           try clear c42
           try clear c43
           try clear c46
           try clear c46b0
           try clear c46b1
           try clear c48
           try clear c48b0
           try clear c48b1
           try clear c49
           try clear c49b0
           try clear c49b1
           try clear c50
           try clear c50b0
           try clear c50b1
           try clear c51
           try clear c51b0
           try clear c51b1
           try clear c52
           try clear c52b0
           try clear c52b1
           try clear c53
           try clear c53b0
           try clear c53b1
           try clear c54
           try clear c54b0
           try clear c54b1
           try clear hcz10_0
           try clear hcz10_1
           try clear hcz10_2
           try clear hcz10_3
           try clear hcz10_4
           try clear hcz10_5
           try clear hcz10_6
           try clear hcz12_0
           try clear hcz12_1
           try clear hcz12_2
           try clear hcz12_3
           try clear hcz12_4
           try clear hcz12_5
           try clear hcz12_6
           try clear hcz17_0
           try clear hcz17_1
           try clear hcz17_2
           try clear hcz17_3
           try clear hcz17_4
           try clear hcz17_5
           try clear hcz17_6
           try clear hcz18_0
           try clear hcz18_1
           try clear hcz18_2
           try clear hcz18_3
           try clear hcz18_4
           try clear hcz18_5
           try clear hcz18_6
           try clear hcz26_0
           try clear hcz26_1
           try clear hcz26_2
           try clear hcz26_3
           try clear hcz26_4
           try clear hcz26_5
           try clear hcz26_6
           try clear hcz28_0
           try clear hcz28_1
           try clear hcz28_2
           try clear hcz28_3
           try clear hcz28_4
           try clear hcz28_5
           try clear hcz28_6
           try clear hfz10_0
           try clear hfz10_1
           try clear hfz10_2
           try clear hfz10_3
           try clear hfz10_4
           try clear hfz10_5
           try clear hfz10_6
           try clear hfz12_0
           try clear hfz12_1
           try clear hfz12_2
           try clear hfz12_3
           try clear hfz12_4
           try clear hfz12_5
           try clear hfz12_6
           try clear hfz17_0
           try clear hfz17_1
           try clear hfz17_2
           try clear hfz17_3
           try clear hfz17_4
           try clear hfz17_5
           try clear hfz17_6
           try clear hfz18_0
           try clear hfz18_1
           try clear hfz18_2
           try clear hfz18_3
           try clear hfz18_4
           try clear hfz18_5
           try clear hfz18_6
           try clear hfz26_0
           try clear hfz26_1
           try clear hfz26_2
           try clear hfz26_3
           try clear hfz26_4
           try clear hfz26_5
           try clear hfz26_6
           try clear hfz28_0
           try clear hfz28_1
           try clear hfz28_2
           try clear hfz28_3
           try clear hfz28_4
           try clear hfz28_5
           try clear hfz28_6
           try clear hx384_0
           try clear hx392_0
           try clear hx398_0
           try clear p2
           try clear p3
           try clear p384
           try clear p392
           try clear p398
           try clear q3
           try clear q37
           try clear q384
           try clear q392
           try clear q398
           obtain ⟨kq, x57_46, rfl, HA, HJ46, HO_6, HO_7, Ha_, Hb_, Hc_, BK365, BK366, HB⟩ := hcut
           cases kq with
           | zero => exact absurd HA.out (by simp [impl_RunLine.j1])
           | succ kj46 =>
            have H := HA.out
            clear HA
            simp only [impl_RunLine.j1] at H
            by_cases c55 : x57_46 = true
            ·subst c55
             rw [if_pos rfl] at H
             by_cases c56 : 0 < (t381.length : Int)
             ·rw [if_pos c56] at H
              have c56b0 : decide (0 < (t381.length : Int)) = true := decide_eq_true c56
              have c56b1 : decide (0 < t381.length) = true := decide_eq_true (by omega)
              clear c56
              replace H := Option.bind_eq_some_iff.mp H
              obtain ⟨⟨t400, t401, t402, t405, t406, t407, t410, t413⟩, A570, H⟩ := H
              (try dsimp only at H)
              have A57 := z0l A570
              clear A570
              simp only [Option.some.injEq, Prod.mk.injEq] at H
              obtain ⟨rfl, rfl, rfl, rfl, rfl, rfl, rfl, rfl⟩ := H
              try go_wp2
              have n_ := a8 (y1l HO_6.out) (y1l HO_7.out) (y1l Ha_.out) (y1l Hb_.out) (Kd.S_drew Hc_.out) (z3l BK365.out) (z3l BK366.out) (below_drew1 HB.out); clear HO_6 HO_7 Ha_ Hb_ Hc_ BK365 BK366 HB; obtain ⟨HO_6, HO_7, Ha_, Hb_, Hc_, BK365, BK366, HB⟩ := n_
              have p399 : 0 ≤ (0 : Int) := (by omega)
              have q399 : 0 < (t381.length : Int) := of_decide_eq_true (by first | (with_reducible assumption) | assumption)
              obtain ⟨ad399, e399, hx399_0⟩ := Kd.at_string (x5l HO_6.out).2.2 0 p399 q399
              obtain rfl : ad384 = ad399 := (by injection e399)
              have qi399 : (0 < t381.length) = True := eq_true (by omega)
              (try rw [show ((0 : Int)).toNat = 0 from rfl] at hx399_0)
              (try rw [Addr.add_zero'] at hx399_0)
              replace p399 := eq_true p399
              replace q399 := eq_true q399
              obtain ⟨Ao59, co59, eo59⟩ := Kd.R_slice HO_7.out
              (first | subst eo59 | (injection eo59 with f1_ f2_ f3_; have f4_ := f1_.symm; have f5_ := f3_.symm; clear f1_ f2_ f3_; subst f4_; subst f5_))
              refine start_ (n := 10) (S := fun w' => w'.cell? ⟨gb365, 0, none⟩ = some (.int .i64 t367) ∧ w'.cell? ⟨gb365, 1, none⟩ = some (.int .i64 t368) ∧ w'.cell? ⟨gb365, 2, none⟩ = some (.slice Ao29 t369.length co29) ∧ w'.cell? ⟨gb365, 3, none⟩ = some (.int .i64 t372) ∧ w'.cell? ⟨gb365, 4, none⟩ = some (.int .i64 t373) ∧ w'.cell? ⟨gb365, 5, none⟩ = some (.slice Ao30 t374.length co30) ∧ w'.cell? ⟨gb365, 6, none⟩ = some (.slice Ao31 t377.length co31) ∧ w'.cell? ad384 = some (.string (rdOf ByteArray.empty t381 0))) (ds := []) (bsl_ 10 0) (by kernel_rfl) rfl rfl ⟨(x3l BK365.out 0).trans rfl, (x3l BK365.out 1).trans rfl, (x3l BK365.out 2).trans rfl, (x3l BK365.out 3).trans rfl, (x3l BK365.out 4).trans rfl, (x3l BK365.out 5).trans rfl, (x3l BK365.out 6).trans rfl, hx399_0⟩ (fun hHeld => ?_); refine with_tabW impl_RunLine.tab27 impl_RunLine.bits27 (fun HT_ HW_ => ?_)
              generalize wc.drew = w58 at HO_6 HO_7 Ha_ Hb_ Hc_ BK365 BK366 HB hx399_0 hHeld ⊢
              refine pz 1 (some 67) ?_ (bsl_ 10 2) rfl rfl HT_.out (by kernel_rfl) (fun _ _ _ h => h) (Or.inl ⟨by rfl, ?_⟩) ?_ ?_ ?_
              rotate_left
              ·intro w'
               go_simp
               with_reducible rfl
              rotate_left
              ·simp only [Act.put, s1l_, s2l_, s3l_, i64_w, i32_w]
               rfl
              refine pz 2 (some 68) ?_ (bsl_ 10 6) rfl rfl HT_.out (by kernel_rfl) (fun _ _ _ h => h) (Or.inl ⟨by rfl, ?_⟩) ?_ ?_ ?_
              rotate_left
              ·intro w'
               go_simp
               with_reducible rfl
              rotate_left
              ·simp only [Act.put, s1l_, s2l_, s3l_, i64_w, i32_w]
               rfl
              refine pz 4 (some 70) ?_ (bsl_ 10 22) rfl rfl HT_.out (by kernel_rfl) (fun _ _ _ h => h) (Or.inl ⟨by rfl, ?_⟩) ?_ ?_ ?_
              rotate_left
              ·intro w'
               go_simp
               with_reducible rfl
              rotate_left
              ·simp only [Act.put, s1l_, s2l_, s3l_, i64_w, i32_w]
               rfl
              refine take_ (i := 0) (N := some 66) (v := ?_) (a' := ?_) (bsl_ 10 23) rfl rfl (take_ofW HT_.out HW_.out (by kernel_rfl)) (fun _ _ _ h => h) (Or.inl ⟨by rfl, ?_⟩) hHeld ?_ ?_
              rotate_left
              ·rintro w' ⟨s0, s1, s2, s3, s4, s5, s6, s7⟩
               go_simp
               with_reducible rfl
              rotate_left
              ·simp only [Act.put, s1l_, s2l_, s3l_, i64_w, i32_w]
               rfl
              refine take_ (i := 3) (N := some 69) (v := ?_) (a' := ?_) (bsl_ 10 31) rfl rfl (take_ofW HT_.out HW_.out (by kernel_rfl)) (fun _ _ _ h => h) (Or.inl ⟨by rfl, ?_⟩) hHeld ?_ ?_
              rotate_left
              ·rintro w' ⟨s0, s1, s2, s3, s4, s5, s6, s7⟩
               go_simp
               with_reducible rfl
              rotate_left
              ·simp only [Act.put, s1l_, s2l_, s3l_, i64_w, i32_w]
               rfl
              refine one_ (i := 5) (N := some 71) (bsl_ 10 63) rfl rfl (one_of HT_.out (by kernel_rfl)) (by decide) (fun K hK => ?_)
              refine goes_ Tryz.func41 (by kernel_rfl) rfl #[.agg #[.int .i64 t367, .int .i64 t368, .slice Ao29 t369.length co29, .int .i64 t372, .int .i64 t373, .slice Ao30 t374.length co30, .slice Ao31 t377.length co31], .string (rdOf ByteArray.empty t381 0), .slice Ao59 x7_1.length co59] (by rfl) rfl rfl (by (try simp only [List.map_toArray, List.map_cons, List.map_nil]); first | done | rfl | (simp only [List.length_drop, List.length_take]; rfl)) ?_
              with_reducible refine (impl_Desk_numbered.calls kj46 t367 t368 (fun k_ => some k_ = (.slice Ao29 t369.length co29 : Value).ownBlock) (.slice Ao29 t369.length co29) t369 t372 t373 (fun k_ => some k_ = (.slice Ao30 t374.length co30 : Value).ownBlock) (.slice Ao30 t374.length co30) t374 (fun k_ => (((((w.heap.size ≤ k_) ∧ (some k_ ≠ (.slice Ao59 x7_1.length co59 : Value).ownBlock ∧ (some k_ ≠ (.slice Ao29 t369.length co29 : Value).ownBlock ∧ some k_ ≠ (.slice Ao30 t374.length co30 : Value).ownBlock))) ∧ some k_ ≠ (.slice (some ad384) t381.length co34 : Value).ownBlock) ∧ k_ ≠ gb365) ∧ k_ ≠ gb366)) _ _ t377 (rdOf ByteArray.empty t381 0) _ _ x7_1 t400 t401 t402 t405 t406 t407 t410 t413 w _ ?side1 ?side2 ?side3 ?side4 ?side5 ?side6 ?side7 ?side8 ?side9 A57.out).mono ?_
              (case side1 => repeat (first | (with_reducible first | exact HB.out | apply below_alloc | apply pw_below_drewN | apply below_drew1 | refine below_set ?_ GE365.out | refine below_set ?_ GE366.out) | exact HB.out))
              (case side2 => exact Kd.R_tight rfl Ha_.out)
              (case side3 => exact fun k_ e_ => (Ha_.out.1 k_ e_.symm).2.2)
              (case side4 => exact Kd.R_tight rfl Hb_.out)
              (case side5 => exact fun k_ e_ => (Hb_.out.1 k_ e_.symm).2.2)
              (case side6 => exact Kd.V_mono (Kd.S_V (Kd.S_types (Kd.S_types (Kd.S_apart' (Hc_.out) (Kd.R_typed HO_6.out) (by decide)) BK365.out (by decide)) BK366.out (by decide))) (fun k_ hk_ => ⟨hk_, hk_.1.1.1.2.2.1, hk_.1.1.1.2.2.2⟩))
              (case side7 => exact Kd.C_kept_own (HO_7.out) (fun k_ hk_ hs_ => Or.elim hs_ (fun e_ => (hk_.2.1) e_) (fun e_ => (hk_.2.2) e_)))
              (case side8 => exact (x5l HO_7.out).2.1)
              (case side9 => exact HGB_.out)
              rintro e w60 ⟨v403, v408, v411, rfl, ho0, ho1, ho2, hb, hkp⟩
              have HS7_ := cell_kept (hHeld.2.2.2.2.2.2.2) hkp (by first | (rw [add_block]; exact (fun hs_ => Or.elim hs_ (fun e_ => ((((Kd.R_apart' (Kd.R_apart' HO_6.out (Kd.R_typed Ha_.out) (by decide)) (Kd.R_typed Hb_.out) (by decide))).1 _ rfl).1.2) e_) (fun e_ => ((((Kd.R_apart' (Kd.R_apart' HO_6.out (Kd.R_typed Ha_.out) (by decide)) (Kd.R_typed Hb_.out) (by decide))).1 _ rfl).2) e_))) | (show ¬ _; simp only [add_block]; exact (fun hs_ => Or.elim hs_ (fun e_ => ((((Kd.R_apart' (Kd.R_apart' HO_6.out (Kd.R_typed Ha_.out) (by decide)) (Kd.R_typed Hb_.out) (by decide))).1 _ rfl).1.2) e_) (fun e_ => ((((Kd.R_apart' (Kd.R_apart' HO_6.out (Kd.R_typed Ha_.out) (by decide)) (Kd.R_typed Hb_.out) (by decide))).1 _ rfl).2) e_))) | exact (fun hs_ => Or.elim hs_ (fun e_ => ((((Kd.R_apart' (Kd.R_apart' HO_6.out (Kd.R_typed Ha_.out) (by decide)) (Kd.R_typed Hb_.out) (by decide))).1 _ rfl).1.2) e_) (fun e_ => ((((Kd.R_apart' (Kd.R_apart' HO_6.out (Kd.R_typed Ha_.out) (by decide)) (Kd.R_typed Hb_.out) (by decide))).1 _ rfl).2) e_)))
              refine ⟨_, rfl, ?_⟩
              have n_ := a9 (x6l (ok' := fun k_ => (w.heap.size ≤ k_)) (Kd.R_keptB ((Kd.R_apart' (Kd.R_apart' HO_6.out (Kd.R_typed Ha_.out) (by decide)) (Kd.R_typed Hb_.out) (by decide))) hkp (fun k_ hk_ hs_ => Or.elim hs_ (fun e_ => (hk_.1.2) e_) (fun e_ => (hk_.2) e_))) (fun k_ hk_ => hk_.1.1.1)) (x6l (ok' := fun k_ => (w.heap.size ≤ k_) ∧ some k_ ≠ (v403 : Value).ownBlock ∧ some k_ ≠ (v408 : Value).ownBlock) (Kd.R_keptB (HO_7.out) hkp (fun k_ hk_ hs_ => Or.elim hs_ (fun e_ => (hk_.2.1) e_) (fun e_ => (hk_.2.2) e_))) (fun k_ hk_ => ⟨hk_.1.1, fun e_ => Or.elim (ho0.1 k_ e_.symm).1 (fun hs_ => hk_.2.1 hs_) (fun hn_ => Nat.not_le.2 hk_.2.2 hn_), fun e_ => Or.elim (ho1.1 k_ e_.symm).1 (fun hs_ => hk_.2.1 hs_) (fun hn_ => Nat.not_le.2 hk_.2.2 hn_)⟩)) (Kd.S_mono (ok' := fun k_ => (w.heap.size ≤ k_) ∧ some k_ ≠ (.slice Ao59 x7_1.length co59 : Value).ownBlock ∧ some k_ ≠ (v403 : Value).ownBlock ∧ some k_ ≠ (v408 : Value).ownBlock) (Kd.S_keptB (Hc_.out) hkp (fun k_ hk_ hs_ => Or.elim hs_ (fun e_ => (hk_.2.2.1) e_) (fun e_ => (hk_.2.2.2) e_))) (fun k_ hk_ => ⟨hk_.1.1, hk_.1.2.1, fun e_ => Or.elim (ho0.1 k_ e_.symm).1 (fun hs_ => hk_.2.1 hs_) (fun hn_ => Nat.not_le.2 hk_.2.2 hn_), fun e_ => Or.elim (ho1.1 k_ e_.symm).1 (fun hs_ => hk_.2.1 hs_) (fun hn_ => Nat.not_le.2 hk_.2.2 hn_)⟩)) (blk_kept (bV BK365.out) hkp (fun hs_ => Or.elim hs_ (fun e_ => (fun e_ => (x9l Ha_.out BK365.out (by decide)) e_) e_) (fun e_ => (fun e_ => (x9l Hb_.out BK365.out (by decide)) e_) e_))) (blk_kept (bV BK366.out) hkp (fun hs_ => Or.elim hs_ (fun e_ => (fun e_ => (x9l Ha_.out BK366.out (by decide)) e_) e_) (fun e_ => (fun e_ => (x9l Hb_.out BK366.out (by decide)) e_) e_))) (x6l (ok' := fun k_ => (w.heap.size ≤ k_) ∧ some k_ ≠ (v408 : Value).ownBlock ∧ some k_ ≠ (.slice Ao59 x7_1.length co59 : Value).ownBlock) ho0 (fun k_ hk_ => ⟨Or.elim hk_.1 (fun hs_ => Or.elim hs_ (fun hs_ => (Ha_.out.1 k_ (hs_).symm).1) (fun hs_ => (Hb_.out.1 k_ (hs_).symm).1)) (fun hn_ => (Nat.le_trans (y7l (dV HB.out)) hn_)), hk_.2, Or.elim hk_.1 (fun hs_ => Or.elim hs_ (fun hs_ => fun e_ => (((HO_7.out).1 k_ e_.symm).2.1) hs_) (fun hs_ => fun e_ => (((HO_7.out).1 k_ e_.symm).2.2) hs_)) (fun hn_ => (Kd.fresh' (Kd.R_lt (rV HO_7.out)) k_ hn_))⟩)) (x6l (ok' := fun k_ => (w.heap.size ≤ k_) ∧ some k_ ≠ (v403 : Value).ownBlock ∧ some k_ ≠ (.slice Ao59 x7_1.length co59 : Value).ownBlock) ho1 (fun k_ hk_ => ⟨Or.elim hk_.1 (fun hs_ => Or.elim hs_ (fun hs_ => (Ha_.out.1 k_ (hs_).symm).1) (fun hs_ => (Hb_.out.1 k_ (hs_).symm).1)) (fun hn_ => (Nat.le_trans (y7l (dV HB.out)) hn_)), hk_.2, Or.elim hk_.1 (fun hs_ => Or.elim hs_ (fun hs_ => fun e_ => (((HO_7.out).1 k_ e_.symm).2.1) hs_) (fun hs_ => fun e_ => (((HO_7.out).1 k_ e_.symm).2.2) hs_)) (fun hn_ => (Kd.fresh' (Kd.R_lt (rV HO_7.out)) k_ hn_))⟩)) (Kd.V_mono (ok' := fun k_ => (w.heap.size ≤ k_) ∧ some k_ ≠ (v403 : Value).ownBlock ∧ some k_ ≠ (v408 : Value).ownBlock ∧ some k_ ≠ (.slice (some ad384) t381.length co34 : Value).ownBlock ∧ some k_ ≠ (.slice Ao59 x7_1.length co59 : Value).ownBlock ∧ k_ ≠ gb365 ∧ k_ ≠ gb366) ho2 (fun k_ hk_ => ⟨Or.elim hk_.1 (fun hs_ => Or.elim hs_ (fun hs_ => (Ha_.out.1 k_ (hs_).symm).1) (fun hs_ => Or.elim hs_ (fun hs_ => (Hb_.out.1 k_ (hs_).symm).1) (fun hs_ => hs_.1.1.1.1))) (fun hn_ => (Nat.le_trans (y7l (dV HB.out)) hn_)), hk_.2.1, hk_.2.2, Or.elim hk_.1 (fun hs_ => Or.elim hs_ (fun hs_ => fun e_ => ((((Kd.R_apart' (Kd.R_apart' HO_6.out (Kd.R_typed Ha_.out) (by decide)) (Kd.R_typed Hb_.out) (by decide))).1 k_ e_.symm).1.2) hs_) (fun hs_ => Or.elim hs_ (fun hs_ => fun e_ => ((((Kd.R_apart' (Kd.R_apart' HO_6.out (Kd.R_typed Ha_.out) (by decide)) (Kd.R_typed Hb_.out) (by decide))).1 k_ e_.symm).2) hs_) (fun hs_ => hs_.1.1.2))) (fun hn_ => (Kd.fresh' (Kd.R_lt (rV HO_6.out)) k_ hn_)), Or.elim hk_.1 (fun hs_ => Or.elim hs_ (fun hs_ => fun e_ => (((HO_7.out).1 k_ e_.symm).2.1) hs_) (fun hs_ => Or.elim hs_ (fun hs_ => fun e_ => (((HO_7.out).1 k_ e_.symm).2.2) hs_) (fun hs_ => hs_.1.1.1.2.1))) (fun hn_ => (Kd.fresh' (Kd.R_lt (rV HO_7.out)) k_ hn_)), Or.elim hk_.1 (fun hs_ => Or.elim hs_ (fun hs_ => fun e_ => (x9l Ha_.out BK365.out (by decide)) (by rw [← e_]; exact hs_)) (fun hs_ => Or.elim hs_ (fun hs_ => fun e_ => (x9l Hb_.out BK365.out (by decide)) (by rw [← e_]; exact hs_)) (fun hs_ => hs_.1.2))) (fun hn_ => (Kd.freshB (bV BK365.out) k_ hn_)), Or.elim hk_.1 (fun hs_ => Or.elim hs_ (fun hs_ => fun e_ => (x9l Ha_.out BK366.out (by decide)) (by rw [← e_]; exact hs_)) (fun hs_ => Or.elim hs_ (fun hs_ => fun e_ => (x9l Hb_.out BK366.out (by decide)) (by rw [← e_]; exact hs_)) (fun hs_ => hs_.2))) (fun hn_ => (Kd.freshB (bV BK366.out) k_ hn_))⟩)) (hb); clear HO_6 HO_7 Hc_ BK365 BK366 HB Ha_ Hb_; obtain ⟨HO_6, HO_7, Hc_, BK365, BK366, HO404, HO409, HO412, HB⟩ := n_
              (try clear hb)
              (try clear hkp)
              (try clear ho0)
              (try clear ho1)
              (try clear ho2)
              obtain ⟨Ao63, co63, eo63⟩ := Kd.R_slice HO404.out
              (first | subst eo63 | (injection eo63 with f1_ f2_ f3_; have f4_ := f1_.symm; have f5_ := f3_.symm; clear f1_ f2_ f3_; subst f4_; subst f5_))
              obtain ⟨Ao67, co67, eo67⟩ := Kd.R_slice HO409.out
              (first | subst eo67 | (injection eo67 with f1_ f2_ f3_; have f4_ := f1_.symm; have f5_ := f3_.symm; clear f1_ f2_ f3_; subst f4_; subst f5_))
              obtain ⟨Ao69, co69, eo69⟩ := Kd.V_slice HO412.out
              (first | subst eo69 | (injection eo69 with f1_ f2_ f3_; have f4_ := f1_.symm; have f5_ := f3_.symm; clear f1_ f2_ f3_; subst f4_; subst f5_))
              refine hK.out _ _ ⟨(x3l BK365.out 0).trans rfl, (x3l BK365.out 1).trans rfl, (x3l BK365.out 2).trans rfl, (x3l BK365.out 3).trans rfl, (x3l BK365.out 4).trans rfl, (x3l BK365.out 5).trans rfl, (x3l BK365.out 6).trans rfl, HS7_⟩ (fun hHeld => ?_)
              clear hK K
              refine norm_ (a' := ?_) ?_ ?_
              rotate_left
              ·show Act.put _ (some 71) _ = _
               simp only [Act.put, s1l_, s2l_, s3l_, i64_w, i32_w]
               rfl
              refine pz 6 (some 72) ?_ (bsl_ 10 127) rfl rfl HT_.out (by kernel_rfl) (fun _ _ _ h => h) (Or.inl ⟨by rfl, ?_⟩) ?_ ?_ ?_
              rotate_left
              ·intro w'
               go_simp
               with_reducible rfl
              rotate_left
              ·simp only [Act.put, s1l_, s2l_, s3l_, i64_w, i32_w]
               rfl
              refine pz 7 (some 73) ?_ (bsl_ 10 255) rfl rfl HT_.out (by kernel_rfl) (fun _ _ _ h => h) (Or.inl ⟨by rfl, ?_⟩) ?_ ?_ ?_
              rotate_left
              ·intro w'
               go_simp
               with_reducible rfl
              rotate_left
              ·simp only [Act.put, s1l_, s2l_, s3l_, i64_w, i32_w]
               rfl
              refine one_ (i := 8) (N := none) (bsl_ 10 511) rfl rfl (one_of HT_.out (by kernel_rfl)) (by decide) (fun K hK => ?_)
              have hs61 : w60.cell? ⟨gb366, 0, none⟩ = some (.int .i64 x367000_1) := (x3l BK366.out 0).trans rfl
              have hfs61 := x2l BK366.out 0
              have hns61_0 := NB365_366.out
              have hms61_0 := NB366_365.out
              have hs62 : w60.cell? ⟨gb366, 1, none⟩ = some (.int .i64 x367001_1) := (x3l BK366.out 1).trans rfl
              have hfs62 := x2l BK366.out 1
              have hns62_0 := NB365_366.out
              have hms62_0 := NB366_365.out
              have hs64 : w60.cell? ⟨gb366, 2, none⟩ = some (.slice none 0 0) := (x3l BK366.out 2).trans rfl
              have hfs64 := x2l BK366.out 2
              have hns64_0 := NB365_366.out
              have hms64_0 := NB366_365.out
              have hs65 : w60.cell? ⟨gb366, 3, none⟩ = some (.int .i64 x367003_1) := (x3l BK366.out 3).trans rfl
              have hfs65 := x2l BK366.out 3
              have hns65_0 := NB365_366.out
              have hms65_0 := NB366_365.out
              have hs66 : w60.cell? ⟨gb366, 4, none⟩ = some (.int .i64 x367004_1) := (x3l BK366.out 4).trans rfl
              have hfs66 := x2l BK366.out 4
              have hns66_0 := NB365_366.out
              have hms66_0 := NB366_365.out
              have hs68 : w60.cell? ⟨gb366, 5, none⟩ = some (.slice none 0 0) := (x3l BK366.out 5).trans rfl
              have hfs68 := x2l BK366.out 5
              have hns68_0 := NB365_366.out
              have hms68_0 := NB366_365.out
              have hs70 : w60.cell? ⟨gb366, 6, none⟩ = some (.slice none 0 0) := (x3l BK366.out 6).trans rfl
              have hfs70 := x2l BK366.out 6
              have hns70_0 := NB365_366.out
              have hms70_0 := NB366_365.out
              refine skip_ (w1 := ?_) (by rfl) rfl ?_ ?_
              rotate_left
              ·go_simp
               rfl
              refine hK.out _ _ ⟨((cell_far (p := ⟨gb366, _, none⟩) NB365_366.out _).trans (((cell_far (p := ⟨gb366, _, none⟩) NB365_366.out _).trans (((cell_far (p := ⟨gb366, _, none⟩) NB365_366.out _).trans (((cell_far (p := ⟨gb366, _, none⟩) NB365_366.out _).trans (((cell_far (p := ⟨gb366, _, none⟩) NB365_366.out _).trans (((cell_far (p := ⟨gb366, _, none⟩) NB365_366.out _).trans (((cell_far (p := ⟨gb366, _, none⟩) NB365_366.out _).trans (hHeld.1)))))))))))))), ((cell_far (p := ⟨gb366, _, none⟩) NB365_366.out _).trans (((cell_far (p := ⟨gb366, _, none⟩) NB365_366.out _).trans (((cell_far (p := ⟨gb366, _, none⟩) NB365_366.out _).trans (((cell_far (p := ⟨gb366, _, none⟩) NB365_366.out _).trans (((cell_far (p := ⟨gb366, _, none⟩) NB365_366.out _).trans (((cell_far (p := ⟨gb366, _, none⟩) NB365_366.out _).trans (((cell_far (p := ⟨gb366, _, none⟩) NB365_366.out _).trans (hHeld.2.1)))))))))))))), ((cell_far (p := ⟨gb366, _, none⟩) NB365_366.out _).trans (((cell_far (p := ⟨gb366, _, none⟩) NB365_366.out _).trans (((cell_far (p := ⟨gb366, _, none⟩) NB365_366.out _).trans (((cell_far (p := ⟨gb366, _, none⟩) NB365_366.out _).trans (((cell_far (p := ⟨gb366, _, none⟩) NB365_366.out _).trans (((cell_far (p := ⟨gb366, _, none⟩) NB365_366.out _).trans (((cell_far (p := ⟨gb366, _, none⟩) NB365_366.out _).trans (hHeld.2.2.1)))))))))))))), ((cell_far (p := ⟨gb366, _, none⟩) NB365_366.out _).trans (((cell_far (p := ⟨gb366, _, none⟩) NB365_366.out _).trans (((cell_far (p := ⟨gb366, _, none⟩) NB365_366.out _).trans (((cell_far (p := ⟨gb366, _, none⟩) NB365_366.out _).trans (((cell_far (p := ⟨gb366, _, none⟩) NB365_366.out _).trans (((cell_far (p := ⟨gb366, _, none⟩) NB365_366.out _).trans (((cell_far (p := ⟨gb366, _, none⟩) NB365_366.out _).trans (hHeld.2.2.2.1)))))))))))))), ((cell_far (p := ⟨gb366, _, none⟩) NB365_366.out _).trans (((cell_far (p := ⟨gb366, _, none⟩) NB365_366.out _).trans (((cell_far (p := ⟨gb366, _, none⟩) NB365_366.out _).trans (((cell_far (p := ⟨gb366, _, none⟩) NB365_366.out _).trans (((cell_far (p := ⟨gb366, _, none⟩) NB365_366.out _).trans (((cell_far (p := ⟨gb366, _, none⟩) NB365_366.out _).trans (((cell_far (p := ⟨gb366, _, none⟩) NB365_366.out _).trans (hHeld.2.2.2.2.1)))))))))))))), ((cell_far (p := ⟨gb366, _, none⟩) NB365_366.out _).trans (((cell_far (p := ⟨gb366, _, none⟩) NB365_366.out _).trans (((cell_far (p := ⟨gb366, _, none⟩) NB365_366.out _).trans (((cell_far (p := ⟨gb366, _, none⟩) NB365_366.out _).trans (((cell_far (p := ⟨gb366, _, none⟩) NB365_366.out _).trans (((cell_far (p := ⟨gb366, _, none⟩) NB365_366.out _).trans (((cell_far (p := ⟨gb366, _, none⟩) NB365_366.out _).trans (hHeld.2.2.2.2.2.1)))))))))))))), ((cell_far (p := ⟨gb366, _, none⟩) NB365_366.out _).trans (((cell_far (p := ⟨gb366, _, none⟩) NB365_366.out _).trans (((cell_far (p := ⟨gb366, _, none⟩) NB365_366.out _).trans (((cell_far (p := ⟨gb366, _, none⟩) NB365_366.out _).trans (((cell_far (p := ⟨gb366, _, none⟩) NB365_366.out _).trans (((cell_far (p := ⟨gb366, _, none⟩) NB365_366.out _).trans (((cell_far (p := ⟨gb366, _, none⟩) NB365_366.out _).trans (hHeld.2.2.2.2.2.2.1)))))))))))))), ((cell_far (p := ⟨gb366, _, none⟩) (by first | exact Kd.own_blk (x9l HO_6.out BK366.out (by decide)) | (rw [add_block]; exact Kd.own_blk (x9l HO_6.out BK366.out (by decide))) | (show (Addr.add _ _).block ≠ _; rw [add_block]; exact Kd.own_blk (x9l HO_6.out BK366.out (by decide))) | (dsimp only; exact Kd.own_blk (x9l HO_6.out BK366.out (by decide)))) _).trans (((cell_far (p := ⟨gb366, _, none⟩) (by first | exact Kd.own_blk (x9l HO_6.out BK366.out (by decide)) | (rw [add_block]; exact Kd.own_blk (x9l HO_6.out BK366.out (by decide))) | (show (Addr.add _ _).block ≠ _; rw [add_block]; exact Kd.own_blk (x9l HO_6.out BK366.out (by decide))) | (dsimp only; exact Kd.own_blk (x9l HO_6.out BK366.out (by decide)))) _).trans (((cell_far (p := ⟨gb366, _, none⟩) (by first | exact Kd.own_blk (x9l HO_6.out BK366.out (by decide)) | (rw [add_block]; exact Kd.own_blk (x9l HO_6.out BK366.out (by decide))) | (show (Addr.add _ _).block ≠ _; rw [add_block]; exact Kd.own_blk (x9l HO_6.out BK366.out (by decide))) | (dsimp only; exact Kd.own_blk (x9l HO_6.out BK366.out (by decide)))) _).trans (((cell_far (p := ⟨gb366, _, none⟩) (by first | exact Kd.own_blk (x9l HO_6.out BK366.out (by decide)) | (rw [add_block]; exact Kd.own_blk (x9l HO_6.out BK366.out (by decide))) | (show (Addr.add _ _).block ≠ _; rw [add_block]; exact Kd.own_blk (x9l HO_6.out BK366.out (by decide))) | (dsimp only; exact Kd.own_blk (x9l HO_6.out BK366.out (by decide)))) _).trans (((cell_far (p := ⟨gb366, _, none⟩) (by first | exact Kd.own_blk (x9l HO_6.out BK366.out (by decide)) | (rw [add_block]; exact Kd.own_blk (x9l HO_6.out BK366.out (by decide))) | (show (Addr.add _ _).block ≠ _; rw [add_block]; exact Kd.own_blk (x9l HO_6.out BK366.out (by decide))) | (dsimp only; exact Kd.own_blk (x9l HO_6.out BK366.out (by decide)))) _).trans (((cell_far (p := ⟨gb366, _, none⟩) (by first | exact Kd.own_blk (x9l HO_6.out BK366.out (by decide)) | (rw [add_block]; exact Kd.own_blk (x9l HO_6.out BK366.out (by decide))) | (show (Addr.add _ _).block ≠ _; rw [add_block]; exact Kd.own_blk (x9l HO_6.out BK366.out (by decide))) | (dsimp only; exact Kd.own_blk (x9l HO_6.out BK366.out (by decide)))) _).trans (((cell_far (p := ⟨gb366, _, none⟩) (by first | exact Kd.own_blk (x9l HO_6.out BK366.out (by decide)) | (rw [add_block]; exact Kd.own_blk (x9l HO_6.out BK366.out (by decide))) | (show (Addr.add _ _).block ≠ _; rw [add_block]; exact Kd.own_blk (x9l HO_6.out BK366.out (by decide))) | (dsimp only; exact Kd.own_blk (x9l HO_6.out BK366.out (by decide)))) _).trans (hHeld.2.2.2.2.2.2.2))))))))))))))⟩ (fun hHeld => ?_)
              clear hK K
              refine pz 9 (some 5) ?_ (bsl_ 10 1023) rfl rfl HT_.out (by kernel_rfl) (fun _ _ _ h => h) (Or.inl ⟨by rfl, ?_⟩) ?_ ?_ ?_
              rotate_left
              ·intro w'
               go_simp
               with_reducible rfl
              rotate_left
              ·simp only [Act.put, s1l_, s2l_, s3l_, i64_w, i32_w]
               rfl
              refine done_ (done_of HT_.out (by kernel_rfl)) ?_
              try go_wp2
              refine bodyPost_ret (results_ct rfl _ _ gb366 55 #[.int .i64 t400, .int .i64 t401, .slice Ao63 t402.length co63, .int .i64 t405, .int .i64 t406, .slice Ao67 t407.length co67, .slice Ao69 t410.length co69] (0, 0) _ rfl (by (with_reducible repeat (first | refine z1l ?_ _ | refine z3l ?_ | refine z2l ?_ _)); refine blk_put (cs := #[.int .i64 t400, .int .i64 t401, .slice Ao63 t402.length co63, .int .i64 t405, .int .i64 t406, .slice Ao67 t407.length co67, .slice none 0 0]) ?_ 6 _ rfl; (with_reducible repeat (first | refine z1l ?_ _ | refine z3l ?_ | refine z2l ?_ _)); refine blk_put (cs := #[.int .i64 t400, .int .i64 t401, .slice Ao63 t402.length co63, .int .i64 t405, .int .i64 t406, .slice none 0 0, .slice none 0 0]) ?_ 5 _ rfl; (with_reducible repeat (first | refine z1l ?_ _ | refine z3l ?_ | refine z2l ?_ _)); refine blk_put (cs := #[.int .i64 t400, .int .i64 t401, .slice Ao63 t402.length co63, .int .i64 t405, .int .i64 x367004_1, .slice none 0 0, .slice none 0 0]) ?_ 4 _ rfl; (with_reducible repeat (first | refine z1l ?_ _ | refine z3l ?_ | refine z2l ?_ _)); refine blk_put (cs := #[.int .i64 t400, .int .i64 t401, .slice Ao63 t402.length co63, .int .i64 x367003_1, .int .i64 x367004_1, .slice none 0 0, .slice none 0 0]) ?_ 3 _ rfl; (with_reducible repeat (first | refine z1l ?_ _ | refine z3l ?_ | refine z2l ?_ _)); refine blk_put (cs := #[.int .i64 t400, .int .i64 t401, .slice none 0 0, .int .i64 x367003_1, .int .i64 x367004_1, .slice none 0 0, .slice none 0 0]) ?_ 2 _ rfl; (with_reducible repeat (first | refine z1l ?_ _ | refine z3l ?_ | refine z2l ?_ _)); refine blk_put (cs := #[.int .i64 t400, .int .i64 x367001_1, .slice none 0 0, .int .i64 x367003_1, .int .i64 x367004_1, .slice none 0 0, .slice none 0 0]) ?_ 1 _ rfl; (with_reducible repeat (first | refine z1l ?_ _ | refine z3l ?_ | refine z2l ?_ _)); refine blk_put (cs := #[.int .i64 x367000_1, .int .i64 x367001_1, .slice none 0 0, .int .i64 x367003_1, .int .i64 x367004_1, .slice none 0 0, .slice none 0 0]) ?_ 0 _ rfl; (with_reducible repeat (first | refine z1l ?_ _ | refine z3l ?_ | refine z2l ?_ _)); exact BK366.out) Tryz.underlying55 rfl (by kernel_rfl)) rfl ?_
              exact ⟨_, _, _, by first | rfl | (simp [errW_none, errW_some] <;> rfl) | (simp [*, errW_none, errW_some] <;> rfl), by (with_reducible repeat (first | apply z8l | apply z9l | apply y1l)); exact x6l (x1l (p := ⟨gb366, 6, none⟩) (x1l (p := ⟨gb366, 5, none⟩) (x1l (p := ⟨gb366, 4, none⟩) (x1l (p := ⟨gb366, 3, none⟩) (x1l (p := ⟨gb366, 2, none⟩) (x1l (p := ⟨gb366, 1, none⟩) (x1l (p := ⟨gb366, 0, none⟩) (x7l HO404.out BK366.out (by decide)) (fun _ hk => hk.2) (.int .i64 t400)) (fun _ hk => hk.2) (.int .i64 t401)) (fun _ hk => hk.2) (.slice Ao63 t402.length co63)) (fun _ hk => hk.2) (.int .i64 t405)) (fun _ hk => hk.2) (.int .i64 t406)) (fun _ hk => hk.2) (.slice Ao67 t407.length co67)) (fun _ hk => hk.2) (.slice Ao69 t410.length co69)) (fun _ hk => ⟨hk.1.1, hk.1.2.1⟩), by (with_reducible repeat (first | apply z8l | apply z9l | apply y1l)); exact x6l (x1l (p := ⟨gb366, 6, none⟩) (x1l (p := ⟨gb366, 5, none⟩) (x1l (p := ⟨gb366, 4, none⟩) (x1l (p := ⟨gb366, 3, none⟩) (x1l (p := ⟨gb366, 2, none⟩) (x1l (p := ⟨gb366, 1, none⟩) (x1l (p := ⟨gb366, 0, none⟩) (x7l HO409.out BK366.out (by decide)) (fun _ hk => hk.2) (.int .i64 t400)) (fun _ hk => hk.2) (.int .i64 t401)) (fun _ hk => hk.2) (.slice Ao63 t402.length co63)) (fun _ hk => hk.2) (.int .i64 t405)) (fun _ hk => hk.2) (.int .i64 t406)) (fun _ hk => hk.2) (.slice Ao67 t407.length co67)) (fun _ hk => hk.2) (.slice Ao69 t410.length co69)) (fun _ hk => ⟨hk.1.1, hk.1.2.1⟩), by (with_reducible repeat (first | apply Kd.V_alloc | apply Kd.V_drewN | apply Kd.V_drew)); exact Kd.V_mono (Kd.V_far (p := ⟨gb366, 6, none⟩) (Kd.V_far (p := ⟨gb366, 5, none⟩) (Kd.V_far (p := ⟨gb366, 4, none⟩) (Kd.V_far (p := ⟨gb366, 3, none⟩) (Kd.V_far (p := ⟨gb366, 2, none⟩) (Kd.V_far (p := ⟨gb366, 1, none⟩) (Kd.V_far (p := ⟨gb366, 0, none⟩) (Kd.V_mono HO412.out (fun k_ hk => (⟨hk, hk.2.2.2.2.2.2⟩ : _ ∧ k_ ≠ gb366))) (fun _ hk => hk.2) (.int .i64 t400)) (fun _ hk => hk.2) (.int .i64 t401)) (fun _ hk => hk.2) (.slice Ao63 t402.length co63)) (fun _ hk => hk.2) (.int .i64 t405)) (fun _ hk => hk.2) (.int .i64 t406)) (fun _ hk => hk.2) (.slice Ao67 t407.length co67)) (fun _ hk => hk.2) (.slice Ao69 t410.length co69)) (fun _ hk => ⟨hk.1.1, ⟨hk.1.2.1, hk.1.2.2.1⟩⟩), dV HB.out⟩
             ·rw [if_neg c56] at H
              exact absurd H (by simp)
            ·replace c55 := Bool.eq_false_iff.mpr c55
             subst c55
             rw [if_neg (show ¬ (false = true) by decide)] at H
             by_cases c71 : (x7_1.length : Int) > 0
             ·rw [if_pos c71] at H
              exact absurd H (by simp)
             ·rw [if_neg c71] at H
              have c71b0 : decide (0 < (x7_1.length : Int)) = false := decide_eq_false c71
              have c71b1 : decide (0 < x7_1.length) = false := decide_eq_false (by omega)
              clear c71
              by_cases c72 : 0 < (t381.length : Int)
              ·rw [if_pos c72] at H
               have c72b0 : decide (0 < (t381.length : Int)) = true := decide_eq_true c72
               have c72b1 : decide (0 < t381.length) = true := decide_eq_true (by omega)
               clear c72
               replace H := Option.bind_eq_some_iff.mp H
               obtain ⟨⟨t415, t416, t417, t420, t421, t422, t425, t428⟩, A730, H⟩ := H
               (try dsimp only at H)
               have A73 := z0l A730
               clear A730
               simp only [Option.some.injEq, Prod.mk.injEq] at H
               obtain ⟨rfl, rfl, rfl, rfl, rfl, rfl, rfl, rfl⟩ := H
               obtain ⟨Ao74, co74, eo74⟩ := Kd.R_slice HO_7.out
               subst eo74
               try go_wp2
               have n_ := a8 (y1l HO_6.out) (y1l HO_7.out) (y1l Ha_.out) (y1l Hb_.out) (Kd.S_drew Hc_.out) (z3l BK365.out) (z3l BK366.out) (below_drew1 HB.out); clear HO_6 HO_7 Ha_ Hb_ Hc_ BK365 BK366 HB; obtain ⟨HO_6, HO_7, Ha_, Hb_, Hc_, BK365, BK366, HB⟩ := n_
               have p414 : 0 ≤ (0 : Int) := (by omega)
               have q414 : 0 < (t381.length : Int) := of_decide_eq_true (by first | (with_reducible assumption) | assumption)
               obtain ⟨ad414, e414, hx414_0⟩ := Kd.at_string (x5l HO_6.out).2.2 0 p414 q414
               obtain rfl : ad384 = ad414 := (by injection e414)
               have qi414 : (0 < t381.length) = True := eq_true (by omega)
               (try rw [show ((0 : Int)).toNat = 0 from rfl] at hx414_0)
               (try rw [Addr.add_zero'] at hx414_0)
               replace p414 := eq_true p414
               replace q414 := eq_true q414
               refine start_ (n := 9) (S := fun w' => w'.cell? ⟨gb365, 0, none⟩ = some (.int .i64 t367) ∧ w'.cell? ⟨gb365, 1, none⟩ = some (.int .i64 t368) ∧ w'.cell? ⟨gb365, 2, none⟩ = some (.slice Ao29 t369.length co29) ∧ w'.cell? ⟨gb365, 3, none⟩ = some (.int .i64 t372) ∧ w'.cell? ⟨gb365, 4, none⟩ = some (.int .i64 t373) ∧ w'.cell? ⟨gb365, 5, none⟩ = some (.slice Ao30 t374.length co30) ∧ w'.cell? ⟨gb365, 6, none⟩ = some (.slice Ao31 t377.length co31) ∧ w'.cell? ad384 = some (.string (rdOf ByteArray.empty t381 0))) (ds := [4, 7]) (bsl_ 9 0) (by kernel_rfl) rfl rfl ⟨(x3l BK365.out 0).trans rfl, (x3l BK365.out 1).trans rfl, (x3l BK365.out 2).trans rfl, (x3l BK365.out 3).trans rfl, (x3l BK365.out 4).trans rfl, (x3l BK365.out 5).trans rfl, (x3l BK365.out 6).trans rfl, hx414_0⟩ (fun hHeld => ?_); refine with_tabW impl_RunLine.tab30 impl_RunLine.bits30 (fun HT_ HW_ => ?_)
               generalize wc.drew = w75 at HO_6 HO_7 Ha_ Hb_ Hc_ BK365 BK366 HB hx414_0 hHeld ⊢
               refine pz 1 (some 79) ?_ (bsl_ 9 2) rfl rfl HT_.out (by kernel_rfl) (fun _ _ _ h => h) (Or.inl ⟨by rfl, ?_⟩) ?_ ?_ ?_
               rotate_left
               ·intro w'
                go_simp
                with_reducible rfl
               rotate_left
               ·simp only [Act.put, s1l_, s2l_, s3l_, i64_w, i32_w]
                rfl
               refine pz 2 (some 80) ?_ (bsl_ 9 6) rfl rfl HT_.out (by kernel_rfl) (fun _ _ _ h => h) (Or.inl ⟨by rfl, ?_⟩) ?_ ?_ ?_
               rotate_left
               ·intro w'
                go_simp
                with_reducible rfl
               rotate_left
               ·simp only [Act.put, s1l_, s2l_, s3l_, i64_w, i32_w]
                rfl
               refine take_ (i := 0) (N := some 78) (v := ?_) (a' := ?_) (bsl_ 9 7) rfl rfl (take_ofW HT_.out HW_.out (by kernel_rfl)) (fun _ _ _ h => h) (Or.inl ⟨by rfl, ?_⟩) hHeld ?_ ?_
               rotate_left
               ·rintro w' ⟨s0, s1, s2, s3, s4, s5, s6, s7⟩
                go_simp
                with_reducible rfl
               rotate_left
               ·simp only [Act.put, s1l_, s2l_, s3l_, i64_w, i32_w]
                rfl
               refine take_ (i := 3) (N := some 81) (v := ?_) (a' := ?_) (bsl_ 9 15) rfl rfl (take_ofW HT_.out HW_.out (by kernel_rfl)) (fun _ _ _ h => h) (Or.inl ⟨by rfl, ?_⟩) hHeld ?_ ?_
               rotate_left
               ·rintro w' ⟨s0, s1, s2, s3, s4, s5, s6, s7⟩
                go_simp
                with_reducible rfl
               rotate_left
               ·simp only [Act.put, s1l_, s2l_, s3l_, i64_w, i32_w]
                rfl
               refine last_ (i := 4) (N := some 82) (bsl_ 9 31) rfl rfl (one_of HT_.out (by kernel_rfl)) (by decide) (fun K hK => ?_)
               refine goes_ Tryz.func42 (by kernel_rfl) rfl #[.agg #[.int .i64 t367, .int .i64 t368, .slice Ao29 t369.length co29, .int .i64 t372, .int .i64 t373, .slice Ao30 t374.length co30, .slice Ao31 t377.length co31], .string (rdOf ByteArray.empty t381 0)] (by rfl) rfl rfl (by (try simp only [List.map_toArray, List.map_cons, List.map_nil]); first | done | rfl | (simp only [List.length_drop, List.length_take]; rfl)) ?_
               with_reducible refine (impl_Desk_plain.calls kj46 t367 t368 (fun k_ => some k_ = (.slice Ao29 t369.length co29 : Value).ownBlock) (.slice Ao29 t369.length co29) t369 t372 t373 (fun k_ => some k_ = (.slice Ao30 t374.length co30 : Value).ownBlock) (.slice Ao30 t374.length co30) t374 (fun k_ => (((((w.heap.size ≤ k_)) ∧ (some k_ ≠ (.slice Ao74 x7_1.length co74 : Value).ownBlock ∧ (some k_ ≠ (.slice Ao29 t369.length co29 : Value).ownBlock ∧ some k_ ≠ (.slice Ao30 t374.length co30 : Value).ownBlock)))) ∧ k_ ≠ gb365) ∧ k_ ≠ gb366) (.slice Ao31 t377.length co31) t377 (rdOf ByteArray.empty t381 0) t415 t416 t417 t420 t421 t422 t425 t428 w _ ?side1 ?side2 ?side3 ?side4 ?side5 ?side6 ?side7 ?side8 ?side9 A73.out).mono ?_
               (case side1 => repeat (first | (with_reducible first | exact HB.out | apply below_alloc | apply pw_below_drewN | apply below_drew1 | refine below_set ?_ GE365.out | refine below_set ?_ GE366.out) | exact HB.out))
               (case side2 => exact Kd.R_tight rfl Ha_.out)
               (case side3 => exact fun k_ e_ => (Ha_.out.1 k_ e_.symm).2.2)
               (case side4 => exact Kd.R_tight rfl Hb_.out)
               (case side5 => exact fun k_ e_ => (Hb_.out.1 k_ e_.symm).2.2)
               (case side6 => exact Kd.S_N (Kd.S_types (Kd.S_types (Hc_.out) (bV BK365.out) (by decide)) (bV BK366.out) (by decide)))
               (case side7 => exact fun k_ e_ e2_ => (e_.1.1.2.2.1) e2_)
               (case side8 => exact fun k_ e_ e2_ => (e_.1.1.2.2.2) e2_)
               (case side9 => exact HGB_.out)
               rintro e w76 ⟨v418, v423, v426, rfl, ho0, ho1, ho2, hb, hkp⟩
               refine ⟨_, rfl, ?_⟩
               have n_ := a7 (x6l (ok' := fun k_ => (w.heap.size ≤ k_) ∧ some k_ ≠ (v418 : Value).ownBlock ∧ some k_ ≠ (v423 : Value).ownBlock) (Kd.R_keptB ((x6l (ok' := fun k_ => (((w.heap.size ≤ k_)) ∧ (some k_ ≠ (.slice Ao29 t369.length co29 : Value).ownBlock ∧ some k_ ≠ (.slice Ao30 t374.length co30 : Value).ownBlock)) ∧ some k_ = (.slice Ao74 x7_1.length co74 : Value).ownBlock) (Kd.R_tight2 rfl HO_7.out) (fun k_ hk => ⟨hk.2, hk.1⟩))) hkp (fun k_ hk_ hs_ => Or.elim hs_ (fun e_ => (hk_.1.2.1) e_) (fun e_ => Or.elim e_ (fun e_ => (hk_.1.2.2) e_) (fun e_ => ((fun e_ => (e_.1.1.2.1) (hk_.2))) e_)))) (fun k_ hk_ => ⟨hk_.1.1.1, fun e_ => Or.elim (ho0.1 k_ e_.symm).1 (fun hs_ => hk_.2.1 hs_) (fun hn_ => Nat.not_le.2 hk_.2.2 hn_), fun e_ => Or.elim (ho1.1 k_ e_.symm).1 (fun hs_ => hk_.2.1 hs_) (fun hn_ => Nat.not_le.2 hk_.2.2 hn_)⟩)) (blk_kept (bV BK365.out) hkp (fun hs_ => Or.elim hs_ (fun e_ => (fun e_ => (x9l Ha_.out BK365.out (by decide)) e_) e_) (fun e_ => Or.elim e_ (fun e_ => (fun e_ => (x9l Hb_.out BK365.out (by decide)) e_) e_) (fun e_ => (fun e_ => e_.1.2 rfl) e_)))) (blk_kept (bV BK366.out) hkp (fun hs_ => Or.elim hs_ (fun e_ => (fun e_ => (x9l Ha_.out BK366.out (by decide)) e_) e_) (fun e_ => Or.elim e_ (fun e_ => (fun e_ => (x9l Hb_.out BK366.out (by decide)) e_) e_) (fun e_ => (fun e_ => e_.2 rfl) e_)))) (x6l (ok' := fun k_ => (w.heap.size ≤ k_) ∧ some k_ ≠ (v423 : Value).ownBlock ∧ some k_ ≠ (.slice Ao74 x7_1.length co74 : Value).ownBlock) ho0 (fun k_ hk_ => ⟨Or.elim hk_.1 (fun hs_ => Or.elim hs_ (fun hs_ => (Ha_.out.1 k_ (hs_).symm).1) (fun hs_ => Or.elim hs_ (fun hs_ => (Hb_.out.1 k_ (hs_).symm).1) (fun hs_ => (hs_).1.1.1))) (fun hn_ => (Nat.le_trans (y7l (dV HB.out)) hn_)), hk_.2, Or.elim hk_.1 (fun hs_ => Or.elim hs_ (fun hs_ => fun e_ => ((((x6l (ok' := fun k_ => (((w.heap.size ≤ k_)) ∧ (some k_ ≠ (.slice Ao29 t369.length co29 : Value).ownBlock ∧ some k_ ≠ (.slice Ao30 t374.length co30 : Value).ownBlock)) ∧ some k_ = (.slice Ao74 x7_1.length co74 : Value).ownBlock) (Kd.R_tight2 rfl HO_7.out) (fun k_ hk => ⟨hk.2, hk.1⟩))).1 k_ e_.symm).1.2.1) hs_) (fun hs_ => Or.elim hs_ (fun hs_ => fun e_ => ((((x6l (ok' := fun k_ => (((w.heap.size ≤ k_)) ∧ (some k_ ≠ (.slice Ao29 t369.length co29 : Value).ownBlock ∧ some k_ ≠ (.slice Ao30 t374.length co30 : Value).ownBlock)) ∧ some k_ = (.slice Ao74 x7_1.length co74 : Value).ownBlock) (Kd.R_tight2 rfl HO_7.out) (fun k_ hk => ⟨hk.2, hk.1⟩))).1 k_ e_.symm).1.2.2) hs_) (fun hs_ => (hs_).1.1.2.1))) (fun hn_ => (Kd.fresh' (Kd.R_lt (rV HO_7.out)) k_ hn_))⟩)) (x6l (ok' := fun k_ => (w.heap.size ≤ k_) ∧ some k_ ≠ (v418 : Value).ownBlock ∧ some k_ ≠ (.slice Ao74 x7_1.length co74 : Value).ownBlock) ho1 (fun k_ hk_ => ⟨Or.elim hk_.1 (fun hs_ => Or.elim hs_ (fun hs_ => (Ha_.out.1 k_ (hs_).symm).1) (fun hs_ => Or.elim hs_ (fun hs_ => (Hb_.out.1 k_ (hs_).symm).1) (fun hs_ => (hs_).1.1.1))) (fun hn_ => (Nat.le_trans (y7l (dV HB.out)) hn_)), hk_.2, Or.elim hk_.1 (fun hs_ => Or.elim hs_ (fun hs_ => fun e_ => ((((x6l (ok' := fun k_ => (((w.heap.size ≤ k_)) ∧ (some k_ ≠ (.slice Ao29 t369.length co29 : Value).ownBlock ∧ some k_ ≠ (.slice Ao30 t374.length co30 : Value).ownBlock)) ∧ some k_ = (.slice Ao74 x7_1.length co74 : Value).ownBlock) (Kd.R_tight2 rfl HO_7.out) (fun k_ hk => ⟨hk.2, hk.1⟩))).1 k_ e_.symm).1.2.1) hs_) (fun hs_ => Or.elim hs_ (fun hs_ => fun e_ => ((((x6l (ok' := fun k_ => (((w.heap.size ≤ k_)) ∧ (some k_ ≠ (.slice Ao29 t369.length co29 : Value).ownBlock ∧ some k_ ≠ (.slice Ao30 t374.length co30 : Value).ownBlock)) ∧ some k_ = (.slice Ao74 x7_1.length co74 : Value).ownBlock) (Kd.R_tight2 rfl HO_7.out) (fun k_ hk => ⟨hk.2, hk.1⟩))).1 k_ e_.symm).1.2.2) hs_) (fun hs_ => (hs_).1.1.2.1))) (fun hn_ => (Kd.fresh' (Kd.R_lt (rV HO_7.out)) k_ hn_))⟩)) (Kd.V_mono (ok' := fun k_ => (w.heap.size ≤ k_) ∧ some k_ ≠ (v418 : Value).ownBlock ∧ some k_ ≠ (v423 : Value).ownBlock ∧ some k_ ≠ (.slice Ao74 x7_1.length co74 : Value).ownBlock ∧ k_ ≠ gb365 ∧ k_ ≠ gb366) ho2 (fun k_ hk_ => ⟨Or.elim hk_.1 (fun hs_ => Or.elim hs_ (fun hs_ => (Ha_.out.1 k_ (hs_).symm).1) (fun hs_ => Or.elim hs_ (fun hs_ => (Hb_.out.1 k_ (hs_).symm).1) (fun hs_ => (hs_).1.1.1))) (fun hn_ => (Nat.le_trans (y7l (dV HB.out)) hn_)), hk_.2.1, hk_.2.2, Or.elim hk_.1 (fun hs_ => Or.elim hs_ (fun hs_ => fun e_ => ((((x6l (ok' := fun k_ => (((w.heap.size ≤ k_)) ∧ (some k_ ≠ (.slice Ao29 t369.length co29 : Value).ownBlock ∧ some k_ ≠ (.slice Ao30 t374.length co30 : Value).ownBlock)) ∧ some k_ = (.slice Ao74 x7_1.length co74 : Value).ownBlock) (Kd.R_tight2 rfl HO_7.out) (fun k_ hk => ⟨hk.2, hk.1⟩))).1 k_ e_.symm).1.2.1) hs_) (fun hs_ => Or.elim hs_ (fun hs_ => fun e_ => ((((x6l (ok' := fun k_ => (((w.heap.size ≤ k_)) ∧ (some k_ ≠ (.slice Ao29 t369.length co29 : Value).ownBlock ∧ some k_ ≠ (.slice Ao30 t374.length co30 : Value).ownBlock)) ∧ some k_ = (.slice Ao74 x7_1.length co74 : Value).ownBlock) (Kd.R_tight2 rfl HO_7.out) (fun k_ hk => ⟨hk.2, hk.1⟩))).1 k_ e_.symm).1.2.2) hs_) (fun hs_ => (hs_).1.1.2.1))) (fun hn_ => (Kd.fresh' (Kd.R_lt (rV HO_7.out)) k_ hn_)), Or.elim hk_.1 (fun hs_ => Or.elim hs_ (fun hs_ => fun e_ => (x9l Ha_.out BK365.out (by decide)) (by rw [← e_]; exact hs_)) (fun hs_ => Or.elim hs_ (fun hs_ => fun e_ => (x9l Hb_.out BK365.out (by decide)) (by rw [← e_]; exact hs_)) (fun hs_ => (hs_).1.2))) (fun hn_ => (Kd.freshB (bV BK365.out) k_ hn_)), Or.elim hk_.1 (fun hs_ => Or.elim hs_ (fun hs_ => fun e_ => (x9l Ha_.out BK366.out (by decide)) (by rw [← e_]; exact hs_)) (fun hs_ => Or.elim hs_ (fun hs_ => fun e_ => (x9l Hb_.out BK366.out (by decide)) (by rw [← e_]; exact hs_)) (fun hs_ => (hs_).2))) (fun hn_ => (Kd.freshB (bV BK366.out) k_ hn_))⟩)) (hb); clear HO_7 BK365 BK366 HB HO_6 Ha_ Hb_ Hc_; obtain ⟨HO_7, BK365, BK366, HO419, HO424, HO427, HB⟩ := n_
               (try clear hb)
               (try clear hkp)
               (try clear ho0)
               (try clear ho1)
               (try clear ho2)
               obtain ⟨Ao79, co79, eo79⟩ := Kd.R_slice HO419.out
               (first | subst eo79 | (injection eo79 with f1_ f2_ f3_; have f4_ := f1_.symm; have f5_ := f3_.symm; clear f1_ f2_ f3_; subst f4_; subst f5_))
               obtain ⟨Ao83, co83, eo83⟩ := Kd.R_slice HO424.out
               (first | subst eo83 | (injection eo83 with f1_ f2_ f3_; have f4_ := f1_.symm; have f5_ := f3_.symm; clear f1_ f2_ f3_; subst f4_; subst f5_))
               obtain ⟨Ao85, co85, eo85⟩ := Kd.V_slice HO427.out
               (first | subst eo85 | (injection eo85 with f1_ f2_ f3_; have f4_ := f1_.symm; have f5_ := f3_.symm; clear f1_ f2_ f3_; subst f4_; subst f5_))
               refine hK.out _ _ ?_
               clear hK K
               refine norm_ (a' := ?_) ?_ ?_
               rotate_left
               ·show Act.put _ (some 82) _ = _
                simp only [Act.put, s1l_, s2l_, s3l_, i64_w, i32_w]
                rfl
               refine pz 5 (some 83) ?_ (bsl_ 9 63) rfl rfl HT_.out (by kernel_rfl) (fun _ _ _ h => h) (Or.inl ⟨by rfl, ?_⟩) ?_ ?_ ?_
               rotate_left
               ·intro w'
                go_simp
                with_reducible rfl
               rotate_left
               ·simp only [Act.put, s1l_, s2l_, s3l_, i64_w, i32_w]
                rfl
               refine pz 6 (some 84) ?_ (bsl_ 9 127) rfl rfl HT_.out (by kernel_rfl) (fun _ _ _ h => h) (Or.inl ⟨by rfl, ?_⟩) ?_ ?_ ?_
               rotate_left
               ·intro w'
                go_simp
                with_reducible rfl
               rotate_left
               ·simp only [Act.put, s1l_, s2l_, s3l_, i64_w, i32_w]
                rfl
               refine last_ (i := 7) (N := none) (bsl_ 9 255) rfl rfl (one_of HT_.out (by kernel_rfl)) (by decide) (fun K hK => ?_)
               have hs77 : w76.cell? ⟨gb366, 0, none⟩ = some (.int .i64 x367000_1) := (x3l BK366.out 0).trans rfl
               have hfs77 := x2l BK366.out 0
               have hns77_0 := NB365_366.out
               have hms77_0 := NB366_365.out
               have hs78 : w76.cell? ⟨gb366, 1, none⟩ = some (.int .i64 x367001_1) := (x3l BK366.out 1).trans rfl
               have hfs78 := x2l BK366.out 1
               have hns78_0 := NB365_366.out
               have hms78_0 := NB366_365.out
               have hs80 : w76.cell? ⟨gb366, 2, none⟩ = some (.slice none 0 0) := (x3l BK366.out 2).trans rfl
               have hfs80 := x2l BK366.out 2
               have hns80_0 := NB365_366.out
               have hms80_0 := NB366_365.out
               have hs81 : w76.cell? ⟨gb366, 3, none⟩ = some (.int .i64 x367003_1) := (x3l BK366.out 3).trans rfl
               have hfs81 := x2l BK366.out 3
               have hns81_0 := NB365_366.out
               have hms81_0 := NB366_365.out
               have hs82 : w76.cell? ⟨gb366, 4, none⟩ = some (.int .i64 x367004_1) := (x3l BK366.out 4).trans rfl
               have hfs82 := x2l BK366.out 4
               have hns82_0 := NB365_366.out
               have hms82_0 := NB366_365.out
               have hs84 : w76.cell? ⟨gb366, 5, none⟩ = some (.slice none 0 0) := (x3l BK366.out 5).trans rfl
               have hfs84 := x2l BK366.out 5
               have hns84_0 := NB365_366.out
               have hms84_0 := NB366_365.out
               have hs86 : w76.cell? ⟨gb366, 6, none⟩ = some (.slice none 0 0) := (x3l BK366.out 6).trans rfl
               have hfs86 := x2l BK366.out 6
               have hns86_0 := NB365_366.out
               have hms86_0 := NB366_365.out
               refine skip_ (w1 := ?_) (by rfl) rfl ?_ ?_
               rotate_left
               ·go_simp
                rfl
               refine hK.out _ _ ?_
               clear hK K
               refine pz 8 (some 5) ?_ (bsl_ 9 511) rfl rfl HT_.out (by kernel_rfl) (fun _ _ _ h => h) (Or.inl ⟨by rfl, ?_⟩) ?_ ?_ ?_
               rotate_left
               ·intro w'
                go_simp
                with_reducible rfl
               rotate_left
               ·simp only [Act.put, s1l_, s2l_, s3l_, i64_w, i32_w]
                rfl
               refine done_ (done_of HT_.out (by kernel_rfl)) ?_
               try go_wp2
               refine bodyPost_ret (results_ct rfl _ _ gb366 55 #[.int .i64 t415, .int .i64 t416, .slice Ao79 t417.length co79, .int .i64 t420, .int .i64 t421, .slice Ao83 t422.length co83, .slice Ao85 t425.length co85] (0, 0) _ rfl (by (with_reducible repeat (first | refine z1l ?_ _ | refine z3l ?_ | refine z2l ?_ _)); refine blk_put (cs := #[.int .i64 t415, .int .i64 t416, .slice Ao79 t417.length co79, .int .i64 t420, .int .i64 t421, .slice Ao83 t422.length co83, .slice none 0 0]) ?_ 6 _ rfl; (with_reducible repeat (first | refine z1l ?_ _ | refine z3l ?_ | refine z2l ?_ _)); refine blk_put (cs := #[.int .i64 t415, .int .i64 t416, .slice Ao79 t417.length co79, .int .i64 t420, .int .i64 t421, .slice none 0 0, .slice none 0 0]) ?_ 5 _ rfl; (with_reducible repeat (first | refine z1l ?_ _ | refine z3l ?_ | refine z2l ?_ _)); refine blk_put (cs := #[.int .i64 t415, .int .i64 t416, .slice Ao79 t417.length co79, .int .i64 t420, .int .i64 x367004_1, .slice none 0 0, .slice none 0 0]) ?_ 4 _ rfl; (with_reducible repeat (first | refine z1l ?_ _ | refine z3l ?_ | refine z2l ?_ _)); refine blk_put (cs := #[.int .i64 t415, .int .i64 t416, .slice Ao79 t417.length co79, .int .i64 x367003_1, .int .i64 x367004_1, .slice none 0 0, .slice none 0 0]) ?_ 3 _ rfl; (with_reducible repeat (first | refine z1l ?_ _ | refine z3l ?_ | refine z2l ?_ _)); refine blk_put (cs := #[.int .i64 t415, .int .i64 t416, .slice none 0 0, .int .i64 x367003_1, .int .i64 x367004_1, .slice none 0 0, .slice none 0 0]) ?_ 2 _ rfl; (with_reducible repeat (first | refine z1l ?_ _ | refine z3l ?_ | refine z2l ?_ _)); refine blk_put (cs := #[.int .i64 t415, .int .i64 x367001_1, .slice none 0 0, .int .i64 x367003_1, .int .i64 x367004_1, .slice none 0 0, .slice none 0 0]) ?_ 1 _ rfl; (with_reducible repeat (first | refine z1l ?_ _ | refine z3l ?_ | refine z2l ?_ _)); refine blk_put (cs := #[.int .i64 x367000_1, .int .i64 x367001_1, .slice none 0 0, .int .i64 x367003_1, .int .i64 x367004_1, .slice none 0 0, .slice none 0 0]) ?_ 0 _ rfl; (with_reducible repeat (first | refine z1l ?_ _ | refine z3l ?_ | refine z2l ?_ _)); exact BK366.out) Tryz.underlying55 rfl (by kernel_rfl)) rfl ?_
               exact ⟨_, _, _, by first | rfl | (simp [errW_none, errW_some] <;> rfl) | (simp [*, errW_none, errW_some] <;> rfl), by (with_reducible repeat (first | apply z8l | apply z9l | apply y1l)); exact x6l (x1l (p := ⟨gb366, 6, none⟩) (x1l (p := ⟨gb366, 5, none⟩) (x1l (p := ⟨gb366, 4, none⟩) (x1l (p := ⟨gb366, 3, none⟩) (x1l (p := ⟨gb366, 2, none⟩) (x1l (p := ⟨gb366, 1, none⟩) (x1l (p := ⟨gb366, 0, none⟩) (x7l HO419.out BK366.out (by decide)) (fun _ hk => hk.2) (.int .i64 t415)) (fun _ hk => hk.2) (.int .i64 t416)) (fun _ hk => hk.2) (.slice Ao79 t417.length co79)) (fun _ hk => hk.2) (.int .i64 t420)) (fun _ hk => hk.2) (.int .i64 t421)) (fun _ hk => hk.2) (.slice Ao83 t422.length co83)) (fun _ hk => hk.2) (.slice Ao85 t425.length co85)) (fun _ hk => ⟨hk.1.1, hk.1.2.1⟩), by (with_reducible repeat (first | apply z8l | apply z9l | apply y1l)); exact x6l (x1l (p := ⟨gb366, 6, none⟩) (x1l (p := ⟨gb366, 5, none⟩) (x1l (p := ⟨gb366, 4, none⟩) (x1l (p := ⟨gb366, 3, none⟩) (x1l (p := ⟨gb366, 2, none⟩) (x1l (p := ⟨gb366, 1, none⟩) (x1l (p := ⟨gb366, 0, none⟩) (x7l HO424.out BK366.out (by decide)) (fun _ hk => hk.2) (.int .i64 t415)) (fun _ hk => hk.2) (.int .i64 t416)) (fun _ hk => hk.2) (.slice Ao79 t417.length co79)) (fun _ hk => hk.2) (.int .i64 t420)) (fun _ hk => hk.2) (.int .i64 t421)) (fun _ hk => hk.2) (.slice Ao83 t422.length co83)) (fun _ hk => hk.2) (.slice Ao85 t425.length co85)) (fun _ hk => ⟨hk.1.1, hk.1.2.1⟩), by (with_reducible repeat (first | apply Kd.V_alloc | apply Kd.V_drewN | apply Kd.V_drew)); exact Kd.V_mono (Kd.V_far (p := ⟨gb366, 6, none⟩) (Kd.V_far (p := ⟨gb366, 5, none⟩) (Kd.V_far (p := ⟨gb366, 4, none⟩) (Kd.V_far (p := ⟨gb366, 3, none⟩) (Kd.V_far (p := ⟨gb366, 2, none⟩) (Kd.V_far (p := ⟨gb366, 1, none⟩) (Kd.V_far (p := ⟨gb366, 0, none⟩) (Kd.V_mono HO427.out (fun k_ hk => (⟨hk, hk.2.2.2.2.2⟩ : _ ∧ k_ ≠ gb366))) (fun _ hk => hk.2) (.int .i64 t415)) (fun _ hk => hk.2) (.int .i64 t416)) (fun _ hk => hk.2) (.slice Ao79 t417.length co79)) (fun _ hk => hk.2) (.int .i64 t420)) (fun _ hk => hk.2) (.int .i64 t421)) (fun _ hk => hk.2) (.slice Ao83 t422.length co83)) (fun _ hk => hk.2) (.slice Ao85 t425.length co85)) (fun _ hk => ⟨hk.1.1, ⟨hk.1.2.1, hk.1.2.2.1⟩⟩), dV HB.out⟩
              ·rw [if_neg c72] at H
               exact absurd H (by simp)
         ·rw [if_neg c46] at H
          exact absurd H (by simp)
     ·rw [if_neg c22] at H
      exact absurd H (by simp)
   ·rw [if_neg c20] at H
    exact absurd H (by simp)
 ·replace c5 := Bool.eq_false_iff.mpr c5
  subst c5
  rw [if_neg (show ¬ (false = true) by decide)] at H
  exact absurd H (by simp)

end Go.Proofs.YtkcgnnepgebekaaGreatDoor.PFnDesk
