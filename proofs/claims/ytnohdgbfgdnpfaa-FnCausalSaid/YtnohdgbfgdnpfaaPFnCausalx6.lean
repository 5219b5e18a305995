/- Machine side of laws FnCausal: written for this claim by the kit's print program under this session's wip/tools/mp_setup.py (with contracts of the session's own, wip/ext). -/
import Derived.Test.YtnohdgbfgdnpfaaPFnCausalx0
import Derived.Test.YtnohdgbfgdnpfaaPFnCausalx5
namespace Go.Proofs.Ytnohdgbfgdnpfaa.PFnCausal
open Go.RowKit Go.Proofs.YtnohdgbfgdnpfaaW.PrintWords Go.Proofs.YtnohdgbfgdnpfaaW.PrintLast Go.Proofs.YtnohdgbfgdnpfaaW.PrintMore
attribute [local go_sem] max2_int min2_int max_two min_two max_three min_three max_four min_four   -- for this text's walks alone
set_option linter.unusedVariables false
set_option linter.unusedSimpArgs false
-- squeezed: words under short names
set_option linter.defProp false in
def z0g := @Aside0.mk
set_option linter.defProp false in
def z1g := @blk_drewN
set_option linter.defProp false in
def z2g := @blk_alloc
set_option linter.defProp false in
def z3g := @blk_drew
set_option linter.defProp false in
def z4g := @below_alloc
set_option linter.defProp false in
def z5g := @pw_below_drewN
set_option linter.defProp false in
def z6g := @below_drew1
set_option linter.defProp false in
def z7g := @below_set
set_option linter.defProp false in
def z8g := @Kd.R_alloc
set_option linter.defProp false in
def z9g := @Kd.R_drewN
set_option linter.defProp false in
def y1g := @Kd.R_drew
set_option linter.defProp false in
def y5g := @blk_below
set_option linter.defProp false in
def y6g := @below_step
set_option linter.defProp false in
def y7g := @below_size
set_option linter.defProp false in
def y8g := @Kd.R_elder'
set_option linter.defProp false in
def x1g := @Kd.R_far
set_option linter.defProp false in
def x2g := @blk_frozen
set_option linter.defProp false in
def x3g := @blk_cell
set_option linter.defProp false in
def x5g := @Kd.R_reads'
set_option linter.defProp false in
def x6g := @Kd.R_mono
set_option linter.defProp false in
def x7g := @Kd.R_types
set_option linter.defProp false in
def x8g := @blk_far
set_option linter.defProp false in
def x9g := @Kd.R_ne
set_option linter.defProp false in
def w2_g := @Kd.R_base
def bsg_ (n m : Nat) : Array Bool := ((List.range n).map fun i => m.testBit i).toArray
mutual
def impl_diffused.l0 : Nat → List (S60) → Bool → List Int → List Int → Int → Int → Int → Int → Int → List Int → Int → Int → List Int → Option (Int × Int × List Int × List Int × Int)
 | 0, _, _, _, _, _, _, _, _, _, _, _, _, _ => none
 | k + 1, x0, x2, x9, x11, x12, x36, x37, x217000, x217001, x217002, x229000, x229001, x229002 => if x37 < x36 then (if x2 = true then (impl_diffused.j1 k x0 x2 x9 x11 x12 x37 1 x36 x37 ((Int.tmod x37 2) == 1) x217000 x217001 x217002 x229000 x229001 x229002) else (impl_diffused.j1 k x0 x2 x9 x11 x12 x37 1 x36 x37 false x217000 x217001 x217002 x229000 x229001 x229002)) else (some (x229000, x229001, x229002, x11, x12))
def impl_diffused.j1 : Nat → List (S60) → Bool → List Int → List Int → Int → Int → Int → Int → Int → Bool → Int → Int → List Int → Int → Int → List Int → Option (Int × Int × List Int × List Int × Int)
 | 0, _, _, _, _, _, _, _, _, _, _, _, _, _, _, _, _ => none
 | k + 1, x0, x2, x9, x11, x12, x13, x14, x36, x37, x45, x217000, x217001, x217002, x229000, x229001, x229002 => if x45 = true then (impl_diffused.j2 k x0 x2 x9 x11 x12 x13 (-1) x36 x37 x217000 x217001 x217002 x229000 x229001 x229002) else (impl_diffused.j2 k x0 x2 x9 x11 x12 x13 x14 x36 x37 x217000 x217001 x217002 x229000 x229001 x229002)
def impl_diffused.j2 : Nat → List (S60) → Bool → List Int → List Int → Int → Int → Int → Int → Int → Int → Int → List Int → Int → Int → List Int → Option (Int × Int × List Int × List Int × Int)
 | 0, _, _, _, _, _, _, _, _, _, _, _, _, _, _, _ => none
 | k + 1, x0, x2, x9, x11, x12, x13, x14, x36, x37, x217000, x217001, x217002, x229000, x229001, x229002 => impl_diffused.l1 k x0 x2 x9 x11 x12 x13 x14 x36 x37 x217000 0 x217000 x217001 x217002 x229000 x229001 x229002
def impl_diffused.l1 : Nat → List (S60) → Bool → List Int → List Int → Int → Int → Int → Int → Int → Int → Int → Int → Int → List Int → Int → Int → List Int → Option (Int × Int × List Int × List Int × Int)
 | 0, _, _, _, _, _, _, _, _, _, _, _, _, _, _, _, _, _ => none
 | k + 1, x0, x2, x9, x11, x12, x13, x14, x36, x37, x47, x48, x217000, x217001, x217002, x229000, x229001, x229002 => if x48 < x47 then (if x14 < 0 then (impl_diffused.j4 k x0 x2 x9 x11 x12 x13 x14 (wrap64 ((wrap64 (x217000 - 1)) - x48)) x36 x37 x47 x48 x217000 x217001 x217002 x229000 x229001 x229002) else (impl_diffused.j4 k x0 x2 x9 x11 x12 x13 x14 x48 x36 x37 x47 x48 x217000 x217001 x217002 x229000 x229001 x229002)) else (impl_diffused.l0 k x0 x2 x9 x11 x12 x36 (wrap64 (x37 + 1)) x217000 x217001 x217002 x229000 x229001 x229002)
def impl_diffused.j4 : Nat → List (S60) → Bool → List Int → List Int → Int → Int → Int → Int → Int → Int → Int → Int → Int → Int → List Int → Int → Int → List Int → Option (Int × Int × List Int × List Int × Int)
 | 0, _, _, _, _, _, _, _, _, _, _, _, _, _, _, _, _, _, _ => none
 | k + 1, x0, x2, x9, x11, x12, x13, x14, x16, x36, x37, x47, x48, x217000, x217001, x217002, x229000, x229001, x229002 => if 0 ≤ (wrap64 ((wrap64 (x13 * x217000)) + x16)) then (if (wrap64 ((wrap64 (x13 * x217000)) + x16)) < (x9.length : Int) then (if (rd x9 (wrap64 ((wrap64 (x13 * x217000)) + x16))) ≥ 128 then (if (wrap64 ((wrap64 (x13 * x217000)) + x16)) < (x229002.length : Int) then (impl_diffused.j5 k x0 x2 x9 x11 x12 x13 x14 x16 (wrap64 ((wrap64 (x13 * x217000)) + x16)) (wrap64 ((rd x9 (wrap64 ((wrap64 (x13 * x217000)) + x16))) - 255)) x36 x37 x47 x48 x217000 x217001 x217002 x229000 x229001 (x229002.set ((wrap64 ((wrap64 (x13 * x217000)) + x16)) : Int).toNat 1)) else (none)) else (impl_diffused.j5 k x0 x2 x9 x11 x12 x13 x14 x16 (wrap64 ((wrap64 (x13 * x217000)) + x16)) (rd x9 (wrap64 ((wrap64 (x13 * x217000)) + x16))) x36 x37 x47 x48 x217000 x217001 x217002 x229000 x229001 x229002)) else (none)) else (none)
def impl_diffused.j5 : Nat → List (S60) → Bool → List Int → List Int → Int → Int → Int → Int → Int → Int → Int → Int → Int → Int → Int → Int → List Int → Int → Int → List Int → Option (Int × Int × List Int × List Int × Int)
 | 0, _, _, _, _, _, _, _, _, _, _, _, _, _, _, _, _, _, _, _, _ => none
 | k + 1, x0, x2, x9, x11, x12, x13, x14, x16, x17, x18, x36, x37, x47, x48, x217000, x217001, x217002, x229000, x229001, x229002 => if 0 ≤ x17 then (if x17 < (x11.length : Int) then ((impl_shares.f k x0 x18).bind fun t235 => (impl_diffused.l2 k x0 x2 x9 (x11.set (x17 : Int).toNat x18) x12 x13 x14 x16 x36 x37 x47 x48 t235 (t235.length : Int) 0 x217000 x217001 x217002 x229000 x229001 x229002)) else (none)) else (none)
def impl_diffused.l2 : Nat → List (S60) → Bool → List Int → List Int → Int → Int → Int → Int → Int → Int → Int → Int → List Int → Int → Int → Int → Int → List Int → Int → Int → List Int → Option (Int × Int × List Int × List Int × Int)
 | 0, _, _, _, _, _, _, _, _, _, _, _, _, _, _, _, _, _, _, _, _, _ => none
 | k + 1, x0, x2, x9, x11, x12, x13, x14, x16, x36, x37, x47, x48, x83, x84, x85, x217000, x217001, x217002, x229000, x229001, x229002 => if x85 < x84 then (if 0 ≤ x85 then (if x85 < (x83.length : Int) then (if x85 < (x0.length : Int) then (if (wrap64 (x16 + (wrap64 (x14 * ((rd_T60 x0 x85).f0))))) < 0 then (impl_diffused.l2 k x0 x2 x9 x11 (wrap64 (x12 + (rd x83 x85))) x13 x14 x16 x36 x37 x47 x48 x83 x84 (wrap64 (x85 + 1)) x217000 x217001 x217002 x229000 x229001 x229002) else (if (wrap64 (x16 + (wrap64 (x14 * ((rd_T60 x0 x85).f0))))) ≥ x217000 then (impl_diffused.l2 k x0 x2 x9 x11 (wrap64 (x12 + (rd x83 x85))) x13 x14 x16 x36 x37 x47 x48 x83 x84 (wrap64 (x85 + 1)) x217000 x217001 x217002 x229000 x229001 x229002) else (if (wrap64 (x13 + ((rd_T60 x0 x85).f1))) ≥ x217001 then (impl_diffused.l2 k x0 x2 x9 x11 (wrap64 (x12 + (rd x83 x85))) x13 x14 x16 x36 x37 x47 x48 x83 x84 (wrap64 (x85 + 1)) x217000 x217001 x217002 x229000 x229001 x229002) else (if 0 ≤ (wrap64 ((wrap64 ((wrap64 (x13 + ((rd_T60 x0 x85).f1))) * x217000)) + (wrap64 (x16 + (wrap64 (x14 * ((rd_T60 x0 x85).f0))))))) then (if (wrap64 ((wrap64 ((wrap64 (x13 + ((rd_T60 x0 x85).f1))) * x217000)) + (wrap64 (x16 + (wrap64 (x14 * ((rd_T60 x0 x85).f0))))))) < (x9.length : Int) then (impl_diffused.l2 k x0 x2 (x9.set ((wrap64 ((wrap64 ((wrap64 (x13 + ((rd_T60 x0 x85).f1))) * x217000)) + (wrap64 (x16 + (wrap64 (x14 * ((rd_T60 x0 x85).f0))))))) : Int).toNat (wrap64 ((rd x9 (wrap64 ((wrap64 ((wrap64 (x13 + ((rd_T60 x0 x85).f1))) * x217000)) + (wrap64 (x16 + (wrap64 (x14 * ((rd_T60 x0 x85).f0)))))))) + (rd x83 x85)))) x11 x12 x13 x14 x16 x36 x37 x47 x48 x83 x84 (wrap64 (x85 + 1)) x217000 x217001 x217002 x229000 x229001 x229002) else (none)) else (none))))) else (none)) else (none)) else (none)) else (impl_diffused.l1 k x0 x2 x9 x11 x12 x13 x14 x36 x37 x47 (wrap64 (x48 + 1)) x217000 x217001 x217002 x229000 x229001 x229002)
end
def impl_diffused.f (k : Nat) (l0 : List (S60)) (a1_0 : Int) (a1_1 : Int) (l1_2 : List Int) (a2 : Bool) : Option (Int × Int × List Int × List Int × Int) := (impl_copied.f a1_0 a1_1 l1_2).bind fun bt218 => ((impl_diffused_1.drawn.f a1_0 a1_1).bind fun bt223 => (if 0 ≤ (l1_2.length : Int) then (if ((l1_2.length : Int) : Int).toNat ≤ 35184372088832 then (impl_diffused.l0 k l0 a2 bt218.2.2 (List.replicate ((l1_2.length : Int) : Int).toNat 0) 0 a1_1 0 a1_0 a1_1 l1_2 bt223.1 bt223.2.1 bt223.2.2) else (none)) else (none)))
set_option maxHeartbeats 8000000 in
set_option maxRecDepth 100000 in
theorem impl_diffused.calls (k : Nat) (A0 : Option Addr) (c0 : Nat) (l0 : List (S60)) (a1_0 : Int) (a1_1 : Int) (A1_2 : Option Addr) (c1_2 : Nat) (l1_2 : List Int) (a2 : Bool) (r1 : Int) (r2 : Int) (r3 : List Int) (r4 : List Int) (r5 : Int) (w : World) (hr0 : Kd.C k60 w A0 l0.length l0) (hc0 : l0.length ≤ c0) (hr1_2 : Kd.C (Kd.int .i64) w A1_2 l1_2.length l1_2) (hc1_2 : l1_2.length ≤ c1_2) (h : impl_diffused.f k l0 a1_0 a1_1 l1_2 a2 = some (r1, r2, r3, r4, r5)) :
  Calls Try.prog 43 #[.slice A0 l0.length c0, .agg #[.int .i64 a1_0, .int .i64 a1_1, .slice A1_2 l1_2.length c1_2], .bool a2] w fun e w' => ∃ v2_ v3_ : Value, e = .returned (.tuple #[.agg #[.int .i64 r1, .int .i64 r2, v2_], v3_, .int .i64 r5]) ∧ Kd.R (Kd.int .i64) 3 w' w.heap.size (fun k_ => some k_ ≠ (v3_ : Value).ownBlock) v2_ r3 ∧ Kd.R (Kd.int .i64) 3 w' w.heap.size (fun k_ => some k_ ≠ (v2_ : Value).ownBlock) v3_ r4 ∧ Below w.heap.size w w' := by
 have hu31 := Try.underlying31
 have HR0 := z0g hr0
 have HC0 := z0g hc0
 clear hr0 hc0
 have HR1_2 := z0g hr1_2
 have HC1_2 := z0g hc1_2
 clear hr1_2 hc1_2
 have HB := z0g (Below.refl w.heap.size w)
 have H : ((impl_copied.f a1_0 a1_1 l1_2).bind fun bt218 => ((impl_diffused_1.drawn.f a1_0 a1_1).bind fun bt223 => (if 0 ≤ (l1_2.length : Int) then (if ((l1_2.length : Int) : Int).toNat ≤ 35184372088832 then (impl_diffused.l0 k l0 a2 bt218.2.2 (List.replicate ((l1_2.length : Int) : Int).toNat 0) 0 a1_1 0 a1_0 a1_1 l1_2 bt223.1 bt223.2.1 bt223.2.2) else (none)) else (none)))) = some (r1, r2, r3, r4, r5) := h
 clear h
 replace H := Option.bind_eq_some_iff.mp H
 obtain ⟨⟨t218, t219, t220⟩, A40, H⟩ := H
 replace H : ((impl_diffused_1.drawn.f a1_0 a1_1).bind fun bt223 => (if 0 ≤ (l1_2.length : Int) then (if ((l1_2.length : Int) : Int).toNat ≤ 35184372088832 then (impl_diffused.l0 k l0 a2 t220 (List.replicate ((l1_2.length : Int) : Int).toNat 0) 0 a1_1 0 a1_0 a1_1 l1_2 bt223.1 bt223.2.1 bt223.2.2) else (none)) else (none))) = some (r1, r2, r3, r4, r5) := H
 have A4 := z0g A40
 clear A40
 replace H := Option.bind_eq_some_iff.mp H
 obtain ⟨⟨t223, t224, t225⟩, A50, H⟩ := H
 replace H : (if 0 ≤ (l1_2.length : Int) then (if ((l1_2.length : Int) : Int).toNat ≤ 35184372088832 then (impl_diffused.l0 k l0 a2 t220 (List.replicate ((l1_2.length : Int) : Int).toNat 0) 0 a1_1 0 a1_0 a1_1 l1_2 t223 t224 t225) else (none)) else (none)) = some (r1, r2, r3, r4, r5) := H
 have A5 := z0g A50
 clear A50
 by_cases c6 : 0 ≤ (l1_2.length : Int)
 ·rw [if_pos c6] at H
  have c6b0 := eq_true c6
  have c6b1 : decide (0 ≤ (l1_2.length : Int)) = true := decide_eq_true c6
  clear c6
  by_cases c7 : ((l1_2.length : Int) : Int).toNat ≤ 35184372088832
  ·rw [if_pos c7] at H
   have c7b0 := eq_true c7
   have c7b1 : decide (((l1_2.length : Int) : Int).toNat ≤ 35184372088832) = true := decide_eq_true c7
   clear c7
   obtain ⟨y229, hy229⟩ : ∃ y_ : List Int, y_ = (List.replicate ((l1_2.length : Int) : Int).toNat 0) := ⟨_, rfl⟩
   replace H : (impl_diffused.l0 k l0 a2 t220 y229 0 a1_1 0 a1_0 a1_1 l1_2 t223 t224 t225) = some (r1, r2, r3, r4, r5) := by first|(rw [hy229];with_reducible exact H)|(have H2_ := (Option.bind_some _ _).symm.trans H;rw [hy229];with_reducible exact H2_)|(have H2_ := (Option.bind_some _ _).symm.trans H;with_reducible exact H2_) | with_reducible exact H|(rw [hy229];exact H)|exact H
   have Ny229 := z0g hy229
   clear hy229
   have H' := z0g H
   clear H
   go_enter Try.func43, Try.ntmps43
   go_wp2_with (first|((with_reducible refine gate_dst (N := 4) rfl ?_);refine box_event ?hg (N := 4) ?hd (cs := #[.int .i64 a1_0, .int .i64 a1_1, .slice A1_2 l1_2.length c1_2]) (t := 31) ?hr ?_;(case hd => rfl);(case hg => rfl);(case hr => first|(go_simp;done)|(go_simp;rfl));intro gb216 hg w8 hbox hb;have n0_ := z0g (y6g (by repeat (first|(with_reducible first|exact HB.out|apply z4g|apply z5g|apply z6g)|exact HB.out)) hb);have n1_ := z0g (hbox);have n2_ := z0g ((by rw [hg];exact (y7g (by repeat (first|(with_reducible first|exact HB.out|apply z4g|apply z5g|apply z6g)|exact HB.out))) : w.heap.size ≤ gb216));have n3_ := z0g ((by rw [hg];exact (y7g (by repeat (first|(with_reducible first|exact HB.out|apply z4g|apply z5g|apply z6g)|exact HB.out))) : w.heap.size ≤ gb216));clear HB;have HB := n0_;have BK216 := n1_;have GW216 := n2_;have GE216 := n3_;clear n0_ n1_ n2_ n3_;clear hb hbox hg)|((with_reducible refine gate_dst (N := 6) rfl ?_);refine box_event ?hg (N := 6) ?hd (cs := #[.int .i64 0, .int .i64 0, .slice none 0 0]) (t := 31) ?hr ?_;(case hd => rfl);(case hg => rfl);(case hr => first|(go_simp;done)|(go_simp;rfl));intro gb217 hg w9 hbox hb;have n0_ := z0g (y5g (g := gb216) (o := .cells #[.int .i64 a1_0, .int .i64 a1_1, .slice A1_2 l1_2.length c1_2] 31 (0, 0)) (by (with_reducible repeat (first|refine z1g ?_ _|refine z3g ?_|refine z2g ?_ _));exact BK216.out) hb);have n1_ := z0g (y6g (by repeat (first|(with_reducible first|exact HB.out|apply z4g|apply z5g|apply z6g|refine z7g ?_ GE216.out)|exact HB.out)) hb);have n2_ := z0g (hbox);have n3_ := z0g ((by rw [hg];exact (y7g (by repeat (first|(with_reducible first|exact HB.out|apply z4g|apply z5g|apply z6g|refine z7g ?_ GE216.out)|exact HB.out))) : w.heap.size ≤ gb217));have n4_ := z0g ((by rw [hg];exact (y7g (by repeat (first|(with_reducible first|exact HB.out|apply z4g|apply z5g|apply z6g|refine z7g ?_ GE216.out)|exact HB.out))) : w.heap.size ≤ gb217));have n5_ := z0g ((by rw [hg];exact Nat.ne_of_lt (blk_lt (g := gb216) (o := .cells #[.int .i64 a1_0, .int .i64 a1_1, .slice A1_2 l1_2.length c1_2] 31 (0, 0)) (by (with_reducible repeat (first|refine z1g ?_ _|refine z3g ?_|refine z2g ?_ _));exact BK216.out)) : gb216 ≠ gb217));have n6_ := z0g ((by rw [hg];exact Nat.ne_of_gt (blk_lt (g := gb216) (o := .cells #[.int .i64 a1_0, .int .i64 a1_1, .slice A1_2 l1_2.length c1_2] 31 (0, 0)) (by (with_reducible repeat (first|refine z1g ?_ _|refine z3g ?_|refine z2g ?_ _));exact BK216.out)) : gb217 ≠ gb216));clear BK216;clear HB;have BK216 := n0_;have HB := n1_;have BK217 := n2_;have GW217 := n3_;have GE217 := n4_;have NB216_217 := n5_;have NB217_216 := n6_;clear n0_ n1_ n2_ n3_ n4_ n5_ n6_;clear hb hbox hg;have hnb10 := NB216_217.out;have hnc10 := NB217_216.out;have hcz11_0 : w9.cell? ⟨gb216, 0, none⟩ = some (.int .i64 a1_0) := (x3g BK216.out 0).trans rfl;have hcz11_1 : w9.cell? ⟨gb216, 1, none⟩ = some (.int .i64 a1_1) := (x3g BK216.out 1).trans rfl;have hcz11_2 : w9.cell? ⟨gb216, 2, none⟩ = some (.slice A1_2 l1_2.length c1_2) := (x3g BK216.out 2).trans rfl;have hfz11_0 := x2g BK216.out 0;have hfz11_1 := x2g BK216.out 1;have hfz11_2 := x2g BK216.out 2)|(go_at_call 62;(with_reducible refine (impl_copied.calls a1_0 a1_1 _ _ l1_2 t218 t219 t220 _ ?side1 ?side2 A4.out).mono ?_);(case side1 => repeat (first|exact HR1_2.out|exact (Kd.C_below HR1_2.out HB.out)|(with_reducible refine Kd.C_alloc ?_ _)|(with_reducible refine Kd.C_drewN ?_ _)|(with_reducible refine Kd.C_drew ?_)));(case side2 => exact HC1_2.out);rintro e w12 ⟨v221, rfl, ho0, hb⟩;have hfd_v221 : ∀ w_ : World, (Instr.field 31 (.agg #[.int .i64 t218, .int .i64 t219, v221]) 2).run Try.prog w_ = .ok v221 w_ := (fun _ => by kernel_rfl);have n0_ := z0g (Kd.R_lower ho0 (y7g (by repeat (first|(with_reducible first|exact HB.out|apply z4g|apply z5g|apply z6g|refine z7g ?_ GE216.out|refine z7g ?_ GE217.out)|exact HB.out))));have n1_ := z0g (y5g (g := gb216) (o := .cells #[.int .i64 a1_0, .int .i64 a1_1, .slice A1_2 l1_2.length c1_2] 31 (0, 0)) (by (with_reducible repeat (first|refine z1g ?_ _|refine z3g ?_|refine z2g ?_ _));exact BK216.out) hb);have n2_ := z0g (y5g (g := gb217) (o := .cells #[.int .i64 0, .int .i64 0, .slice none 0 0] 31 (0, 0)) (by (with_reducible repeat (first|refine z1g ?_ _|refine z3g ?_|refine z2g ?_ _));exact BK217.out) hb);have n3_ := z0g (y6g (by repeat (first|(with_reducible first|exact HB.out|apply z4g|apply z5g|apply z6g|refine z7g ?_ GE216.out|refine z7g ?_ GE217.out)|exact HB.out)) hb);clear BK216;clear BK217;clear HB;have HO222 := n0_;have BK216 := n1_;have BK217 := n2_;have HB := n3_;clear n0_ n1_ n2_ n3_;(try clear hb);(try clear ho0);have hcz13_0 : w12.cell? ⟨gb216, 0, none⟩ = some (.int .i64 a1_0) := (x3g BK216.out 0).trans rfl;have hcz13_1 : w12.cell? ⟨gb216, 1, none⟩ = some (.int .i64 a1_1) := (x3g BK216.out 1).trans rfl;have hcz13_2 : w12.cell? ⟨gb216, 2, none⟩ = some (.slice A1_2 l1_2.length c1_2) := (x3g BK216.out 2).trans rfl;have hfz13_0 := x2g BK216.out 0;have hfz13_1 := x2g BK216.out 1;have hfz13_2 := x2g BK216.out 2)|(go_at_call 47;(with_reducible refine (impl_diffused_1.drawn.calls a1_0 a1_1 t223 t224 t225 _ A5.out).mono ?_);rintro e w14 ⟨v226, rfl, ho0, hb⟩;have n0_ := z0g (y8g (by (with_reducible repeat (first|apply z8g|apply z9g|apply y1g));exact HO222.out) (w2_g ho0) hb);have n1_ := z0g (Kd.R_lower (Kd.R_new' ho0 (Kd.R_lt (by (with_reducible repeat (first|apply z8g|apply z9g|apply y1g));exact HO222.out))) (y7g (by repeat (first|(with_reducible first|exact HB.out|apply z4g|apply z5g|apply z6g|refine z7g ?_ GE216.out|refine z7g ?_ GE217.out)|exact HB.out))));have n2_ := z0g (y5g (g := gb216) (o := .cells #[.int .i64 a1_0, .int .i64 a1_1, .slice A1_2 l1_2.length c1_2] 31 (0, 0)) (by (with_reducible repeat (first|refine z1g ?_ _|refine z3g ?_|refine z2g ?_ _));exact BK216.out) hb);have n3_ := z0g (y5g (g := gb217) (o := .cells #[.int .i64 0, .int .i64 0, .slice none 0 0] 31 (0, 0)) (by (with_reducible repeat (first|refine z1g ?_ _|refine z3g ?_|refine z2g ?_ _));exact BK217.out) hb);have n4_ := z0g (y6g (by repeat (first|(with_reducible first|exact HB.out|apply z4g|apply z5g|apply z6g|refine z7g ?_ GE216.out|refine z7g ?_ GE217.out)|exact HB.out)) hb);clear HO222;clear BK216;clear BK217;clear HB;have HO222 := n0_;have HO227 := n1_;have BK216 := n2_;have BK217 := n3_;have HB := n4_;clear n0_ n1_ n2_ n3_ n4_;(try clear hb);(try clear ho0))|((with_reducible refine gate_dst (N := 10) rfl ?_);refine box_event ?hg (N := 10) ?hd (cs := #[.int .i64 0, .int .i64 0, .slice none 0 0]) (t := 31) ?hr ?_;(case hd => rfl);(case hg => rfl);(case hr => first|(go_simp;done)|(go_simp;rfl));intro gb228 hg w15 hbox hb;have n0_ := z0g (Kd.R_below (by (with_reducible repeat (first|apply z8g|apply z9g|apply y1g));exact HO222.out) hb);have n1_ := z0g (Kd.R_below (by (with_reducible repeat (first|apply z8g|apply z9g|apply y1g));exact HO227.out) hb);have n2_ := z0g (y5g (g := gb216) (o := .cells #[.int .i64 a1_0, .int .i64 a1_1, .slice A1_2 l1_2.length c1_2] 31 (0, 0)) (by (with_reducible repeat (first|refine z1g ?_ _|refine z3g ?_|refine z2g ?_ _));exact BK216.out) hb);have n3_ := z0g (y5g (g := gb217) (o := .cells #[.int .i64 0, .int .i64 0, .slice none 0 0] 31 (0, 0)) (by (with_reducible repeat (first|refine z1g ?_ _|refine z3g ?_|refine z2g ?_ _));exact BK217.out) hb);have n4_ := z0g (y6g (by repeat (first|(with_reducible first|exact HB.out|apply z4g|apply z5g|apply z6g|refine z7g ?_ GE216.out|refine z7g ?_ GE217.out)|exact HB.out)) hb);have n5_ := z0g (hbox);have n6_ := z0g ((by rw [hg];exact (y7g (by repeat (first|(with_reducible first|exact HB.out|apply z4g|apply z5g|apply z6g|refine z7g ?_ GE216.out|refine z7g ?_ GE217.out)|exact HB.out))) : w.heap.size ≤ gb228));have n7_ := z0g ((by rw [hg];exact (y7g (by repeat (first|(with_reducible first|exact HB.out|apply z4g|apply z5g|apply z6g|refine z7g ?_ GE216.out|refine z7g ?_ GE217.out)|exact HB.out))) : w.heap.size ≤ gb228));have n8_ := z0g ((by rw [hg];exact Nat.ne_of_lt (blk_lt (g := gb216) (o := .cells #[.int .i64 a1_0, .int .i64 a1_1, .slice A1_2 l1_2.length c1_2] 31 (0, 0)) (by (with_reducible repeat (first|refine z1g ?_ _|refine z3g ?_|refine z2g ?_ _));exact BK216.out)) : gb216 ≠ gb228));have n9_ := z0g ((by rw [hg];exact Nat.ne_of_gt (blk_lt (g := gb216) (o := .cells #[.int .i64 a1_0, .int .i64 a1_1, .slice A1_2 l1_2.length c1_2] 31 (0, 0)) (by (with_reducible repeat (first|refine z1g ?_ _|refine z3g ?_|refine z2g ?_ _));exact BK216.out)) : gb228 ≠ gb216));have n10_ := z0g ((by rw [hg];exact Nat.ne_of_lt (blk_lt (g := gb217) (o := .cells #[.int .i64 0, .int .i64 0, .slice none 0 0] 31 (0, 0)) (by (with_reducible repeat (first|refine z1g ?_ _|refine z3g ?_|refine z2g ?_ _));exact BK217.out)) : gb217 ≠ gb228));have n11_ := z0g ((by rw [hg];exact Nat.ne_of_gt (blk_lt (g := gb217) (o := .cells #[.int .i64 0, .int .i64 0, .slice none 0 0] 31 (0, 0)) (by (with_reducible repeat (first|refine z1g ?_ _|refine z3g ?_|refine z2g ?_ _));exact BK217.out)) : gb228 ≠ gb217));clear HO222;clear HO227;clear BK216;clear BK217;clear HB;have HO222 := n0_;have HO227 := n1_;have BK216 := n2_;have BK217 := n3_;have HB := n4_;have BK228 := n5_;have GW228 := n6_;have GE228 := n7_;have NB216_228 := n8_;have NB228_216 := n9_;have NB217_228 := n10_;have NB228_217 := n11_;clear n0_ n1_ n2_ n3_ n4_ n5_ n6_ n7_ n8_ n9_ n10_ n11_;clear hb hbox hg;have hnb16 := NB228_216.out;have hnc16 := NB216_228.out;have hnb17 := NB228_217.out;have hnc17 := NB217_228.out;have hcz18_0 : w15.cell? ⟨gb228, 0, none⟩ = some (.int .i64 0) := (x3g BK228.out 0).trans rfl;have hcz18_1 : w15.cell? ⟨gb228, 1, none⟩ = some (.int .i64 0) := (x3g BK228.out 1).trans rfl;have hcz18_2 : w15.cell? ⟨gb228, 2, none⟩ = some (.slice none 0 0) := (x3g BK228.out 2).trans rfl;have hfz18_0 := x2g BK228.out 0;have hfz18_1 := x2g BK228.out 1;have hfz18_2 := x2g BK228.out 2;obtain ⟨Ao19, co19, eo19⟩ := Kd.R_slice HO227.out;subst eo19;have hcz20_0 : w15.cell? ⟨gb216, 0, none⟩ = some (.int .i64 a1_0) := (x3g BK216.out 0).trans rfl;have hcz20_1 : w15.cell? ⟨gb216, 1, none⟩ = some (.int .i64 a1_1) := (x3g BK216.out 1).trans rfl;have hcz20_2 : w15.cell? ⟨gb216, 2, none⟩ = some (.slice A1_2 l1_2.length c1_2) := (x3g BK216.out 2).trans rfl;have hfz20_0 := x2g BK216.out 0;have hfz20_1 := x2g BK216.out 1;have hfz20_2 := x2g BK216.out 2)|((with_reducible refine gate_dst (N := 34) rfl ?_);refine Kd.R_make (Kd.int .i64) _ 3 rfl (N := 34) rfl 29 _ _ rfl (l1_2.length : Int) rfl rfl Try.underlying29 (.int .i64 0) 8 info3 rfl (by decide) (by omega) 0 (ok := fun _ => True) (okp := fun _ => True) rfl (fun _ hk => hk) trivial (of_decide_eq_true (by first|(with_reducible assumption) | assumption)) (Nat.le_trans (Nat.mul_le_mul_right _ (of_decide_eq_true (by first|(with_reducible assumption) | assumption) : (l1_2.length : Int).toNat ≤ 35184372088832)) (by omega)) (Below.refl _ _) (Nat.le_refl _) ?_;intro v230 w21 ho22 hb hg_ hnew_;clear hg_ hnew_;(first | rw [← Ny229.out] at ho22|(simp only [Int.reduceToNat] at ho22;rw [← Ny229.out] at ho22));have n0_ := z0g (y8g (by (with_reducible repeat (first|apply z8g|apply z9g|apply y1g));exact (x6g (x1g (p := ⟨gb228, 2, none⟩) (x1g (p := ⟨gb228, 1, none⟩) (x1g (p := ⟨gb228, 0, none⟩) (x7g HO222.out BK228.out (by decide)) (fun _ hk => hk.2) (.int .i64 t223)) (fun _ hk => hk.2) (.int .i64 t224)) (fun _ hk => hk.2) (.slice Ao19 t225.length co19)) (fun _ h_ => h_.1))) (w2_g ho22) hb);have n1_ := z0g (y8g (by (with_reducible repeat (first|apply z8g|apply z9g|apply y1g));exact (x6g (x1g (p := ⟨gb228, 2, none⟩) (x1g (p := ⟨gb228, 1, none⟩) (x1g (p := ⟨gb228, 0, none⟩) (x7g HO227.out BK228.out (by decide)) (fun _ hk => hk.2) (.int .i64 t223)) (fun _ hk => hk.2) (.int .i64 t224)) (fun _ hk => hk.2) (.slice Ao19 t225.length co19)) (fun _ h_ => h_.1))) (w2_g ho22) hb);have n2_ := z0g (Kd.R_lower (Kd.R_new' (Kd.R_new' ho22 (Kd.R_lt (by (with_reducible repeat (first|apply z8g|apply z9g|apply y1g));exact (x6g (x1g (p := ⟨gb228, 2, none⟩) (x1g (p := ⟨gb228, 1, none⟩) (x1g (p := ⟨gb228, 0, none⟩) (x7g HO222.out BK228.out (by decide)) (fun _ hk => hk.2) (.int .i64 t223)) (fun _ hk => hk.2) (.int .i64 t224)) (fun _ hk => hk.2) (.slice Ao19 t225.length co19)) (fun _ h_ => h_.1))))) (Kd.R_lt (by (with_reducible repeat (first|apply z8g|apply z9g|apply y1g));exact (x6g (x1g (p := ⟨gb228, 2, none⟩) (x1g (p := ⟨gb228, 1, none⟩) (x1g (p := ⟨gb228, 0, none⟩) (x7g HO227.out BK228.out (by decide)) (fun _ hk => hk.2) (.int .i64 t223)) (fun _ hk => hk.2) (.int .i64 t224)) (fun _ hk => hk.2) (.slice Ao19 t225.length co19)) (fun _ h_ => h_.1))))) (y7g (by repeat (first|(with_reducible first|exact HB.out|apply z4g|apply z5g|apply z6g|refine z7g ?_ GE216.out|refine z7g ?_ GE217.out|refine z7g ?_ GE228.out)|exact HB.out))));have n3_ := z0g (y5g (g := gb216) (o := .cells #[.int .i64 a1_0, .int .i64 a1_1, .slice A1_2 l1_2.length c1_2] 31 (0, 0)) (by (with_reducible repeat (first|refine z1g ?_ _|refine z3g ?_|refine z2g ?_ _));refine x8g ?_ NB216_228.out _;(with_reducible repeat (first|refine z1g ?_ _|refine z3g ?_|refine z2g ?_ _));refine x8g ?_ NB216_228.out _;(with_reducible repeat (first|refine z1g ?_ _|refine z3g ?_|refine z2g ?_ _));refine x8g ?_ NB216_228.out _;(with_reducible repeat (first|refine z1g ?_ _|refine z3g ?_|refine z2g ?_ _));exact BK216.out) hb);have n4_ := z0g (y5g (g := gb217) (o := .cells #[.int .i64 0, .int .i64 0, .slice none 0 0] 31 (0, 0)) (by (with_reducible repeat (first|refine z1g ?_ _|refine z3g ?_|refine z2g ?_ _));refine x8g ?_ NB217_228.out _;(with_reducible repeat (first|refine z1g ?_ _|refine z3g ?_|refine z2g ?_ _));refine x8g ?_ NB217_228.out _;(with_reducible repeat (first|refine z1g ?_ _|refine z3g ?_|refine z2g ?_ _));refine x8g ?_ NB217_228.out _;(with_reducible repeat (first|refine z1g ?_ _|refine z3g ?_|refine z2g ?_ _));exact BK217.out) hb);have n5_ := z0g (y5g (g := gb228) (o := .cells #[.int .i64 t223, .int .i64 t224, .slice Ao19 t225.length co19] 31 (0, 0)) (by (with_reducible repeat (first|refine z1g ?_ _|refine z3g ?_|refine z2g ?_ _));refine blk_put (cs := #[.int .i64 t223, .int .i64 t224, .slice none 0 0]) ?_ 2 _ rfl;(with_reducible repeat (first|refine z1g ?_ _|refine z3g ?_|refine z2g ?_ _));refine blk_put (cs := #[.int .i64 t223, .int .i64 0, .slice none 0 0]) ?_ 1 _ rfl;(with_reducible repeat (first|refine z1g ?_ _|refine z3g ?_|refine z2g ?_ _));refine blk_put (cs := #[.int .i64 0, .int .i64 0, .slice none 0 0]) ?_ 0 _ rfl;(with_reducible repeat (first|refine z1g ?_ _|refine z3g ?_|refine z2g ?_ _));exact BK228.out) hb);have n6_ := z0g (y6g (by repeat (first|(with_reducible first|exact HB.out|apply z4g|apply z5g|apply z6g|refine z7g ?_ GE216.out|refine z7g ?_ GE217.out|refine z7g ?_ GE228.out)|exact HB.out)) hb);clear HO222;clear HO227;clear BK216;clear BK217;clear BK228;clear HB;have HO222 := n0_;have HO227 := n1_;have HO231 := n2_;have BK216 := n3_;have BK217 := n4_;have BK228 := n5_;have HB := n6_;clear n0_ n1_ n2_ n3_ n4_ n5_ n6_;clear hb ho22;have hcz23_0 : w21.cell? ⟨gb216, 0, none⟩ = some (.int .i64 a1_0) := (x3g BK216.out 0).trans rfl;have hcz23_1 : w21.cell? ⟨gb216, 1, none⟩ = some (.int .i64 a1_1) := (x3g BK216.out 1).trans rfl;have hcz23_2 : w21.cell? ⟨gb216, 2, none⟩ = some (.slice A1_2 l1_2.length c1_2) := (x3g BK216.out 2).trans rfl;have hfz23_0 := x2g BK216.out 0;have hfz23_1 := x2g BK216.out 1;have hfz23_2 := x2g BK216.out 2))
   repeat (go_quiet (fail);try go_wp2_with (first|((with_reducible refine gate_dst (N := 4) rfl ?_);refine box_event ?hg (N := 4) ?hd (cs := #[.int .i64 a1_0, .int .i64 a1_1, .slice A1_2 l1_2.length c1_2]) (t := 31) ?hr ?_;(case hd => rfl);(case hg => rfl);(case hr => first|(go_simp;done)|(go_simp;rfl));intro gb216 hg w8 hbox hb;have n0_ := z0g (y6g (by repeat (first|(with_reducible first|exact HB.out|apply z4g|apply z5g|apply z6g)|exact HB.out)) hb);have n1_ := z0g (hbox);have n2_ := z0g ((by rw [hg];exact (y7g (by repeat (first|(with_reducible first|exact HB.out|apply z4g|apply z5g|apply z6g)|exact HB.out))) : w.heap.size ≤ gb216));have n3_ := z0g ((by rw [hg];exact (y7g (by repeat (first|(with_reducible first|exact HB.out|apply z4g|apply z5g|apply z6g)|exact HB.out))) : w.heap.size ≤ gb216));clear HB;have HB := n0_;have BK216 := n1_;have GW216 := n2_;have GE216 := n3_;clear n0_ n1_ n2_ n3_;clear hb hbox hg)|((with_reducible refine gate_dst (N := 6) rfl ?_);refine box_event ?hg (N := 6) ?hd (cs := #[.int .i64 0, .int .i64 0, .slice none 0 0]) (t := 31) ?hr ?_;(case hd => rfl);(case hg => rfl);(case hr => first|(go_simp;done)|(go_simp;rfl));intro gb217 hg w9 hbox hb;have n0_ := z0g (y5g (g := gb216) (o := .cells #[.int .i64 a1_0, .int .i64 a1_1, .slice A1_2 l1_2.length c1_2] 31 (0, 0)) (by (with_reducible repeat (first|refine z1g ?_ _|refine z3g ?_|refine z2g ?_ _));exact BK216.out) hb);have n1_ := z0g (y6g (by repeat (first|(with_reducible first|exact HB.out|apply z4g|apply z5g|apply z6g|refine z7g ?_ GE216.out)|exact HB.out)) hb);have n2_ := z0g (hbox);have n3_ := z0g ((by rw [hg];exact (y7g (by repeat (first|(with_reducible first|exact HB.out|apply z4g|apply z5g|apply z6g|refine z7g ?_ GE216.out)|exact HB.out))) : w.heap.size ≤ gb217));have n4_ := z0g ((by rw [hg];exact (y7g (by repeat (first|(with_reducible first|exact HB.out|apply z4g|apply z5g|apply z6g|refine z7g ?_ GE216.out)|exact HB.out))) : w.heap.size ≤ gb217));have n5_ := z0g ((by rw [hg];exact Nat.ne_of_lt (blk_lt (g := gb216) (o := .cells #[.int .i64 a1_0, .int .i64 a1_1, .slice A1_2 l1_2.length c1_2] 31 (0, 0)) (by (with_reducible repeat (first|refine z1g ?_ _|refine z3g ?_|refine z2g ?_ _));exact BK216.out)) : gb216 ≠ gb217));have n6_ := z0g ((by rw [hg];exact Nat.ne_of_gt (blk_lt (g := gb216) (o := .cells #[.int .i64 a1_0, .int .i64 a1_1, .slice A1_2 l1_2.length c1_2] 31 (0, 0)) (by (with_reducible repeat (first|refine z1g ?_ _|refine z3g ?_|refine z2g ?_ _));exact BK216.out)) : gb217 ≠ gb216));clear BK216;clear HB;have BK216 := n0_;have HB := n1_;have BK217 := n2_;have GW217 := n3_;have GE217 := n4_;have NB216_217 := n5_;have NB217_216 := n6_;clear n0_ n1_ n2_ n3_ n4_ n5_ n6_;clear hb hbox hg;have hnb10 := NB216_217.out;have hnc10 := NB217_216.out;have hcz11_0 : w9.cell? ⟨gb216, 0, none⟩ = some (.int .i64 a1_0) := (x3g BK216.out 0).trans rfl;have hcz11_1 : w9.cell? ⟨gb216, 1, none⟩ = some (.int .i64 a1_1) := (x3g BK216.out 1).trans rfl;have hcz11_2 : w9.cell? ⟨gb216, 2, none⟩ = some (.slice A1_2 l1_2.length c1_2) := (x3g BK216.out 2).trans rfl;have hfz11_0 := x2g BK216.out 0;have hfz11_1 := x2g BK216.out 1;have hfz11_2 := x2g BK216.out 2)|(go_at_call 62;(with_reducible refine (impl_copied.calls a1_0 a1_1 _ _ l1_2 t218 t219 t220 _ ?side1 ?side2 A4.out).mono ?_);(case side1 => repeat (first|exact HR1_2.out|exact (Kd.C_below HR1_2.out HB.out)|(with_reducible refine Kd.C_alloc ?_ _)|(with_reducible refine Kd.C_drewN ?_ _)|(with_reducible refine Kd.C_drew ?_)));(case side2 => exact HC1_2.out);rintro e w12 ⟨v221, rfl, ho0, hb⟩;have hfd_v221 : ∀ w_ : World, (Instr.field 31 (.agg #[.int .i64 t218, .int .i64 t219, v221]) 2).run Try.prog w_ = .ok v221 w_ := (fun _ => by kernel_rfl);have n0_ := z0g (Kd.R_lower ho0 (y7g (by repeat (first|(with_reducible first|exact HB.out|apply z4g|apply z5g|apply z6g|refine z7g ?_ GE216.out|refine z7g ?_ GE217.out)|exact HB.out))));have n1_ := z0g (y5g (g := gb216) (o := .cells #[.int .i64 a1_0, .int .i64 a1_1, .slice A1_2 l1_2.length c1_2] 31 (0, 0)) (by (with_reducible repeat (first|refine z1g ?_ _|refine z3g ?_|refine z2g ?_ _));exact BK216.out) hb);have n2_ := z0g (y5g (g := gb217) (o := .cells #[.int .i64 0, .int .i64 0, .slice none 0 0] 31 (0, 0)) (by (with_reducible repeat (first|refine z1g ?_ _|refine z3g ?_|refine z2g ?_ _));exact BK217.out) hb);have n3_ := z0g (y6g (by repeat (first|(with_reducible first|exact HB.out|apply z4g|apply z5g|apply z6g|refine z7g ?_ GE216.out|refine z7g ?_ GE217.out)|exact HB.out)) hb);clear BK216;clear BK217;clear HB;have HO222 := n0_;have BK216 := n1_;have BK217 := n2_;have HB := n3_;clear n0_ n1_ n2_ n3_;(try clear hb);(try clear ho0);have hcz13_0 : w12.cell? ⟨gb216, 0, none⟩ = some (.int .i64 a1_0) := (x3g BK216.out 0).trans rfl;have hcz13_1 : w12.cell? ⟨gb216, 1, none⟩ = some (.int .i64 a1_1) := (x3g BK216.out 1).trans rfl;have hcz13_2 : w12.cell? ⟨gb216, 2, none⟩ = some (.slice A1_2 l1_2.length c1_2) := (x3g BK216.out 2).trans rfl;have hfz13_0 := x2g BK216.out 0;have hfz13_1 := x2g BK216.out 1;have hfz13_2 := x2g BK216.out 2)|(go_at_call 47;(with_reducible refine (impl_diffused_1.drawn.calls a1_0 a1_1 t223 t224 t225 _ A5.out).mono ?_);rintro e w14 ⟨v226, rfl, ho0, hb⟩;have n0_ := z0g (y8g (by (with_reducible repeat (first|apply z8g|apply z9g|apply y1g));exact HO222.out) (w2_g ho0) hb);have n1_ := z0g (Kd.R_lower (Kd.R_new' ho0 (Kd.R_lt (by (with_reducible repeat (first|apply z8g|apply z9g|apply y1g));exact HO222.out))) (y7g (by repeat (first|(with_reducible first|exact HB.out|apply z4g|apply z5g|apply z6g|refine z7g ?_ GE216.out|refine z7g ?_ GE217.out)|exact HB.out))));have n2_ := z0g (y5g (g := gb216) (o := .cells #[.int .i64 a1_0, .int .i64 a1_1, .slice A1_2 l1_2.length c1_2] 31 (0, 0)) (by (with_reducible repeat (first|refine z1g ?_ _|refine z3g ?_|refine z2g ?_ _));exact BK216.out) hb);have n3_ := z0g (y5g (g := gb217) (o := .cells #[.int .i64 0, .int .i64 0, .slice none 0 0] 31 (0, 0)) (by (with_reducible repeat (first|refine z1g ?_ _|refine z3g ?_|refine z2g ?_ _));exact BK217.out) hb);have n4_ := z0g (y6g (by repeat (first|(with_reducible first|exact HB.out|apply z4g|apply z5g|apply z6g|refine z7g ?_ GE216.out|refine z7g ?_ GE217.out)|exact HB.out)) hb);clear HO222;clear BK216;clear BK217;clear HB;have HO222 := n0_;have HO227 := n1_;have BK216 := n2_;have BK217 := n3_;have HB := n4_;clear n0_ n1_ n2_ n3_ n4_;(try clear hb);(try clear ho0))|((with_reducible refine gate_dst (N := 10) rfl ?_);refine box_event ?hg (N := 10) ?hd (cs := #[.int .i64 0, .int .i64 0, .slice none 0 0]) (t := 31) ?hr ?_;(case hd => rfl);(case hg => rfl);(case hr => first|(go_simp;done)|(go_simp;rfl));intro gb228 hg w15 hbox hb;have n0_ := z0g (Kd.R_below (by (with_reducible repeat (first|apply z8g|apply z9g|apply y1g));exact HO222.out) hb);have n1_ := z0g (Kd.R_below (by (with_reducible repeat (first|apply z8g|apply z9g|apply y1g));exact HO227.out) hb);have n2_ := z0g (y5g (g := gb216) (o := .cells #[.int .i64 a1_0, .int .i64 a1_1, .slice A1_2 l1_2.length c1_2] 31 (0, 0)) (by (with_reducible repeat (first|refine z1g ?_ _|refine z3g ?_|refine z2g ?_ _));exact BK216.out) hb);have n3_ := z0g (y5g (g := gb217) (o := .cells #[.int .i64 0, .int .i64 0, .slice none 0 0] 31 (0, 0)) (by (with_reducible repeat (first|refine z1g ?_ _|refine z3g ?_|refine z2g ?_ _));exact BK217.out) hb);have n4_ := z0g (y6g (by repeat (first|(with_reducible first|exact HB.out|apply z4g|apply z5g|apply z6g|refine z7g ?_ GE216.out|refine z7g ?_ GE217.out)|exact HB.out)) hb);have n5_ := z0g (hbox);have n6_ := z0g ((by rw [hg];exact (y7g (by repeat (first|(with_reducible first|exact HB.out|apply z4g|apply z5g|apply z6g|refine z7g ?_ GE216.out|refine z7g ?_ GE217.out)|exact HB.out))) : w.heap.size ≤ gb228));have n7_ := z0g ((by rw [hg];exact (y7g (by repeat (first|(with_reducible first|exact HB.out|apply z4g|apply z5g|apply z6g|refine z7g ?_ GE216.out|refine z7g ?_ GE217.out)|exact HB.out))) : w.heap.size ≤ gb228));have n8_ := z0g ((by rw [hg];exact Nat.ne_of_lt (blk_lt (g := gb216) (o := .cells #[.int .i64 a1_0, .int .i64 a1_1, .slice A1_2 l1_2.length c1_2] 31 (0, 0)) (by (with_reducible repeat (first|refine z1g ?_ _|refine z3g ?_|refine z2g ?_ _));exact BK216.out)) : gb216 ≠ gb228));have n9_ := z0g ((by rw [hg];exact Nat.ne_of_gt (blk_lt (g := gb216) (o := .cells #[.int .i64 a1_0, .int .i64 a1_1, .slice A1_2 l1_2.length c1_2] 31 (0, 0)) (by (with_reducible repeat (first|refine z1g ?_ _|refine z3g ?_|refine z2g ?_ _));exact BK216.out)) : gb228 ≠ gb216));have n10_ := z0g ((by rw [hg];exact Nat.ne_of_lt (blk_lt (g := gb217) (o := .cells #[.int .i64 0, .int .i64 0, .slice none 0 0] 31 (0, 0)) (by (with_reducible repeat (first|refine z1g ?_ _|refine z3g ?_|refine z2g ?_ _));exact BK217.out)) : gb217 ≠ gb228));have n11_ := z0g ((by rw [hg];exact Nat.ne_of_gt (blk_lt (g := gb217) (o := .cells #[.int .i64 0, .int .i64 0, .slice none 0 0] 31 (0, 0)) (by (with_reducible repeat (first|refine z1g ?_ _|refine z3g ?_|refine z2g ?_ _));exact BK217.out)) : gb228 ≠ gb217));clear HO222;clear HO227;clear BK216;clear BK217;clear HB;have HO222 := n0_;have HO227 := n1_;have BK216 := n2_;have BK217 := n3_;have HB := n4_;have BK228 := n5_;have GW228 := n6_;have GE228 := n7_;have NB216_228 := n8_;have NB228_216 := n9_;have NB217_228 := n10_;have NB228_217 := n11_;clear n0_ n1_ n2_ n3_ n4_ n5_ n6_ n7_ n8_ n9_ n10_ n11_;clear hb hbox hg;have hnb16 := NB228_216.out;have hnc16 := NB216_228.out;have hnb17 := NB228_217.out;have hnc17 := NB217_228.out;have hcz18_0 : w15.cell? ⟨gb228, 0, none⟩ = some (.int .i64 0) := (x3g BK228.out 0).trans rfl;have hcz18_1 : w15.cell? ⟨gb228, 1, none⟩ = some (.int .i64 0) := (x3g BK228.out 1).trans rfl;have hcz18_2 : w15.cell? ⟨gb228, 2, none⟩ = some (.slice none 0 0) := (x3g BK228.out 2).trans rfl;have hfz18_0 := x2g BK228.out 0;have hfz18_1 := x2g BK228.out 1;have hfz18_2 := x2g BK228.out 2;obtain ⟨Ao19, co19, eo19⟩ := Kd.R_slice HO227.out;subst eo19;have hcz20_0 : w15.cell? ⟨gb216, 0, none⟩ = some (.int .i64 a1_0) := (x3g BK216.out 0).trans rfl;have hcz20_1 : w15.cell? ⟨gb216, 1, none⟩ = some (.int .i64 a1_1) := (x3g BK216.out 1).trans rfl;have hcz20_2 : w15.cell? ⟨gb216, 2, none⟩ = some (.slice A1_2 l1_2.length c1_2) := (x3g BK216.out 2).trans rfl;have hfz20_0 := x2g BK216.out 0;have hfz20_1 := x2g BK216.out 1;have hfz20_2 := x2g BK216.out 2)|((with_reducible refine gate_dst (N := 34) rfl ?_);refine Kd.R_make (Kd.int .i64) _ 3 rfl (N := 34) rfl 29 _ _ rfl (l1_2.length : Int) rfl rfl Try.underlying29 (.int .i64 0) 8 info3 rfl (by decide) (by omega) 0 (ok := fun _ => True) (okp := fun _ => True) rfl (fun _ hk => hk) trivial (of_decide_eq_true (by first|(with_reducible assumption) | assumption)) (Nat.le_trans (Nat.mul_le_mul_right _ (of_decide_eq_true (by first|(with_reducible assumption) | assumption) : (l1_2.length : Int).toNat ≤ 35184372088832)) (by omega)) (Below.refl _ _) (Nat.le_refl _) ?_;intro v230 w21 ho22 hb hg_ hnew_;clear hg_ hnew_;(first | rw [← Ny229.out] at ho22|(simp only [Int.reduceToNat] at ho22;rw [← Ny229.out] at ho22));have n0_ := z0g (y8g (by (with_reducible repeat (first|apply z8g|apply z9g|apply y1g));exact (x6g (x1g (p := ⟨gb228, 2, none⟩) (x1g (p := ⟨gb228, 1, none⟩) (x1g (p := ⟨gb228, 0, none⟩) (x7g HO222.out BK228.out (by decide)) (fun _ hk => hk.2) (.int .i64 t223)) (fun _ hk => hk.2) (.int .i64 t224)) (fun _ hk => hk.2) (.slice Ao19 t225.length co19)) (fun _ h_ => h_.1))) (w2_g ho22) hb);have n1_ := z0g (y8g (by (with_reducible repeat (first|apply z8g|apply z9g|apply y1g));exact (x6g (x1g (p := ⟨gb228, 2, none⟩) (x1g (p := ⟨gb228, 1, none⟩) (x1g (p := ⟨gb228, 0, none⟩) (x7g HO227.out BK228.out (by decide)) (fun _ hk => hk.2) (.int .i64 t223)) (fun _ hk => hk.2) (.int .i64 t224)) (fun _ hk => hk.2) (.slice Ao19 t225.length co19)) (fun _ h_ => h_.1))) (w2_g ho22) hb);have n2_ := z0g (Kd.R_lower (Kd.R_new' (Kd.R_new' ho22 (Kd.R_lt (by (with_reducible repeat (first|apply z8g|apply z9g|apply y1g));exact (x6g (x1g (p := ⟨gb228, 2, none⟩) (x1g (p := ⟨gb228, 1, none⟩) (x1g (p := ⟨gb228, 0, none⟩) (x7g HO222.out BK228.out (by decide)) (fun _ hk => hk.2) (.int .i64 t223)) (fun _ hk => hk.2) (.int .i64 t224)) (fun _ hk => hk.2) (.slice Ao19 t225.length co19)) (fun _ h_ => h_.1))))) (Kd.R_lt (by (with_reducible repeat (first|apply z8g|apply z9g|apply y1g));exact (x6g (x1g (p := ⟨gb228, 2, none⟩) (x1g (p := ⟨gb228, 1, none⟩) (x1g (p := ⟨gb228, 0, none⟩) (x7g HO227.out BK228.out (by decide)) (fun _ hk => hk.2) (.int .i64 t223)) (fun _ hk => hk.2) (.int .i64 t224)) (fun _ hk => hk.2) (.slice Ao19 t225.length co19)) (fun _ h_ => h_.1))))) (y7g (by repeat (first|(with_reducible first|exact HB.out|apply z4g|apply z5g|apply z6g|refine z7g ?_ GE216.out|refine z7g ?_ GE217.out|refine z7g ?_ GE228.out)|exact HB.out))));have n3_ := z0g (y5g (g := gb216) (o := .cells #[.int .i64 a1_0, .int .i64 a1_1, .slice A1_2 l1_2.length c1_2] 31 (0, 0)) (by (with_reducible repeat (first|refine z1g ?_ _|refine z3g ?_|refine z2g ?_ _));refine x8g ?_ NB216_228.out _;(with_reducible repeat (first|refine z1g ?_ _|refine z3g ?_|refine z2g ?_ _));refine x8g ?_ NB216_228.out _;(with_reducible repeat (first|refine z1g ?_ _|refine z3g ?_|refine z2g ?_ _));refine x8g ?_ NB216_228.out _;(with_reducible repeat (first|refine z1g ?_ _|refine z3g ?_|refine z2g ?_ _));exact BK216.out) hb);have n4_ := z0g (y5g (g := gb217) (o := .cells #[.int .i64 0, .int .i64 0, .slice none 0 0] 31 (0, 0)) (by (with_reducible repeat (first|refine z1g ?_ _|refine z3g ?_|refine z2g ?_ _));refine x8g ?_ NB217_228.out _;(with_reducible repeat (first|refine z1g ?_ _|refine z3g ?_|refine z2g ?_ _));refine x8g ?_ NB217_228.out _;(with_reducible repeat (first|refine z1g ?_ _|refine z3g ?_|refine z2g ?_ _));refine x8g ?_ NB217_228.out _;(with_reducible repeat (first|refine z1g ?_ _|refine z3g ?_|refine z2g ?_ _));exact BK217.out) hb);have n5_ := z0g (y5g (g := gb228) (o := .cells #[.int .i64 t223, .int .i64 t224, .slice Ao19 t225.length co19] 31 (0, 0)) (by (with_reducible repeat (first|refine z1g ?_ _|refine z3g ?_|refine z2g ?_ _));refine blk_put (cs := #[.int .i64 t223, .int .i64 t224, .slice none 0 0]) ?_ 2 _ rfl;(with_reducible repeat (first|refine z1g ?_ _|refine z3g ?_|refine z2g ?_ _));refine blk_put (cs := #[.int .i64 t223, .int .i64 0, .slice none 0 0]) ?_ 1 _ rfl;(with_reducible repeat (first|refine z1g ?_ _|refine z3g ?_|refine z2g ?_ _));refine blk_put (cs := #[.int .i64 0, .int .i64 0, .slice none 0 0]) ?_ 0 _ rfl;(with_reducible repeat (first|refine z1g ?_ _|refine z3g ?_|refine z2g ?_ _));exact BK228.out) hb);have n6_ := z0g (y6g (by repeat (first|(with_reducible first|exact HB.out|apply z4g|apply z5g|apply z6g|refine z7g ?_ GE216.out|refine z7g ?_ GE217.out|refine z7g ?_ GE228.out)|exact HB.out)) hb);clear HO222;clear HO227;clear BK216;clear BK217;clear BK228;clear HB;have HO222 := n0_;have HO227 := n1_;have HO231 := n2_;have BK216 := n3_;have BK217 := n4_;have BK228 := n5_;have HB := n6_;clear n0_ n1_ n2_ n3_ n4_ n5_ n6_;clear hb ho22;have hcz23_0 : w21.cell? ⟨gb216, 0, none⟩ = some (.int .i64 a1_0) := (x3g BK216.out 0).trans rfl;have hcz23_1 : w21.cell? ⟨gb216, 1, none⟩ = some (.int .i64 a1_1) := (x3g BK216.out 1).trans rfl;have hcz23_2 : w21.cell? ⟨gb216, 2, none⟩ = some (.slice A1_2 l1_2.length c1_2) := (x3g BK216.out 2).trans rfl;have hfz23_0 := x2g BK216.out 0;have hfz23_1 := x2g BK216.out 1;have hfz23_2 := x2g BK216.out 2)))
   go_loopg [12, 37] k (fun kq v12 v37 w' => ∃ (x9_1 : List Int) (x11_1 : List Int) (x12_1 : Int) (x37_1 : Int) (x229002_1 : List Int) (u229002 : Value), v12 = .int .i64 x12_1 ∧ v37 = .int .i64 x37_1 ∧ Aside0 (impl_diffused.l0 kq l0 a2 x9_1 x11_1 x12_1 a1_1 x37_1 a1_0 a1_1 l1_2 t223 t224 x229002_1 = some (r1, r2, r3, r4, r5)) ∧ Aside0 (kq ≤ k) ∧ Aside0 (Kd.R (Kd.int .i64) 3 w' w.heap.size (fun k_ => some k_ ≠ (v230 : Value).ownBlock ∧ some k_ ≠ (u229002 : Value).ownBlock) v221 x9_1) ∧ Aside0 (Kd.R (Kd.int .i64) 3 w' w.heap.size (fun k_ => some k_ ≠ (v221 : Value).ownBlock ∧ some k_ ≠ (u229002 : Value).ownBlock) v230 x11_1) ∧ Aside0 (Kd.R (Kd.int .i64) 3 w' w.heap.size (fun k_ => some k_ ≠ (v221 : Value).ownBlock ∧ some k_ ≠ (v230 : Value).ownBlock) u229002 x229002_1) ∧ Aside0 (w'.heap[gb216]? = some (.cells #[.int .i64 a1_0, .int .i64 a1_1, (.slice A1_2 l1_2.length c1_2)] 31 (0, 0))) ∧ Aside0 (w'.heap[gb217]? = some (.cells #[.int .i64 0, .int .i64 0, (.slice none 0 0)] 31 (0, 0))) ∧ Aside0 (w'.heap[gb228]? = some (.cells #[.int .i64 t223, .int .i64 t224, u229002] 31 (0, 0))) ∧ Aside0 (Below w.heap.size w w'))
   case atStart => exact ⟨(t220), (y229), (0), (0), (t225), (.slice Ao19 t225.length co19), (by first |rfl|(simp;done)|(simp [*];done)), (by first |rfl|(simp;done)|(simp [*];done)), H', ⟨Nat.le_refl _⟩, ⟨by (with_reducible repeat (first|apply z8g|apply z9g|apply y1g));exact x6g HO222.out (fun _ hk => ⟨hk.2, hk.1.2⟩)⟩, ⟨by (with_reducible repeat (first|apply z8g|apply z9g|apply y1g));exact x6g HO231.out (fun _ hk => ⟨hk.1.2, hk.2⟩)⟩, ⟨by (with_reducible repeat (first|apply z8g|apply z9g|apply y1g));exact x6g HO227.out (fun _ hk => ⟨hk.1.2, hk.2⟩)⟩, ⟨by (with_reducible repeat (first|refine z1g ?_ _|refine z3g ?_|refine z2g ?_ _));exact BK216.out⟩, ⟨by (with_reducible repeat (first|refine z1g ?_ _|refine z3g ?_|refine z2g ?_ _));exact BK217.out⟩, ⟨by (with_reducible repeat (first|refine z1g ?_ _|refine z3g ?_|refine z2g ?_ _));exact BK228.out⟩, ⟨by repeat (first|(with_reducible first|exact HB.out|apply z4g|apply z5g|apply z6g|refine z7g ?_ GE216.out|refine z7g ?_ GE217.out|refine z7g ?_ GE228.out)|exact HB.out)⟩⟩
   case round =>
    clear H'
    (try clear c1);(try clear p2);(try clear c4);(try clear c6);(try clear c6b0);(try clear c6b1);(try clear c7);(try clear c7b0);(try clear c7b1);(try clear c10);(try clear c16);(try clear c17);(try clear hcz11_0);(try clear hcz11_1);(try clear hcz11_2);(try clear hcz13_0);(try clear hcz13_1);(try clear hcz13_2);(try clear hcz18_0);(try clear hcz18_1);(try clear hcz18_2);(try clear hcz20_0);(try clear hcz20_1);(try clear hcz20_2);(try clear hcz23_0);(try clear hcz23_1);(try clear hcz23_2);(try clear hfz11_0);(try clear hfz11_1);(try clear hfz11_2);(try clear hfz13_0);(try clear hfz13_1);(try clear hfz13_2);(try clear hfz18_0);(try clear hfz18_1);(try clear hfz18_2);(try clear hfz20_0);(try clear hfz20_1);(try clear hfz20_2);(try clear hfz23_0);(try clear hfz23_1);(try clear hfz23_2)
    obtain ⟨x9_1, x11_1, x12_1, x37_1, x229002_1, u229002, rfl, rfl, HA, HK1, HO_9, HO_11, Ha_, BK216, BK217, BK228, HB⟩ := hrel
    cases gk with
    | zero => exact absurd HA.out (by simp [impl_diffused.l0])
    | succ k1 =>
     have H := HA.out
     clear HA
     simp only [impl_diffused.l0] at H
     by_cases c24 : x37_1 < a1_1
     ·rw [if_pos c24] at H
      have c24b0 : decide (x37_1 < a1_1) = true := decide_eq_true c24
      clear c24
      have HC25 := z0g H
      clear H
      go_upto_region 9 with (fail)
      repeat (go_quiet (fail);go_upto_region 9 with (fail))
      go_cut [45] (fun v45 wc => ∃ (kq : Nat) (x45_24 : Bool), v45 = .bool x45_24 ∧ Aside0 (impl_diffused.j1 kq l0 a2 x9_1 x11_1 x12_1 x37_1 1 a1_1 x37_1 x45_24 a1_0 a1_1 l1_2 t223 t224 x229002_1 = some (r1, r2, r3, r4, r5)) ∧ Aside0 (kq ≤ k1) ∧ Aside0 (Kd.R (Kd.int .i64) 3 wc w.heap.size (fun k_ => some k_ ≠ (v230 : Value).ownBlock ∧ some k_ ≠ (u229002 : Value).ownBlock) v221 x9_1) ∧ Aside0 (Kd.R (Kd.int .i64) 3 wc w.heap.size (fun k_ => some k_ ≠ (v221 : Value).ownBlock ∧ some k_ ≠ (u229002 : Value).ownBlock) v230 x11_1) ∧ Aside0 (Kd.R (Kd.int .i64) 3 wc w.heap.size (fun k_ => some k_ ≠ (v221 : Value).ownBlock ∧ some k_ ≠ (v230 : Value).ownBlock) u229002 x229002_1) ∧ Aside0 (wc.heap[gb216]? = some (.cells #[.int .i64 a1_0, .int .i64 a1_1, (.slice A1_2 l1_2.length c1_2)] 31 (0, 0))) ∧ Aside0 (wc.heap[gb217]? = some (.cells #[.int .i64 0, .int .i64 0, (.slice none 0 0)] 31 (0, 0))) ∧ Aside0 (wc.heap[gb228]? = some (.cells #[.int .i64 t223, .int .i64 t224, u229002] 31 (0, 0))) ∧ Aside0 (Below w.heap.size w wc))
      case first =>
       have H := HC25.out
       clear HC25
       by_cases c26 : a2 = true
       ·subst c26
        have H1 : (impl_diffused.j1 k1 l0 true x9_1 x11_1 x12_1 x37_1 1 a1_1 x37_1 ((Int.tmod x37_1 2) == 1) a1_0 a1_1 l1_2 t223 t224 x229002_1) = some (r1, r2, r3, r4, r5) := by rw [if_pos rfl] at H;first|exact H|(simp only [if_true] at H ⊢;exact H)
        clear H
        have H := H1
        clear H1
        have H' := z0g H
        clear H
        go_wp2
        repeat (go_quiet (fail);try go_wp2)
        go_meet
        case rel => exact ⟨_, (((Int.tmod x37_1 2) == 1)), (by first |rfl|(simp;done)|(simp [*];done)), H', ⟨by have := HK1.out;first | omega|exact Nat.le_refl _⟩, ⟨by (with_reducible repeat (first|apply z8g|apply z9g|apply y1g));exact HO_9.out⟩, ⟨by (with_reducible repeat (first|apply z8g|apply z9g|apply y1g));exact HO_11.out⟩, ⟨by (with_reducible repeat (first|apply z8g|apply z9g|apply y1g));exact Ha_.out⟩, ⟨by (with_reducible repeat (first|refine z1g ?_ _|refine z3g ?_|refine z2g ?_ _));exact BK216.out⟩, ⟨by (with_reducible repeat (first|refine z1g ?_ _|refine z3g ?_|refine z2g ?_ _));exact BK217.out⟩, ⟨by (with_reducible repeat (first|refine z1g ?_ _|refine z3g ?_|refine z2g ?_ _));exact BK228.out⟩, ⟨by repeat (first|(with_reducible first|exact HB.out|apply z4g|apply z5g|apply z6g|refine z7g ?_ GE216.out|refine z7g ?_ GE217.out|refine z7g ?_ GE228.out)|exact HB.out)⟩⟩
       ·replace c26 := Bool.eq_false_iff.mpr c26
        subst c26
        have H1 : (impl_diffused.j1 k1 l0 false x9_1 x11_1 x12_1 x37_1 1 a1_1 x37_1 false a1_0 a1_1 l1_2 t223 t224 x229002_1) = some (r1, r2, r3, r4, r5) := by rw [if_neg (show ¬ (false = true) by decide)] at H;first|exact H|(simp only [if_true] at H ⊢;exact H)
        clear H
        have H := H1
        clear H1
        have H' := z0g H
        clear H
        go_wp2
        repeat (go_quiet (fail);try go_wp2)
        go_meet
        case rel => exact ⟨_, (false), (by first |rfl|(simp;done)|(simp [*];done)), H', ⟨by have := HK1.out;first | omega|exact Nat.le_refl _⟩, ⟨by (with_reducible repeat (first|apply z8g|apply z9g|apply y1g));exact HO_9.out⟩, ⟨by (with_reducible repeat (first|apply z8g|apply z9g|apply y1g));exact HO_11.out⟩, ⟨by (with_reducible repeat (first|apply z8g|apply z9g|apply y1g));exact Ha_.out⟩, ⟨by (with_reducible repeat (first|refine z1g ?_ _|refine z3g ?_|refine z2g ?_ _));exact BK216.out⟩, ⟨by (with_reducible repeat (first|refine z1g ?_ _|refine z3g ?_|refine z2g ?_ _));exact BK217.out⟩, ⟨by (with_reducible repeat (first|refine z1g ?_ _|refine z3g ?_|refine z2g ?_ _));exact BK228.out⟩, ⟨by repeat (first|(with_reducible first|exact HB.out|apply z4g|apply z5g|apply z6g|refine z7g ?_ GE216.out|refine z7g ?_ GE217.out|refine z7g ?_ GE228.out)|exact HB.out)⟩⟩
      case rest =>
       clear HC25
       (try clear c1);(try clear c2);(try clear p2);(try clear c4);(try clear c6);(try clear c6b0);(try clear c6b1);(try clear c7);(try clear c7b0);(try clear c7b1);(try clear c10);(try clear c16);(try clear c17);(try clear c24);(try clear c24b0);(try clear c26);(try clear hcz11_0);(try clear hcz11_1);(try clear hcz11_2);(try clear hcz13_0);(try clear hcz13_1);(try clear hcz13_2);(try clear hcz18_0);(try clear hcz18_1);(try clear hcz18_2);(try clear hcz20_0);(try clear hcz20_1);(try clear hcz20_2);(try clear hcz23_0);(try clear hcz23_1);(try clear hcz23_2);(try clear hfz11_0);(try clear hfz11_1);(try clear hfz11_2);(try clear hfz13_0);(try clear hfz13_1);(try clear hfz13_2);(try clear hfz18_0);(try clear hfz18_1);(try clear hfz18_2);(try clear hfz20_0);(try clear hfz20_1);(try clear hfz20_2);(try clear hfz23_0);(try clear hfz23_1);(try clear hfz23_2);(try clear p2)
       obtain ⟨kq, x45_24, rfl, HA, HJ24, HO_9, HO_11, Ha_, BK216, BK217, BK228, HB⟩ := hcut
       cases kq with
       | zero => exact absurd HA.out (by simp [impl_diffused.j1])
       | succ kj24 =>
        have H := HA.out
        clear HA
        simp only [impl_diffused.j1] at H
        have HC27 := z0g H
        clear H
        go_upto_if 45 with (fail)
        repeat (go_quiet (fail);go_upto_if 45 with (fail))
        go_cut [14] (fun v14 wc => ∃ (kq : Nat) (x14_26 : Int), v14 = .int .i64 x14_26 ∧ Aside0 (impl_diffused.j2 kq l0 a2 x9_1 x11_1 x12_1 x37_1 x14_26 a1_1 x37_1 a1_0 a1_1 l1_2 t223 t224 x229002_1 = some (r1, r2, r3, r4, r5)) ∧ Aside0 (kq ≤ kj24) ∧ Aside0 (Kd.R (Kd.int .i64) 3 wc w.heap.size (fun k_ => some k_ ≠ (v230 : Value).ownBlock ∧ some k_ ≠ (u229002 : Value).ownBlock) v221 x9_1) ∧ Aside0 (Kd.R (Kd.int .i64) 3 wc w.heap.size (fun k_ => some k_ ≠ (v221 : Value).ownBlock ∧ some k_ ≠ (u229002 : Value).ownBlock) v230 x11_1) ∧ Aside0 (Kd.R (Kd.int .i64) 3 wc w.heap.size (fun k_ => some k_ ≠ (v221 : Value).ownBlock ∧ some k_ ≠ (v230 : Value).ownBlock) u229002 x229002_1) ∧ Aside0 (wc.heap[gb216]? = some (.cells #[.int .i64 a1_0, .int .i64 a1_1, (.slice A1_2 l1_2.length c1_2)] 31 (0, 0))) ∧ Aside0 (wc.heap[gb217]? = some (.cells #[.int .i64 0, .int .i64 0, (.slice none 0 0)] 31 (0, 0))) ∧ Aside0 (wc.heap[gb228]? = some (.cells #[.int .i64 t223, .int .i64 t224, u229002] 31 (0, 0))) ∧ Aside0 (Below w.heap.size w wc))
        case first =>
         have H := HC27.out
         clear HC27
         by_cases c28 : x45_24 = true
         ·subst c28
          have H1 : (impl_diffused.j2 kj24 l0 a2 x9_1 x11_1 x12_1 x37_1 (-1) a1_1 x37_1 a1_0 a1_1 l1_2 t223 t224 x229002_1) = some (r1, r2, r3, r4, r5) := by rw [if_pos rfl] at H;first|exact H|(simp only [if_true] at H ⊢;exact H)
          clear H
          have H := H1
          clear H1
          have H' := z0g H
          clear H
          go_wp2
          repeat (go_quiet (fail);try go_wp2)
          go_meet
          case rel => exact ⟨_, ((-1)), (by first |rfl|(simp;done)|(simp [*];done)), H', ⟨by have := HK1.out;have := HJ24.out;first | omega|exact Nat.le_refl _⟩, ⟨by (with_reducible repeat (first|apply z8g|apply z9g|apply y1g));exact HO_9.out⟩, ⟨by (with_reducible repeat (first|apply z8g|apply z9g|apply y1g));exact HO_11.out⟩, ⟨by (with_reducible repeat (first|apply z8g|apply z9g|apply y1g));exact Ha_.out⟩, ⟨by (with_reducible repeat (first|refine z1g ?_ _|refine z3g ?_|refine z2g ?_ _));exact BK216.out⟩, ⟨by (with_reducible repeat (first|refine z1g ?_ _|refine z3g ?_|refine z2g ?_ _));exact BK217.out⟩, ⟨by (with_reducible repeat (first|refine z1g ?_ _|refine z3g ?_|refine z2g ?_ _));exact BK228.out⟩, ⟨by repeat (first|(with_reducible first|exact HB.out|apply z4g|apply z5g|apply z6g|refine z7g ?_ GE216.out|refine z7g ?_ GE217.out|refine z7g ?_ GE228.out)|exact HB.out)⟩⟩
         ·replace c28 := Bool.eq_false_iff.mpr c28
          subst c28
          have H1 : (impl_diffused.j2 kj24 l0 a2 x9_1 x11_1 x12_1 x37_1 1 a1_1 x37_1 a1_0 a1_1 l1_2 t223 t224 x229002_1) = some (r1, r2, r3, r4, r5) := by rw [if_neg (show ¬ (false = true) by decide)] at H;first|exact H|(simp only [if_true] at H ⊢;exact H)
          clear H
          have H := H1
          clear H1
          have H' := z0g H
          clear H
          go_wp2
          repeat (go_quiet (fail);try go_wp2)
          go_meet
          case rel => exact ⟨_, (1), (by first |rfl|(simp;done)|(simp [*];done)), H', ⟨by have := HK1.out;have := HJ24.out;first | omega|exact Nat.le_refl _⟩, ⟨by (with_reducible repeat (first|apply z8g|apply z9g|apply y1g));exact HO_9.out⟩, ⟨by (with_reducible repeat (first|apply z8g|apply z9g|apply y1g));exact HO_11.out⟩, ⟨by (with_reducible repeat (first|apply z8g|apply z9g|apply y1g));exact Ha_.out⟩, ⟨by (with_reducible repeat (first|refine z1g ?_ _|refine z3g ?_|refine z2g ?_ _));exact BK216.out⟩, ⟨by (with_reducible repeat (first|refine z1g ?_ _|refine z3g ?_|refine z2g ?_ _));exact BK217.out⟩, ⟨by (with_reducible repeat (first|refine z1g ?_ _|refine z3g ?_|refine z2g ?_ _));exact BK228.out⟩, ⟨by repeat (first|(with_reducible first|exact HB.out|apply z4g|apply z5g|apply z6g|refine z7g ?_ GE216.out|refine z7g ?_ GE217.out|refine z7g ?_ GE228.out)|exact HB.out)⟩⟩
        case rest =>
         clear HC27
         (try clear c1);(try clear c2);(try clear p2);(try clear c4);(try clear c6);(try clear c6b0);(try clear c6b1);(try clear c7);(try clear c7b0);(try clear c7b1);(try clear c10);(try clear c16);(try clear c17);(try clear c24);(try clear c24b0);(try clear c26);(try clear c28);(try clear hcz11_0);(try clear hcz11_1);(try clear hcz11_2);(try clear hcz13_0);(try clear hcz13_1);(try clear hcz13_2);(try clear hcz18_0);(try clear hcz18_1);(try clear hcz18_2);(try clear hcz20_0);(try clear hcz20_1);(try clear hcz20_2);(try clear hcz23_0);(try clear hcz23_1);(try clear hcz23_2);(try clear hfz11_0);(try clear hfz11_1);(try clear hfz11_2);(try clear hfz13_0);(try clear hfz13_1);(try clear hfz13_2);(try clear hfz18_0);(try clear hfz18_1);(try clear hfz18_2);(try clear hfz20_0);(try clear hfz20_1);(try clear hfz20_2);(try clear hfz23_0);(try clear hfz23_1);(try clear hfz23_2);(try clear p2)
         obtain ⟨kq, x14_26, rfl, HA, HJ26, HO_9, HO_11, Ha_, BK216, BK217, BK228, HB⟩ := hcut
         cases kq with
         | zero => exact absurd HA.out (by simp [impl_diffused.j2])
         | succ kj26 =>
          have H := HA.out
          clear HA
          simp only [impl_diffused.j2] at H
          have H' := z0g H
          clear H
          have hnb29 := NB216_217.out
          have hnc29 := NB217_216.out
          have hnb30 := NB216_228.out
          have hnc30 := NB228_216.out
          have hcz31_0 : wc.cell? ⟨gb216, 0, none⟩ = some (.int .i64 a1_0) := (x3g BK216.out 0).trans rfl
          have hcz31_1 : wc.cell? ⟨gb216, 1, none⟩ = some (.int .i64 a1_1) := (x3g BK216.out 1).trans rfl
          have hcz31_2 : wc.cell? ⟨gb216, 2, none⟩ = some (.slice A1_2 l1_2.length c1_2) := (x3g BK216.out 2).trans rfl
          have hfz31_0 := x2g BK216.out 0
          have hfz31_1 := x2g BK216.out 1
          have hfz31_2 := x2g BK216.out 2
          go_wp2
          repeat (go_quiet (fail);try go_wp2)
          go_loopg [12, 48] kj26 (fun kq v12 v48 w' => ∃ (x9_4 : List Int) (x11_4 : List Int) (x12_4 : Int) (x48_4 : Int) (x229002_4 : List Int) (u229002 : Value), v12 = .int .i64 x12_4 ∧ v48 = .int .i64 x48_4 ∧ Aside0 (impl_diffused.l1 kq l0 a2 x9_4 x11_4 x12_4 x37_1 x14_26 a1_1 x37_1 a1_0 x48_4 a1_0 a1_1 l1_2 t223 t224 x229002_4 = some (r1, r2, r3, r4, r5)) ∧ Aside0 (kq ≤ kj26) ∧ Aside0 (Kd.R (Kd.int .i64) 3 w' w.heap.size (fun k_ => some k_ ≠ (v230 : Value).ownBlock ∧ some k_ ≠ (u229002 : Value).ownBlock) v221 x9_4) ∧ Aside0 (Kd.R (Kd.int .i64) 3 w' w.heap.size (fun k_ => some k_ ≠ (v221 : Value).ownBlock ∧ some k_ ≠ (u229002 : Value).ownBlock) v230 x11_4) ∧ Aside0 (Kd.R (Kd.int .i64) 3 w' w.heap.size (fun k_ => some k_ ≠ (v221 : Value).ownBlock ∧ some k_ ≠ (v230 : Value).ownBlock) u229002 x229002_4) ∧ Aside0 (w'.heap[gb216]? = some (.cells #[.int .i64 a1_0, .int .i64 a1_1, (.slice A1_2 l1_2.length c1_2)] 31 (0, 0))) ∧ Aside0 (w'.heap[gb217]? = some (.cells #[.int .i64 0, .int .i64 0, (.slice none 0 0)] 31 (0, 0))) ∧ Aside0 (w'.heap[gb228]? = some (.cells #[.int .i64 t223, .int .i64 t224, u229002] 31 (0, 0))) ∧ Aside0 (Below w.heap.size w w'))
          case atStart => exact ⟨(x9_1), (x11_1), (x12_1), (0), (x229002_1), (u229002), (by first |rfl|(simp;done)|(simp [*];done)), (by first |rfl|(simp;done)|(simp [*];done)), H', ⟨Nat.le_refl _⟩, ⟨by (with_reducible repeat (first|apply z8g|apply z9g|apply y1g));exact HO_9.out⟩, ⟨by (with_reducible repeat (first|apply z8g|apply z9g|apply y1g));exact HO_11.out⟩, ⟨by (with_reducible repeat (first|apply z8g|apply z9g|apply y1g));exact Ha_.out⟩, ⟨by (with_reducible repeat (first|refine z1g ?_ _|refine z3g ?_|refine z2g ?_ _));exact BK216.out⟩, ⟨by (with_reducible repeat (first|refine z1g ?_ _|refine z3g ?_|refine z2g ?_ _));exact BK217.out⟩, ⟨by (with_reducible repeat (first|refine z1g ?_ _|refine z3g ?_|refine z2g ?_ _));exact BK228.out⟩, ⟨by repeat (first|(with_reducible first|exact HB.out|apply z4g|apply z5g|apply z6g|refine z7g ?_ GE216.out|refine z7g ?_ GE217.out|refine z7g ?_ GE228.out)|exact HB.out)⟩⟩
          case round =>
           clear H'
           (try clear c1);(try clear c2);(try clear p2);(try clear c3);(try clear c4);(try clear c6);(try clear c6b0);(try clear c6b1);(try clear c7);(try clear c7b0);(try clear c7b1);(try clear c10);(try clear c16);(try clear c17);(try clear c24);(try clear c24b0);(try clear c26);(try clear c28);(try clear c29);(try clear c30);(try clear hcz11_0);(try clear hcz11_1);(try clear hcz11_2);(try clear hcz13_0);(try clear hcz13_1);(try clear hcz13_2);(try clear hcz18_0);(try clear hcz18_1);(try clear hcz18_2);(try clear hcz20_0);(try clear hcz20_1);(try clear hcz20_2);(try clear hcz23_0);(try clear hcz23_1);(try clear hcz23_2);(try clear hcz31_0);(try clear hcz31_1);(try clear hcz31_2);(try clear hfz11_0);(try clear hfz11_1);(try clear hfz11_2);(try clear hfz13_0);(try clear hfz13_1);(try clear hfz13_2);(try clear hfz18_0);(try clear hfz18_1);(try clear hfz18_2);(try clear hfz20_0);(try clear hfz20_1);(try clear hfz20_2);(try clear hfz23_0);(try clear hfz23_1);(try clear hfz23_2);(try clear hfz31_0);(try clear hfz31_1);(try clear hfz31_2);(try clear p2)
           obtain ⟨x9_4, x11_4, x12_4, x48_4, x229002_4, u229002, rfl, rfl, HA, HK4, HO_9, HO_11, Ha_, BK216, BK217, BK228, HB⟩ := hrel
           cases gk with
           | zero => exact absurd HA.out (by simp [impl_diffused.l1])
           | succ k4 =>
            have H := HA.out
            clear HA
            simp only [impl_diffused.l1] at H
            by_cases c32 : x48_4 < a1_0
            ·rw [if_pos c32] at H
             have c32b0 : decide (x48_4 < a1_0) = true := decide_eq_true c32
             clear c32
             have HC33 := z0g H
             clear H
             go_upto_if 53 with (fail)
             repeat (go_quiet (fail);go_upto_if 53 with (fail))
             go_cut [16] (fun v16 wc => ∃ (kq : Nat) (x16_32 : Int), v16 = .int .i64 x16_32 ∧ Aside0 (impl_diffused.j4 kq l0 a2 x9_4 x11_4 x12_4 x37_1 x14_26 x16_32 a1_1 x37_1 a1_0 x48_4 a1_0 a1_1 l1_2 t223 t224 x229002_4 = some (r1, r2, r3, r4, r5)) ∧ Aside0 (kq ≤ k4) ∧ Aside0 (Kd.R (Kd.int .i64) 3 wc w.heap.size (fun k_ => some k_ ≠ (v230 : Value).ownBlock ∧ some k_ ≠ (u229002 : Value).ownBlock) v221 x9_4) ∧ Aside0 (Kd.R (Kd.int .i64) 3 wc w.heap.size (fun k_ => some k_ ≠ (v221 : Value).ownBlock ∧ some k_ ≠ (u229002 : Value).ownBlock) v230 x11_4) ∧ Aside0 (Kd.R (Kd.int .i64) 3 wc w.heap.size (fun k_ => some k_ ≠ (v221 : Value).ownBlock ∧ some k_ ≠ (v230 : Value).ownBlock) u229002 x229002_4) ∧ Aside0 (wc.heap[gb216]? = some (.cells #[.int .i64 a1_0, .int .i64 a1_1, (.slice A1_2 l1_2.length c1_2)] 31 (0, 0))) ∧ Aside0 (wc.heap[gb217]? = some (.cells #[.int .i64 0, .int .i64 0, (.slice none 0 0)] 31 (0, 0))) ∧ Aside0 (wc.heap[gb228]? = some (.cells #[.int .i64 t223, .int .i64 t224, u229002] 31 (0, 0))) ∧ Aside0 (Below w.heap.size w wc))
             case first =>
              have H := HC33.out
              clear HC33
              by_cases c34 : x14_26 < 0
              ·rw [if_pos c34] at H
               have c34b0 : decide (x14_26 < 0) = true := decide_eq_true c34
               clear c34
               (first | rw [c34b0]|(simp only [i64_w, i32_w];rw [c34b0]) | skip)
               have H' := z0g H
               clear H
               have hnb35 := NB216_217.out
               have hnc35 := NB217_216.out
               have hnb36 := NB216_228.out
               have hnc36 := NB228_216.out
               have hcz37_0 : wr.cell? ⟨gb216, 0, none⟩ = some (.int .i64 a1_0) := (x3g BK216.out 0).trans rfl
               have hcz37_1 : wr.cell? ⟨gb216, 1, none⟩ = some (.int .i64 a1_1) := (x3g BK216.out 1).trans rfl
               have hcz37_2 : wr.cell? ⟨gb216, 2, none⟩ = some (.slice A1_2 l1_2.length c1_2) := (x3g BK216.out 2).trans rfl
               have hfz37_0 := x2g BK216.out 0
               have hfz37_1 := x2g BK216.out 1
               have hfz37_2 := x2g BK216.out 2
               go_wp2
               repeat (go_quiet (fail);try go_wp2)
               go_meet
               case rel => exact ⟨_, (wrap64 ((wrap64 (a1_0 - 1)) - x48_4)), (by first |rfl|(simp;done)|(simp [*];done)), H', ⟨by have := HK1.out;have := HJ24.out;have := HJ26.out;have := HK4.out;first | omega|exact Nat.le_refl _⟩, ⟨by (with_reducible repeat (first|apply z8g|apply z9g|apply y1g));exact HO_9.out⟩, ⟨by (with_reducible repeat (first|apply z8g|apply z9g|apply y1g));exact HO_11.out⟩, ⟨by (with_reducible repeat (first|apply z8g|apply z9g|apply y1g));exact Ha_.out⟩, ⟨by (with_reducible repeat (first|refine z1g ?_ _|refine z3g ?_|refine z2g ?_ _));exact BK216.out⟩, ⟨by (with_reducible repeat (first|refine z1g ?_ _|refine z3g ?_|refine z2g ?_ _));exact BK217.out⟩, ⟨by (with_reducible repeat (first|refine z1g ?_ _|refine z3g ?_|refine z2g ?_ _));exact BK228.out⟩, ⟨by repeat (first|(with_reducible first|exact HB.out|apply z4g|apply z5g|apply z6g|refine z7g ?_ GE216.out|refine z7g ?_ GE217.out|refine z7g ?_ GE228.out)|exact HB.out)⟩⟩
              ·rw [if_neg c34] at H
               have c34b0 : decide (x14_26 < 0) = false := decide_eq_false c34
               clear c34
               (first | rw [c34b0]|(simp only [i64_w, i32_w];rw [c34b0]) | skip)
               have H' := z0g H
               clear H
               go_wp2
               repeat (go_quiet (fail);try go_wp2)
               go_meet
               case rel => exact ⟨_, (x48_4), (by first |rfl|(simp;done)|(simp [*];done)), H', ⟨by have := HK1.out;have := HJ24.out;have := HJ26.out;have := HK4.out;first | omega|exact Nat.le_refl _⟩, ⟨by (with_reducible repeat (first|apply z8g|apply z9g|apply y1g));exact HO_9.out⟩, ⟨by (with_reducible repeat (first|apply z8g|apply z9g|apply y1g));exact HO_11.out⟩, ⟨by (with_reducible repeat (first|apply z8g|apply z9g|apply y1g));exact Ha_.out⟩, ⟨by (with_reducible repeat (first|refine z1g ?_ _|refine z3g ?_|refine z2g ?_ _));exact BK216.out⟩, ⟨by (with_reducible repeat (first|refine z1g ?_ _|refine z3g ?_|refine z2g ?_ _));exact BK217.out⟩, ⟨by (with_reducible repeat (first|refine z1g ?_ _|refine z3g ?_|refine z2g ?_ _));exact BK228.out⟩, ⟨by repeat (first|(with_reducible first|exact HB.out|apply z4g|apply z5g|apply z6g|refine z7g ?_ GE216.out|refine z7g ?_ GE217.out|refine z7g ?_ GE228.out)|exact HB.out)⟩⟩
             case rest =>
              clear HC33
              (try clear c1);(try clear c2);(try clear p2);(try clear c3);(try clear c4);(try clear c6);(try clear c6b0);(try clear c6b1);(try clear p6);(try clear c7);(try clear c7b0);(try clear c7b1);(try clear c10);(try clear c16);(try clear c17);(try clear c24);(try clear c24b0);(try clear c26);(try clear c28);(try clear c29);(try clear c30);(try clear c32);(try clear c32b0);(try clear c34);(try clear c34b0);(try clear c35);(try clear c36);(try clear hcz11_0);(try clear hcz11_1);(try clear hcz11_2);(try clear hcz13_0);(try clear hcz13_1);(try clear hcz13_2);(try clear hcz18_0);(try clear hcz18_1);(try clear hcz18_2);(try clear hcz20_0);(try clear hcz20_1);(try clear hcz20_2);(try clear hcz23_0);(try clear hcz23_1);(try clear hcz23_2);(try clear hcz31_0);(try clear hcz31_1);(try clear hcz31_2);(try clear hcz37_0);(try clear hcz37_1);(try clear hcz37_2);(try clear hfz11_0);(try clear hfz11_1);(try clear hfz11_2);(try clear hfz13_0);(try clear hfz13_1);(try clear hfz13_2);(try clear hfz18_0);(try clear hfz18_1);(try clear hfz18_2);(try clear hfz20_0);(try clear hfz20_1);(try clear hfz20_2);(try clear hfz23_0);(try clear hfz23_1);(try clear hfz23_2);(try clear hfz31_0);(try clear hfz31_1);(try clear hfz31_2);(try clear hfz37_0);(try clear hfz37_1);(try clear hfz37_2);(try clear p2)
              obtain ⟨kq, x16_32, rfl, HA, HJ32, HO_9, HO_11, Ha_, BK216, BK217, BK228, HB⟩ := hcut
              cases kq with
              | zero => exact absurd HA.out (by simp [impl_diffused.j4])
              | succ kj32 =>
               have H := HA.out
               clear HA
               simp only [impl_diffused.j4] at H
               obtain ⟨ji38, hji38⟩ : ∃ j_ : Int, (wrap64 ((wrap64 (x37_1 * a1_0)) + x16_32)) = j_ := ⟨_, rfl⟩
               replace H : (if 0 ≤ (ji38) then (if (ji38) < (x9_4.length : Int) then (if (rd x9_4 (ji38)) ≥ 128 then (if (ji38) < (x229002_4.length : Int) then (impl_diffused.j5 kj32 l0 a2 x9_4 x11_4 x12_4 x37_1 x14_26 x16_32 ji38 (wrap64 ((rd x9_4 (ji38)) - 255)) a1_1 x37_1 a1_0 x48_4 a1_0 a1_1 l1_2 t223 t224 (x229002_4.set ((ji38) : Int).toNat 1)) else (none)) else (impl_diffused.j5 kj32 l0 a2 x9_4 x11_4 x12_4 x37_1 x14_26 x16_32 ji38 (rd x9_4 (ji38)) a1_1 x37_1 a1_0 x48_4 a1_0 a1_1 l1_2 t223 t224 x229002_4)) else (none)) else (none)) = some (r1, r2, r3, r4, r5) := by first|(rw [hji38] at H;exact H)|(simp only [hji38] at H ⊢;exact H)
               have hji38w : (IntKind.i64.wrap ((wrap64 (x37_1 * a1_0)) + x16_32)) = ji38 := (i64_w _).trans hji38
               by_cases c39 : 0 ≤ (ji38)
               ·rw [if_pos c39] at H
                have c39b0 : decide (0 ≤ (ji38)) = true := decide_eq_true c39
                clear c39
                by_cases c40 : (ji38) < (x9_4.length : Int)
                ·rw [if_pos c40] at H
                 have c40b0 : decide ((ji38) < (x9_4.length : Int)) = true := decide_eq_true c40
                 clear c40
                 have HC41 := z0g H
                 clear H
                 have hnb42 := NB216_217.out
                 have hnc42 := NB217_216.out
                 have hnb43 := NB216_228.out
                 have hnc43 := NB228_216.out
                 have hcz44_0 : wc.cell? ⟨gb216, 0, none⟩ = some (.int .i64 a1_0) := (x3g BK216.out 0).trans rfl
                 have hcz44_1 : wc.cell? ⟨gb216, 1, none⟩ = some (.int .i64 a1_1) := (x3g BK216.out 1).trans rfl
                 have hcz44_2 : wc.cell? ⟨gb216, 2, none⟩ = some (.slice A1_2 l1_2.length c1_2) := (x3g BK216.out 2).trans rfl
                 have hfz44_0 := x2g BK216.out 0
                 have hfz44_1 := x2g BK216.out 1
                 have hfz44_2 := x2g BK216.out 2
                 obtain ⟨Ao45, co45, eo45⟩ := Kd.R_slice HO_9.out
                 subst eo45
                 have p232 : 0 ≤ ((ji38) : Int) := of_decide_eq_true (by first|(with_reducible assumption) | assumption)
                 have q232 : (ji38) < (x9_4.length : Int) := of_decide_eq_true (by first|(with_reducible assumption) | assumption)
                 obtain ⟨ad232, e232, hx232_0⟩ := Kd.at_int (x5g HO_9.out).2.2 (ji38) p232 q232
                 cases e232
                 replace p232 := eq_true p232
                 replace q232 := eq_true q232
                 go_upto_if 70 with (fail)
                 repeat (go_quiet (fail);go_upto_if 70 with (fail))
                 go_cut [18] (fun v18 wc => ∃ (kq : Nat) (x9_40 : List Int) (x11_40 : List Int) (x18_40 : Int) (x229002_40 : List Int) (u229002 : Value), v18 = .int .i64 x18_40 ∧ Aside0 (impl_diffused.j5 kq l0 a2 x9_40 x11_40 x12_4 x37_1 x14_26 x16_32 ji38 x18_40 a1_1 x37_1 a1_0 x48_4 a1_0 a1_1 l1_2 t223 t224 x229002_40 = some (r1, r2, r3, r4, r5)) ∧ Aside0 (kq ≤ kj32) ∧ Aside0 (Kd.R (Kd.int .i64) 3 wc w.heap.size (fun k_ => some k_ ≠ (v230 : Value).ownBlock ∧ some k_ ≠ (u229002 : Value).ownBlock) (.slice (some ad232) x9_4.length co45) x9_40) ∧ Aside0 (Kd.R (Kd.int .i64) 3 wc w.heap.size (fun k_ => some k_ ≠ ((.slice (some ad232) x9_4.length co45) : Value).ownBlock ∧ some k_ ≠ (u229002 : Value).ownBlock) v230 x11_40) ∧ Aside0 (Kd.R (Kd.int .i64) 3 wc w.heap.size (fun k_ => some k_ ≠ ((.slice (some ad232) x9_4.length co45) : Value).ownBlock ∧ some k_ ≠ (v230 : Value).ownBlock) u229002 x229002_40) ∧ Aside0 (wc.heap[gb216]? = some (.cells #[.int .i64 a1_0, .int .i64 a1_1, (.slice A1_2 l1_2.length c1_2)] 31 (0, 0))) ∧ Aside0 (wc.heap[gb217]? = some (.cells #[.int .i64 0, .int .i64 0, (.slice none 0 0)] 31 (0, 0))) ∧ Aside0 (wc.heap[gb228]? = some (.cells #[.int .i64 t223, .int .i64 t224, u229002] 31 (0, 0))) ∧ Aside0 (Below w.heap.size w wc))
                 case first =>
                  have H := HC41.out
                  clear HC41
                  by_cases c46 : (rd x9_4 (ji38)) ≥ 128
                  ·rw [if_pos c46] at H
                   have c46b0 : decide (128 ≤ (rd x9_4 (ji38))) = true := decide_eq_true c46
                   clear c46
                   (first | rw [c46b0]|(simp only [i64_w, i32_w];rw [c46b0]) | skip)
                   by_cases c47 : (ji38) < (x229002_4.length : Int)
                   ·rw [if_pos c47] at H
                    have c47b0 : decide ((ji38) < (x229002_4.length : Int)) = true := decide_eq_true c47
                    clear c47
                    obtain ⟨y233, hy233⟩ : ∃ y_ : List Int, y_ = (x229002_4.set ((ji38) : Int).toNat 1) := ⟨_, rfl⟩
                    replace H : (impl_diffused.j5 kj32 l0 a2 x9_4 x11_4 x12_4 x37_1 x14_26 x16_32 ji38 (wrap64 ((rd x9_4 (ji38)) - 255)) a1_1 x37_1 a1_0 x48_4 a1_0 a1_1 l1_2 t223 t224 y233) = some (r1, r2, r3, r4, r5) := by first|(rw [hy233];with_reducible exact H)|(have H2_ := (Option.bind_some _ _).symm.trans H;rw [hy233];with_reducible exact H2_)|(have H2_ := (Option.bind_some _ _).symm.trans H;with_reducible exact H2_) | with_reducible exact H|(rw [hy233];exact H)|exact H
                    have Ny233 := z0g hy233
                    clear hy233
                    have H' := z0g H
                    clear H
                    have hnb49 := NB228_216.out
                    have hnc49 := NB216_228.out
                    have hnb50 := NB228_217.out
                    have hnc50 := NB217_228.out
                    have hcz51_0 : wc.cell? ⟨gb228, 0, none⟩ = some (.int .i64 t223) := (x3g BK228.out 0).trans rfl
                    have hcz51_1 : wc.cell? ⟨gb228, 1, none⟩ = some (.int .i64 t224) := (x3g BK228.out 1).trans rfl
                    have hcz51_2 : wc.cell? ⟨gb228, 2, none⟩ = some (u229002) := (x3g BK228.out 2).trans rfl
                    have hfz51_0 := x2g BK228.out 0
                    have hfz51_1 := x2g BK228.out 1
                    have hfz51_2 := x2g BK228.out 2
                    have p48 : 0 ≤ ((ji38) : Int) := of_decide_eq_true (by first|(with_reducible assumption) | assumption)
                    have q48 : ((ji38) : Int) < ((x229002_4.length : Int) : Int) := of_decide_eq_true (by first|(with_reducible assumption) | assumption)
                    obtain ⟨go48, co48, eo48, gb48, gl48, cl48, HG48⟩ := Kd.R_form Ha_.out (by omega)
                    (first | cases eo48|(injection eo48 with ea_ en_ ec_;(first | subst ea_|(injection ea_ with ea_;subst ea_));subst ec_;clear en_))
                    have GB48 := z0g gb48
                    have GG48 := z0g HG48
                    clear gb48 gl48 HG48
                    obtain ⟨hx48_0, hf48_0⟩ := Kd.R_celln 0 Ha_.out ((ji38) : Int) p48 q48
                    replace p48 := eq_true p48
                    replace q48 := eq_true q48
                    have HP52 := Kd.R_putg Ha_.out ((ji38) : Int) 1
                    go_wp2_with (first|((with_reducible refine gate_store (t := 3) (p := 74) rfl ?_);(try (rw [drewN_self wc];generalize hq_ : World.drewN wc _ = wc;have n0_ := z0g (Kd.R_at hq_ HO_9.out);have n1_ := z0g (Kd.R_at hq_ HO_11.out);have n2_ := z0g (Kd.R_at hq_ Ha_.out);have n3_ := z0g (blk_at hq_ BK216.out);have n4_ := z0g (blk_at hq_ BK217.out);have n5_ := z0g (blk_at hq_ BK228.out);have n6_ := z0g (below_at hq_ HB.out);clear hq_ HO_9 HO_11 Ha_ BK216 BK217 BK228 HB;have HO_9 := n0_;have HO_11 := n1_;have Ha_ := n2_;have BK216 := n3_;have BK217 := n4_;have BK228 := n5_;have HB := n6_;clear n0_ n1_ n2_ n3_ n4_ n5_ n6_;(try (obtain ⟨hxq_, hfq_⟩ := Kd.R_celln 0 Ha_.out ((ji38) : Int) (of_eq_true p48) (of_eq_true q48)));(try (have HP52 := Kd.R_putg Ha_.out ((ji38) : Int) 1))));refine store_event (t := 3) (p := 74) (v := ?vo_w53) (w1 := (wc.setCell ⟨go48, ((ji38) : Int).toNat, none⟩ (.int .i64 1))) ?hg ?ho ?hn ?hr ?_;(case ho => rfl);(case hg => rfl);(case hn => rfl);(case hr => first|(go_simp;done)|(go_simp;rfl)|(obtain ⟨_, _, eo_⟩ := Kd.R_slice HO_11.out;subst eo_;first|(go_simp;done)|(go_simp;rfl)));intro w53 hw;have hg : wc.grownBy w53 (some go48) := (by rw [hw];exact HP52.2);have hp_ : Kd.R (Kd.int .i64) 3 w53 w.heap.size (fun k_ => some k_ ≠ (.slice (some ad232) x9_4.length co45 : Value).ownBlock ∧ some k_ ≠ (v230 : Value).ownBlock) (.slice (some ⟨go48, 0, none⟩) x229002_4.length co48) y233 := (by rw [hw, Ny233.out];exact HP52.1);clear HP52;have n0_ := z0g (Kd.R_after (v := (.slice (some ⟨go48, 0, none⟩) x229002_4.length co48)) (v1 := (.slice (some ⟨go48, 0, none⟩) x229002_4.length co48)) (ok := (fun k_ => some k_ ≠ (v230 : Value).ownBlock)) (by (with_reducible repeat (first|apply z8g|apply z9g|apply y1g));exact HO_9.out) hg (.inl rfl));have n1_ := z0g (Kd.R_after (v := (.slice (some ⟨go48, 0, none⟩) x229002_4.length co48)) (v1 := (.slice (some ⟨go48, 0, none⟩) x229002_4.length co48)) (ok := (fun k_ => some k_ ≠ (.slice (some ad232) x9_4.length co45 : Value).ownBlock)) (by (with_reducible repeat (first|apply z8g|apply z9g|apply y1g));exact HO_11.out) hg (.inl rfl));have n2_ := z0g (hp_);have n3_ := z0g (blk_grown (g := gb216) (o := .cells #[.int .i64 a1_0, .int .i64 a1_1, .slice A1_2 l1_2.length c1_2] 31 (0, 0)) (by (with_reducible repeat (first|refine z1g ?_ _|refine z3g ?_|refine z2g ?_ _));exact BK216.out) hg (x9g Ha_.out BK216.out (by decide)));have n4_ := z0g (blk_grown (g := gb217) (o := .cells #[.int .i64 0, .int .i64 0, .slice none 0 0] 31 (0, 0)) (by (with_reducible repeat (first|refine z1g ?_ _|refine z3g ?_|refine z2g ?_ _));exact BK217.out) hg (x9g Ha_.out BK217.out (by decide)));have n5_ := z0g (blk_grown (g := gb228) (o := .cells #[.int .i64 t223, .int .i64 t224, .slice (some ⟨go48, 0, none⟩) x229002_4.length co48] 31 (0, 0)) (by (with_reducible repeat (first|refine z1g ?_ _|refine z3g ?_|refine z2g ?_ _));exact BK228.out) hg (x9g Ha_.out BK228.out (by decide)));have n6_ := z0g ((by rw [hw];exact z7g (HB.out) GB48.out : Below w.heap.size w w53));clear HO_9;clear HO_11;clear Ha_;clear BK216;clear BK217;clear BK228;clear HB;have HO_9 := n0_;have HO_11 := n1_;have Ha_ := n2_;have BK216 := n3_;have BK217 := n4_;have BK228 := n5_;have HB := n6_;clear n0_ n1_ n2_ n3_ n4_ n5_ n6_;clear hg hw hp_))
                    repeat (go_quiet (fail);try go_wp2_with (first|((with_reducible refine gate_store (t := 3) (p := 74) rfl ?_);(try (rw [drewN_self wc];generalize hq_ : World.drewN wc _ = wc;have n0_ := z0g (Kd.R_at hq_ HO_9.out);have n1_ := z0g (Kd.R_at hq_ HO_11.out);have n2_ := z0g (Kd.R_at hq_ Ha_.out);have n3_ := z0g (blk_at hq_ BK216.out);have n4_ := z0g (blk_at hq_ BK217.out);have n5_ := z0g (blk_at hq_ BK228.out);have n6_ := z0g (below_at hq_ HB.out);clear hq_ HO_9 HO_11 Ha_ BK216 BK217 BK228 HB;have HO_9 := n0_;have HO_11 := n1_;have Ha_ := n2_;have BK216 := n3_;have BK217 := n4_;have BK228 := n5_;have HB := n6_;clear n0_ n1_ n2_ n3_ n4_ n5_ n6_;(try (obtain ⟨hxq_, hfq_⟩ := Kd.R_celln 0 Ha_.out ((ji38) : Int) (of_eq_true p48) (of_eq_true q48)));(try (have HP52 := Kd.R_putg Ha_.out ((ji38) : Int) 1))));refine store_event (t := 3) (p := 74) (v := ?vo_w53) (w1 := (wc.setCell ⟨go48, ((ji38) : Int).toNat, none⟩ (.int .i64 1))) ?hg ?ho ?hn ?hr ?_;(case ho => rfl);(case hg => rfl);(case hn => rfl);(case hr => first|(go_simp;done)|(go_simp;rfl)|(obtain ⟨_, _, eo_⟩ := Kd.R_slice HO_11.out;subst eo_;first|(go_simp;done)|(go_simp;rfl)));intro w53 hw;have hg : wc.grownBy w53 (some go48) := (by rw [hw];exact HP52.2);have hp_ : Kd.R (Kd.int .i64) 3 w53 w.heap.size (fun k_ => some k_ ≠ (.slice (some ad232) x9_4.length co45 : Value).ownBlock ∧ some k_ ≠ (v230 : Value).ownBlock) (.slice (some ⟨go48, 0, none⟩) x229002_4.length co48) y233 := (by rw [hw, Ny233.out];exact HP52.1);clear HP52;have n0_ := z0g (Kd.R_after (v := (.slice (some ⟨go48, 0, none⟩) x229002_4.length co48)) (v1 := (.slice (some ⟨go48, 0, none⟩) x229002_4.length co48)) (ok := (fun k_ => some k_ ≠ (v230 : Value).ownBlock)) (by (with_reducible repeat (first|apply z8g|apply z9g|apply y1g));exact HO_9.out) hg (.inl rfl));have n1_ := z0g (Kd.R_after (v := (.slice (some ⟨go48, 0, none⟩) x229002_4.length co48)) (v1 := (.slice (some ⟨go48, 0, none⟩) x229002_4.length co48)) (ok := (fun k_ => some k_ ≠ (.slice (some ad232) x9_4.length co45 : Value).ownBlock)) (by (with_reducible repeat (first|apply z8g|apply z9g|apply y1g));exact HO_11.out) hg (.inl rfl));have n2_ := z0g (hp_);have n3_ := z0g (blk_grown (g := gb216) (o := .cells #[.int .i64 a1_0, .int .i64 a1_1, .slice A1_2 l1_2.length c1_2] 31 (0, 0)) (by (with_reducible repeat (first|refine z1g ?_ _|refine z3g ?_|refine z2g ?_ _));exact BK216.out) hg (x9g Ha_.out BK216.out (by decide)));have n4_ := z0g (blk_grown (g := gb217) (o := .cells #[.int .i64 0, .int .i64 0, .slice none 0 0] 31 (0, 0)) (by (with_reducible repeat (first|refine z1g ?_ _|refine z3g ?_|refine z2g ?_ _));exact BK217.out) hg (x9g Ha_.out BK217.out (by decide)));have n5_ := z0g (blk_grown (g := gb228) (o := .cells #[.int .i64 t223, .int .i64 t224, .slice (some ⟨go48, 0, none⟩) x229002_4.length co48] 31 (0, 0)) (by (with_reducible repeat (first|refine z1g ?_ _|refine z3g ?_|refine z2g ?_ _));exact BK228.out) hg (x9g Ha_.out BK228.out (by decide)));have n6_ := z0g ((by rw [hw];exact z7g (HB.out) GB48.out : Below w.heap.size w w53));clear HO_9;clear HO_11;clear Ha_;clear BK216;clear BK217;clear BK228;clear HB;have HO_9 := n0_;have HO_11 := n1_;have Ha_ := n2_;have BK216 := n3_;have BK217 := n4_;have BK228 := n5_;have HB := n6_;clear n0_ n1_ n2_ n3_ n4_ n5_ n6_;clear hg hw hp_)))
                    go_meet
                    case rel => exact ⟨_, (x9_4), (x11_4), (wrap64 ((rd x9_4 (ji38)) - 255)), (y233), (.slice (some ⟨go48, 0, none⟩) x229002_4.length co48), (by first |rfl|(simp;done)|(simp only [← hji38] <;> (first |rfl | simp))|(simp [*];done)), H', ⟨by have := HK1.out;have := HJ24.out;have := HJ26.out;have := HK4.out;have := HJ32.out;first | omega|exact Nat.le_refl _⟩, ⟨by (with_reducible repeat (first|apply z8g|apply z9g|apply y1g));exact HO_9.out⟩, ⟨by (with_reducible repeat (first|apply z8g|apply z9g|apply y1g));exact HO_11.out⟩, ⟨by (with_reducible repeat (first|apply z8g|apply z9g|apply y1g));exact Ha_.out⟩, ⟨by (with_reducible repeat (first|refine z1g ?_ _|refine z3g ?_|refine z2g ?_ _));exact BK216.out⟩, ⟨by (with_reducible repeat (first|refine z1g ?_ _|refine z3g ?_|refine z2g ?_ _));exact BK217.out⟩, ⟨by (with_reducible repeat (first|refine z1g ?_ _|refine z3g ?_|refine z2g ?_ _));exact BK228.out⟩, ⟨by repeat (first|(with_reducible first|exact HB.out|apply z4g|apply z5g|apply z6g|refine z7g ?_ GE216.out|refine z7g ?_ GE217.out|refine z7g ?_ GE228.out)|exact HB.out)⟩⟩
                   ·rw [if_neg c47] at H
                    exact absurd H (by simp)
                  ·rw [if_neg c46] at H
                   have c46b0 : decide (128 ≤ (rd x9_4 (ji38))) = false := decide_eq_false c46
                   clear c46
                   (first | rw [c46b0]|(simp only [i64_w, i32_w];rw [c46b0]) | skip)
                   have H' := z0g H
                   clear H
                   go_wp2
                   repeat (go_quiet (fail);try go_wp2)
                   go_meet
                   case rel => exact ⟨_, (x9_4), (x11_4), (rd x9_4 (ji38)), (x229002_4), (u229002), (by first |rfl|(simp;done)|(simp only [← hji38] <;> (first |rfl | simp))|(simp [*];done)), H', ⟨by have := HK1.out;have := HJ24.out;have := HJ26.out;have := HK4.out;have := HJ32.out;first | omega|exact Nat.le_refl _⟩, ⟨by (with_reducible repeat (first|apply z8g|apply z9g|apply y1g));exact HO_9.out⟩, ⟨by (with_reducible repeat (first|apply z8g|apply z9g|apply y1g));exact HO_11.out⟩, ⟨by (with_reducible repeat (first|apply z8g|apply z9g|apply y1g));exact Ha_.out⟩, ⟨by (with_reducible repeat (first|refine z1g ?_ _|refine z3g ?_|refine z2g ?_ _));exact BK216.out⟩, ⟨by (with_reducible repeat (first|refine z1g ?_ _|refine z3g ?_|refine z2g ?_ _));exact BK217.out⟩, ⟨by (with_reducible repeat (first|refine z1g ?_ _|refine z3g ?_|refine z2g ?_ _));exact BK228.out⟩, ⟨by repeat (first|(with_reducible first|exact HB.out|apply z4g|apply z5g|apply z6g|refine z7g ?_ GE216.out|refine z7g ?_ GE217.out|refine z7g ?_ GE228.out)|exact HB.out)⟩⟩
                 case rest =>
                  clear HC41
                  (try clear c1);(try clear c2);(try clear p2);(try clear q2);(try clear hx2);(try clear c3);(try clear c4);(try clear p4);(try clear q4);(try clear hx4);(try clear hf4);(try clear c5);(try clear c6);(try clear c6b0);(try clear c6b1);(try clear p6);(try clear c7);(try clear c7b0);(try clear c7b1);(try clear c10);(try clear c16);(try clear c17);(try clear p23);(try clear q23);(try clear hx23);(try clear c24);(try clear c24b0);(try clear c26);(try clear c28);(try clear c29);(try clear c30);(try clear c32);(try clear c32b0);(try clear c34);(try clear c34b0);(try clear c35);(try clear c36);(try clear c39);(try clear c39b0);(try clear c40);(try clear c40b0);(try clear c42);(try clear c43);(try clear c46);(try clear c46b0);(try clear c47);(try clear c47b0);(try clear p48);(try clear q48);(try clear hx48);(try clear hf48);(try clear c49);(try clear c50);(try clear hcz11_0);(try clear hcz11_1);(try clear hcz11_2);(try clear hcz13_0);(try clear hcz13_1);(try clear hcz13_2);(try clear hcz18_0);(try clear hcz18_1);(try clear hcz18_2);(try clear hcz20_0);(try clear hcz20_1);(try clear hcz20_2);(try clear hcz23_0);(try clear hcz23_1);(try clear hcz23_2);(try clear hcz31_0);(try clear hcz31_1);(try clear hcz31_2);(try clear hcz37_0);(try clear hcz37_1);(try clear hcz37_2);(try clear hcz44_0);(try clear hcz44_1);(try clear hcz44_2);(try clear hcz51_0);(try clear hcz51_1);(try clear hcz51_2);(try clear hfz11_0);(try clear hfz11_1);(try clear hfz11_2);(try clear hfz13_0);(try clear hfz13_1);(try clear hfz13_2);(try clear hfz18_0);(try clear hfz18_1);(try clear hfz18_2);(try clear hfz20_0);(try clear hfz20_1);(try clear hfz20_2);(try clear hfz23_0);(try clear hfz23_1);(try clear hfz23_2);(try clear hfz31_0);(try clear hfz31_1);(try clear hfz31_2);(try clear hfz37_0);(try clear hfz37_1);(try clear hfz37_2);(try clear hfz44_0);(try clear hfz44_1);(try clear hfz44_2);(try clear hfz51_0);(try clear hfz51_1);(try clear hfz51_2);(try clear hx232_0);(try clear hx48_0);(try clear p2);(try clear p232);(try clear p48);(try clear p6);(try clear q232);(try clear q48)
                  obtain ⟨kq, x9_40, x11_40, x18_40, x229002_40, u229002, rfl, HA, HJ40, HO_9, HO_11, Ha_, BK216, BK217, BK228, HB⟩ := hcut
                  have hl9_40 := (x5g HO_9.out).1
                  rw [hl9_40] at HO_9
                  (try simp only [hl9_40])
                  (try simp only [hl9_40] at BK216)
                  (try simp only [hl9_40] at BK217)
                  (try simp only [hl9_40] at BK228)
                  (try simp only [hl9_40] at HO_11)
                  (try simp only [hl9_40] at Ha_)
                  cases kq with
                  | zero => exact absurd HA.out (by simp [impl_diffused.j5])
                  | succ kj40 =>
                   have H := HA.out
                   clear HA
                   simp only [impl_diffused.j5] at H
                   by_cases c54 : 0 ≤ ji38
                   ·rw [if_pos c54] at H
                    have c54b0 : decide (0 ≤ ji38) = true := decide_eq_true c54
                    clear c54
                    by_cases c55 : ji38 < (x11_40.length : Int)
                    ·rw [if_pos c55] at H
                     have c55b0 : decide (ji38 < (x11_40.length : Int)) = true := decide_eq_true c55
                     clear c55
                     obtain ⟨y234, hy234⟩ : ∃ y_ : List Int, y_ = (x11_40.set (ji38 : Int).toNat x18_40) := ⟨_, rfl⟩
                     replace H : ((impl_shares.f kj40 l0 x18_40).bind fun t235 => (impl_diffused.l2 kj40 l0 a2 x9_40 y234 x12_4 x37_1 x14_26 x16_32 a1_1 x37_1 a1_0 x48_4 t235 (t235.length : Int) 0 a1_0 a1_1 l1_2 t223 t224 x229002_40)) = some (r1, r2, r3, r4, r5) := by first|(rw [hy234];with_reducible exact H)|(have H2_ := (Option.bind_some _ _).symm.trans H;rw [hy234];with_reducible exact H2_)|(have H2_ := (Option.bind_some _ _).symm.trans H;with_reducible exact H2_) | with_reducible exact H|(rw [hy234];exact H)|exact H
                     have Ny234 := z0g hy234
                     clear hy234
                     replace H := Option.bind_eq_some_iff.mp H
                     obtain ⟨t235, A570, H⟩ := H
                     replace H : (impl_diffused.l2 kj40 l0 a2 x9_40 y234 x12_4 x37_1 x14_26 x16_32 a1_1 x37_1 a1_0 x48_4 t235 (t235.length : Int) 0 a1_0 a1_1 l1_2 t223 t224 x229002_40) = some (r1, r2, r3, r4, r5) := H
                     have A57 := z0g A570
                     clear A570
                     have H' := z0g H
                     clear H
                     have p56 : 0 ≤ (ji38 : Int) := of_decide_eq_true (by first|(with_reducible assumption) | assumption)
                     have q56 : (ji38 : Int) < ((x11_40.length : Int) : Int) := of_decide_eq_true (by first|(with_reducible assumption) | assumption)
                     obtain ⟨go56, co56, eo56, gb56, gl56, cl56, HG56⟩ := Kd.R_form HO_11.out (by omega)
                     (first | cases eo56|(injection eo56 with ea_ en_ ec_;(first | subst ea_|(injection ea_ with ea_;subst ea_));subst ec_;clear en_))
                     have GB56 := z0g gb56
                     have GG56 := z0g HG56
                     clear gb56 gl56 HG56
                     obtain ⟨hx56_0, hf56_0⟩ := Kd.R_celln 0 HO_11.out (ji38 : Int) p56 q56
                     replace p56 := eq_true p56
                     replace q56 := eq_true q56
                     have HP58 := Kd.R_putg HO_11.out (ji38 : Int) x18_40
                     go_wp2_with (first|((with_reducible refine gate_store (t := 3) (p := 80) rfl ?_);(try (rw [drewN_self wc];generalize hq_ : World.drewN wc _ = wc;have n0_ := z0g (Kd.R_at hq_ HO_9.out);have n1_ := z0g (Kd.R_at hq_ HO_11.out);have n2_ := z0g (Kd.R_at hq_ Ha_.out);have n3_ := z0g (blk_at hq_ BK216.out);have n4_ := z0g (blk_at hq_ BK217.out);have n5_ := z0g (blk_at hq_ BK228.out);have n6_ := z0g (below_at hq_ HB.out);clear hq_ HO_9 HO_11 Ha_ BK216 BK217 BK228 HB;have HO_9 := n0_;have HO_11 := n1_;have Ha_ := n2_;have BK216 := n3_;have BK217 := n4_;have BK228 := n5_;have HB := n6_;clear n0_ n1_ n2_ n3_ n4_ n5_ n6_;(try (have HP58 := Kd.R_putg HO_11.out (ji38 : Int) x18_40))));refine store_event (t := 3) (p := 80) (v := ?vo_w59) (w1 := (wc.setCell ⟨go56, (ji38 : Int).toNat, none⟩ (.int .i64 x18_40))) ?hg ?ho ?hn ?hr ?_;(case ho => rfl);(case hg => rfl);(case hn => rfl);(case hr => first|(go_simp;done)|(go_simp;rfl));intro w59 hw;have hg : wc.grownBy w59 (some go56) := (by rw [hw];exact HP58.2);have hp_ : Kd.R (Kd.int .i64) 3 w59 w.heap.size (fun k_ => some k_ ≠ (.slice (some ad232) x9_40.length co45 : Value).ownBlock ∧ some k_ ≠ (u229002 : Value).ownBlock) (.slice (some ⟨go56, 0, none⟩) x11_40.length co56) y234 := (by rw [hw, Ny234.out];exact HP58.1);clear HP58;have n0_ := z0g (Kd.R_after (v := (.slice (some ⟨go56, 0, none⟩) x11_40.length co56)) (v1 := (.slice (some ⟨go56, 0, none⟩) x11_40.length co56)) (ok := (fun k_ => some k_ ≠ (u229002 : Value).ownBlock)) (by (with_reducible repeat (first|apply z8g|apply z9g|apply y1g));exact x6g HO_9.out (fun _ hk => ⟨hk.2, hk.1⟩)) hg (.inl rfl));have n1_ := z0g (hp_);have n2_ := z0g (Kd.R_after (v := (.slice (some ⟨go56, 0, none⟩) x11_40.length co56)) (v1 := (.slice (some ⟨go56, 0, none⟩) x11_40.length co56)) (ok := (fun k_ => some k_ ≠ (.slice (some ad232) x9_40.length co45 : Value).ownBlock)) (by (with_reducible repeat (first|apply z8g|apply z9g|apply y1g));exact Ha_.out) hg (.inl rfl));have n3_ := z0g (blk_grown (g := gb216) (o := .cells #[.int .i64 a1_0, .int .i64 a1_1, .slice A1_2 l1_2.length c1_2] 31 (0, 0)) (by (with_reducible repeat (first|refine z1g ?_ _|refine z3g ?_|refine z2g ?_ _));exact BK216.out) hg (x9g HO_11.out BK216.out (by decide)));have n4_ := z0g (blk_grown (g := gb217) (o := .cells #[.int .i64 0, .int .i64 0, .slice none 0 0] 31 (0, 0)) (by (with_reducible repeat (first|refine z1g ?_ _|refine z3g ?_|refine z2g ?_ _));exact BK217.out) hg (x9g HO_11.out BK217.out (by decide)));have n5_ := z0g (blk_grown (g := gb228) (o := .cells #[.int .i64 t223, .int .i64 t224, u229002] 31 (0, 0)) (by (with_reducible repeat (first|refine z1g ?_ _|refine z3g ?_|refine z2g ?_ _));exact BK228.out) hg (x9g HO_11.out BK228.out (by decide)));have n6_ := z0g ((by rw [hw];exact z7g (HB.out) GB56.out : Below w.heap.size w w59));clear HO_9;clear HO_11;clear Ha_;clear BK216;clear BK217;clear BK228;clear HB;have HO_9 := n0_;have HO_11 := n1_;have Ha_ := n2_;have BK216 := n3_;have BK217 := n4_;have BK228 := n5_;have HB := n6_;clear n0_ n1_ n2_ n3_ n4_ n5_ n6_;clear hg hw hp_)|(go_at_call 64;(with_reducible refine (impl_shares.calls kj40 _ _ l0 x18_40 t235 _ ?side1 ?side2 A57.out).mono ?_);(case side1 => repeat (first|exact (Kd.C_below HR0.out HB.out)|(with_reducible refine Kd.C_alloc ?_ _)|(with_reducible refine Kd.C_drewN ?_ _)|(with_reducible refine Kd.C_drew ?_)));(case side2 => exact HC0.out);rintro e w60 ⟨v236, rfl, ho0, hb⟩;have n0_ := z0g (y8g (by (with_reducible repeat (first|apply z8g|apply z9g|apply y1g));exact HO_9.out) (w2_g ho0) hb);have n1_ := z0g (y8g (by (with_reducible repeat (first|apply z8g|apply z9g|apply y1g));exact HO_11.out) (w2_g ho0) hb);have n2_ := z0g (y8g (by (with_reducible repeat (first|apply z8g|apply z9g|apply y1g));exact Ha_.out) (w2_g ho0) hb);have n3_ := z0g (Kd.R_lower (Kd.R_new' (Kd.R_new' (Kd.R_new' ho0 (Kd.R_lt (by (with_reducible repeat (first|apply z8g|apply z9g|apply y1g));exact HO_9.out))) (Kd.R_lt (by (with_reducible repeat (first|apply z8g|apply z9g|apply y1g));exact HO_11.out))) (Kd.R_lt (by (with_reducible repeat (first|apply z8g|apply z9g|apply y1g));exact Ha_.out))) (y7g (by repeat (first|(with_reducible first|exact HB.out|apply z4g|apply z5g|apply z6g|refine z7g ?_ GE216.out|refine z7g ?_ GE217.out|refine z7g ?_ GE228.out)|exact HB.out))));have n4_ := z0g (y5g (g := gb216) (o := .cells #[.int .i64 a1_0, .int .i64 a1_1, .slice A1_2 l1_2.length c1_2] 31 (0, 0)) (by (with_reducible repeat (first|refine z1g ?_ _|refine z3g ?_|refine z2g ?_ _));exact BK216.out) hb);have n5_ := z0g (y5g (g := gb217) (o := .cells #[.int .i64 0, .int .i64 0, .slice none 0 0] 31 (0, 0)) (by (with_reducible repeat (first|refine z1g ?_ _|refine z3g ?_|refine z2g ?_ _));exact BK217.out) hb);have n6_ := z0g (y5g (g := gb228) (o := .cells #[.int .i64 t223, .int .i64 t224, u229002] 31 (0, 0)) (by (with_reducible repeat (first|refine z1g ?_ _|refine z3g ?_|refine z2g ?_ _));exact BK228.out) hb);have n7_ := z0g (y6g (by repeat (first|(with_reducible first|exact HB.out|apply z4g|apply z5g|apply z6g|refine z7g ?_ GE216.out|refine z7g ?_ GE217.out|refine z7g ?_ GE228.out)|exact HB.out)) hb);clear HO_9;clear HO_11;clear Ha_;clear BK216;clear BK217;clear BK228;clear HB;have HO_9 := n0_;have HO_11 := n1_;have Ha_ := n2_;have HO237 := n3_;have BK216 := n4_;have BK217 := n5_;have BK228 := n6_;have HB := n7_;clear n0_ n1_ n2_ n3_ n4_ n5_ n6_ n7_;(try clear hb);(try clear ho0);obtain ⟨Ao61, co61, eo61⟩ := Kd.R_slice HO237.out;subst eo61))
                     repeat (go_quiet (fail);try go_wp2_with (first|((with_reducible refine gate_store (t := 3) (p := 80) rfl ?_);(try (rw [drewN_self wc];generalize hq_ : World.drewN wc _ = wc;have n0_ := z0g (Kd.R_at hq_ HO_9.out);have n1_ := z0g (Kd.R_at hq_ HO_11.out);have n2_ := z0g (Kd.R_at hq_ Ha_.out);have n3_ := z0g (blk_at hq_ BK216.out);have n4_ := z0g (blk_at hq_ BK217.out);have n5_ := z0g (blk_at hq_ BK228.out);have n6_ := z0g (below_at hq_ HB.out);clear hq_ HO_9 HO_11 Ha_ BK216 BK217 BK228 HB;have HO_9 := n0_;have HO_11 := n1_;have Ha_ := n2_;have BK216 := n3_;have BK217 := n4_;have BK228 := n5_;have HB := n6_;clear n0_ n1_ n2_ n3_ n4_ n5_ n6_;(try (have HP58 := Kd.R_putg HO_11.out (ji38 : Int) x18_40))));refine store_event (t := 3) (p := 80) (v := ?vo_w59) (w1 := (wc.setCell ⟨go56, (ji38 : Int).toNat, none⟩ (.int .i64 x18_40))) ?hg ?ho ?hn ?hr ?_;(case ho => rfl);(case hg => rfl);(case hn => rfl);(case hr => first|(go_simp;done)|(go_simp;rfl));intro w59 hw;have hg : wc.grownBy w59 (some go56) := (by rw [hw];exact HP58.2);have hp_ : Kd.R (Kd.int .i64) 3 w59 w.heap.size (fun k_ => some k_ ≠ (.slice (some ad232) x9_40.length co45 : Value).ownBlock ∧ some k_ ≠ (u229002 : Value).ownBlock) (.slice (some ⟨go56, 0, none⟩) x11_40.length co56) y234 := (by rw [hw, Ny234.out];exact HP58.1);clear HP58;have n0_ := z0g (Kd.R_after (v := (.slice (some ⟨go56, 0, none⟩) x11_40.length co56)) (v1 := (.slice (some ⟨go56, 0, none⟩) x11_40.length co56)) (ok := (fun k_ => some k_ ≠ (u229002 : Value).ownBlock)) (by (with_reducible repeat (first|apply z8g|apply z9g|apply y1g));exact x6g HO_9.out (fun _ hk => ⟨hk.2, hk.1⟩)) hg (.inl rfl));have n1_ := z0g (hp_);have n2_ := z0g (Kd.R_after (v := (.slice (some ⟨go56, 0, none⟩) x11_40.length co56)) (v1 := (.slice (some ⟨go56, 0, none⟩) x11_40.length co56)) (ok := (fun k_ => some k_ ≠ (.slice (some ad232) x9_40.length co45 : Value).ownBlock)) (by (with_reducible repeat (first|apply z8g|apply z9g|apply y1g));exact Ha_.out) hg (.inl rfl));have n3_ := z0g (blk_grown (g := gb216) (o := .cells #[.int .i64 a1_0, .int .i64 a1_1, .slice A1_2 l1_2.length c1_2] 31 (0, 0)) (by (with_reducible repeat (first|refine z1g ?_ _|refine z3g ?_|refine z2g ?_ _));exact BK216.out) hg (x9g HO_11.out BK216.out (by decide)));have n4_ := z0g (blk_grown (g := gb217) (o := .cells #[.int .i64 0, .int .i64 0, .slice none 0 0] 31 (0, 0)) (by (with_reducible repeat (first|refine z1g ?_ _|refine z3g ?_|refine z2g ?_ _));exact BK217.out) hg (x9g HO_11.out BK217.out (by decide)));have n5_ := z0g (blk_grown (g := gb228) (o := .cells #[.int .i64 t223, .int .i64 t224, u229002] 31 (0, 0)) (by (with_reducible repeat (first|refine z1g ?_ _|refine z3g ?_|refine z2g ?_ _));exact BK228.out) hg (x9g HO_11.out BK228.out (by decide)));have n6_ := z0g ((by rw [hw];exact z7g (HB.out) GB56.out : Below w.heap.size w w59));clear HO_9;clear HO_11;clear Ha_;clear BK216;clear BK217;clear BK228;clear HB;have HO_9 := n0_;have HO_11 := n1_;have Ha_ := n2_;have BK216 := n3_;have BK217 := n4_;have BK228 := n5_;have HB := n6_;clear n0_ n1_ n2_ n3_ n4_ n5_ n6_;clear hg hw hp_)|(go_at_call 64;(with_reducible refine (impl_shares.calls kj40 _ _ l0 x18_40 t235 _ ?side1 ?side2 A57.out).mono ?_);(case side1 => repeat (first|exact (Kd.C_below HR0.out HB.out)|(with_reducible refine Kd.C_alloc ?_ _)|(with_reducible refine Kd.C_drewN ?_ _)|(with_reducible refine Kd.C_drew ?_)));(case side2 => exact HC0.out);rintro e w60 ⟨v236, rfl, ho0, hb⟩;have n0_ := z0g (y8g (by (with_reducible repeat (first|apply z8g|apply z9g|apply y1g));exact HO_9.out) (w2_g ho0) hb);have n1_ := z0g (y8g (by (with_reducible repeat (first|apply z8g|apply z9g|apply y1g));exact HO_11.out) (w2_g ho0) hb);have n2_ := z0g (y8g (by (with_reducible repeat (first|apply z8g|apply z9g|apply y1g));exact Ha_.out) (w2_g ho0) hb);have n3_ := z0g (Kd.R_lower (Kd.R_new' (Kd.R_new' (Kd.R_new' ho0 (Kd.R_lt (by (with_reducible repeat (first|apply z8g|apply z9g|apply y1g));exact HO_9.out))) (Kd.R_lt (by (with_reducible repeat (first|apply z8g|apply z9g|apply y1g));exact HO_11.out))) (Kd.R_lt (by (with_reducible repeat (first|apply z8g|apply z9g|apply y1g));exact Ha_.out))) (y7g (by repeat (first|(with_reducible first|exact HB.out|apply z4g|apply z5g|apply z6g|refine z7g ?_ GE216.out|refine z7g ?_ GE217.out|refine z7g ?_ GE228.out)|exact HB.out))));have n4_ := z0g (y5g (g := gb216) (o := .cells #[.int .i64 a1_0, .int .i64 a1_1, .slice A1_2 l1_2.length c1_2] 31 (0, 0)) (by (with_reducible repeat (first|refine z1g ?_ _|refine z3g ?_|refine z2g ?_ _));exact BK216.out) hb);have n5_ := z0g (y5g (g := gb217) (o := .cells #[.int .i64 0, .int .i64 0, .slice none 0 0] 31 (0, 0)) (by (with_reducible repeat (first|refine z1g ?_ _|refine z3g ?_|refine z2g ?_ _));exact BK217.out) hb);have n6_ := z0g (y5g (g := gb228) (o := .cells #[.int .i64 t223, .int .i64 t224, u229002] 31 (0, 0)) (by (with_reducible repeat (first|refine z1g ?_ _|refine z3g ?_|refine z2g ?_ _));exact BK228.out) hb);have n7_ := z0g (y6g (by repeat (first|(with_reducible first|exact HB.out|apply z4g|apply z5g|apply z6g|refine z7g ?_ GE216.out|refine z7g ?_ GE217.out|refine z7g ?_ GE228.out)|exact HB.out)) hb);clear HO_9;clear HO_11;clear Ha_;clear BK216;clear BK217;clear BK228;clear HB;have HO_9 := n0_;have HO_11 := n1_;have Ha_ := n2_;have HO237 := n3_;have BK216 := n4_;have BK217 := n5_;have BK228 := n6_;have HB := n7_;clear n0_ n1_ n2_ n3_ n4_ n5_ n6_ n7_;(try clear hb);(try clear ho0);obtain ⟨Ao61, co61, eo61⟩ := Kd.R_slice HO237.out;subst eo61)))
                     go_loopg [12, 85] kj40 (fun kq v12 v85 w' => ∃ (x9_7 : List Int) (x12_7 : Int) (x85_7 : Int), v12 = .int .i64 x12_7 ∧ v85 = .int .i64 x85_7 ∧ Aside0 (impl_diffused.l2 kq l0 a2 x9_7 y234 x12_7 x37_1 x14_26 x16_32 a1_1 x37_1 a1_0 x48_4 t235 (t235.length : Int) x85_7 a1_0 a1_1 l1_2 t223 t224 x229002_40 = some (r1, r2, r3, r4, r5)) ∧ Aside0 (kq ≤ kj40) ∧ Aside0 (Kd.R (Kd.int .i64) 3 w' w.heap.size (fun k_ => some k_ ≠ ((.slice (some ⟨go56, 0, none⟩) x11_40.length co56) : Value).ownBlock ∧ some k_ ≠ ((.slice Ao61 t235.length co61) : Value).ownBlock ∧ some k_ ≠ (u229002 : Value).ownBlock) (.slice (some ad232) x9_40.length co45) x9_7) ∧ Aside0 (Kd.R (Kd.int .i64) 3 w' w.heap.size (fun k_ => some k_ ≠ ((.slice (some ad232) x9_40.length co45) : Value).ownBlock ∧ some k_ ≠ ((.slice Ao61 t235.length co61) : Value).ownBlock ∧ some k_ ≠ (u229002 : Value).ownBlock) (.slice (some ⟨go56, 0, none⟩) x11_40.length co56) y234) ∧ Aside0 (Kd.R (Kd.int .i64) 3 w' w.heap.size (fun k_ => some k_ ≠ ((.slice (some ad232) x9_40.length co45) : Value).ownBlock ∧ some k_ ≠ ((.slice (some ⟨go56, 0, none⟩) x11_40.length co56) : Value).ownBlock ∧ some k_ ≠ (u229002 : Value).ownBlock) (.slice Ao61 t235.length co61) t235) ∧ Aside0 (Kd.R (Kd.int .i64) 3 w' w.heap.size (fun k_ => some k_ ≠ ((.slice (some ad232) x9_40.length co45) : Value).ownBlock ∧ some k_ ≠ ((.slice (some ⟨go56, 0, none⟩) x11_40.length co56) : Value).ownBlock ∧ some k_ ≠ ((.slice Ao61 t235.length co61) : Value).ownBlock) u229002 x229002_40) ∧ Aside0 (w'.heap[gb216]? = some (.cells #[.int .i64 a1_0, .int .i64 a1_1, (.slice A1_2 l1_2.length c1_2)] 31 (0, 0))) ∧ Aside0 (w'.heap[gb217]? = some (.cells #[.int .i64 0, .int .i64 0, (.slice none 0 0)] 31 (0, 0))) ∧ Aside0 (w'.heap[gb228]? = some (.cells #[.int .i64 t223, .int .i64 t224, u229002] 31 (0, 0))) ∧ Aside0 (Below w.heap.size w w'))
                     case atStart => exact ⟨(x9_40), (x12_4), (0), (by first |rfl|(simp;done)|(simp [*];done)), (by first |rfl|(simp;done)|(simp [*];done)), H', ⟨Nat.le_refl _⟩, ⟨by (try simp only [hl9_40]);(with_reducible repeat (first|apply z8g|apply z9g|apply y1g));exact x6g HO_9.out (fun _ hk => ⟨hk.1.2, ⟨hk.2, hk.1.1⟩⟩)⟩, ⟨by (try simp only [hl9_40]);(with_reducible repeat (first|apply z8g|apply z9g|apply y1g));exact x6g HO_11.out (fun _ hk => ⟨hk.1.1, ⟨hk.2, hk.1.2⟩⟩)⟩, ⟨by (try simp only [hl9_40]);(with_reducible repeat (first|apply z8g|apply z9g|apply y1g));exact x6g HO237.out (fun _ hk => ⟨hk.1.1.2, ⟨hk.1.2, hk.2⟩⟩)⟩, ⟨by (try simp only [hl9_40]);(with_reducible repeat (first|apply z8g|apply z9g|apply y1g));exact x6g Ha_.out (fun _ hk => ⟨hk.1.1, ⟨hk.1.2, hk.2⟩⟩)⟩, ⟨by (try simp only [hl9_40]);(with_reducible repeat (first|refine z1g ?_ _|refine z3g ?_|refine z2g ?_ _));exact BK216.out⟩, ⟨by (try simp only [hl9_40]);(with_reducible repeat (first|refine z1g ?_ _|refine z3g ?_|refine z2g ?_ _));exact BK217.out⟩, ⟨by (try simp only [hl9_40]);(with_reducible repeat (first|refine z1g ?_ _|refine z3g ?_|refine z2g ?_ _));exact BK228.out⟩, ⟨by repeat (first|(with_reducible first|exact HB.out|apply z4g|apply z5g|apply z6g|refine z7g ?_ GE216.out|refine z7g ?_ GE217.out|refine z7g ?_ GE228.out)|exact HB.out)⟩⟩
                     case round =>
                      clear H'
                      (try clear c1);(try clear c2);(try clear p2);(try clear q2);(try clear hx2);(try clear c3);(try clear c4);(try clear p4);(try clear q4);(try clear hx4);(try clear hf4);(try clear c5);(try clear p5);(try clear q5);(try clear hx5);(try clear hf5);(try clear c6);(try clear c6b0);(try clear c6b1);(try clear p6);(try clear c7);(try clear c7b0);(try clear c7b1);(try clear c10);(try clear c16);(try clear c17);(try clear p23);(try clear q23);(try clear hx23);(try clear c24);(try clear c24b0);(try clear c26);(try clear c28);(try clear c29);(try clear c30);(try clear c32);(try clear c32b0);(try clear c34);(try clear c34b0);(try clear c35);(try clear c36);(try clear c39);(try clear c39b0);(try clear c40);(try clear c40b0);(try clear c42);(try clear c43);(try clear c46);(try clear c46b0);(try clear c47);(try clear c47b0);(try clear p48);(try clear q48);(try clear hx48);(try clear hf48);(try clear c49);(try clear c50);(try clear c54);(try clear c54b0);(try clear c55);(try clear c55b0);(try clear p56);(try clear q56);(try clear hx56);(try clear hf56);(try clear hcz11_0);(try clear hcz11_1);(try clear hcz11_2);(try clear hcz13_0);(try clear hcz13_1);(try clear hcz13_2);(try clear hcz18_0);(try clear hcz18_1);(try clear hcz18_2);(try clear hcz20_0);(try clear hcz20_1);(try clear hcz20_2);(try clear hcz23_0);(try clear hcz23_1);(try clear hcz23_2);(try clear hcz31_0);(try clear hcz31_1);(try clear hcz31_2);(try clear hcz37_0);(try clear hcz37_1);(try clear hcz37_2);(try clear hcz44_0);(try clear hcz44_1);(try clear hcz44_2);(try clear hcz51_0);(try clear hcz51_1);(try clear hcz51_2);(try clear hfz11_0);(try clear hfz11_1);(try clear hfz11_2);(try clear hfz13_0);(try clear hfz13_1);(try clear hfz13_2);(try clear hfz18_0);(try clear hfz18_1);(try clear hfz18_2);(try clear hfz20_0);(try clear hfz20_1);(try clear hfz20_2);(try clear hfz23_0);(try clear hfz23_1);(try clear hfz23_2);(try clear hfz31_0);(try clear hfz31_1);(try clear hfz31_2);(try clear hfz37_0);(try clear hfz37_1);(try clear hfz37_2);(try clear hfz44_0);(try clear hfz44_1);(try clear hfz44_2);(try clear hfz51_0);(try clear hfz51_1);(try clear hfz51_2);(try clear hx232_0);(try clear hx48_0);(try clear hx56_0);(try clear p2);(try clear p23);(try clear p232);(try clear p4);(try clear p48);(try clear p56);(try clear p6);(try clear q2);(try clear q23);(try clear q232);(try clear q4);(try clear q48);(try clear q56)
                      obtain ⟨x9_7, x12_7, x85_7, rfl, rfl, HA, HK7, HO_9, HO_11, HO_83, Ha_, BK216, BK217, BK228, HB⟩ := hrel
                      have hl9_7 := (x5g HO_9.out).1
                      rw [hl9_7] at HO_9
                      (try simp only [hl9_7])
                      (try simp only [hl9_7] at BK216)
                      (try simp only [hl9_7] at BK217)
                      (try simp only [hl9_7] at BK228)
                      (try simp only [hl9_7] at HO_11)
                      (try simp only [hl9_7] at HO_83)
                      (try simp only [hl9_7] at Ha_)
                      have hl11_7 := (x5g HO_11.out).1
                      rw [hl11_7] at HO_11
                      (try simp only [hl11_7])
                      (try simp only [hl11_7] at BK216)
                      (try simp only [hl11_7] at BK217)
                      (try simp only [hl11_7] at BK228)
                      (try simp only [hl11_7] at HO_9)
                      (try simp only [hl11_7] at HO_83)
                      (try simp only [hl11_7] at Ha_)
                      cases gk with
                      | zero => exact absurd HA.out (by simp [impl_diffused.l2])
                      | succ k7 =>
                       have H := HA.out
                       clear HA
                       simp only [impl_diffused.l2] at H
                       by_cases c62 : x85_7 < (t235.length : Int)
                       ·rw [if_pos c62] at H
                        have c62b0 : decide (x85_7 < (t235.length : Int)) = true := decide_eq_true c62
                        clear c62
                        by_cases c63 : 0 ≤ x85_7
                        ·rw [if_pos c63] at H
                         have c63b0 : decide (0 ≤ x85_7) = true := decide_eq_true c63
                         clear c63
                         by_cases c64 : x85_7 < (t235.length : Int)
                         ·rw [if_pos c64] at H
                          have c64b0 : decide (x85_7 < (t235.length : Int)) = true := decide_eq_true c64
                          clear c64
                          by_cases c65 : x85_7 < (l0.length : Int)
                          ·rw [if_pos c65] at H
                           have c65b0 : decide (x85_7 < (l0.length : Int)) = true := decide_eq_true c65
                           clear c65
                           by_cases c66 : (wrap64 (x16_32 + (wrap64 (x14_26 * ((rd_T60 l0 x85_7).f0))))) < 0
                           ·rw [if_pos c66] at H
                            have c66b0 : decide ((wrap64 (x16_32 + (wrap64 (x14_26 * ((rd_T60 l0 x85_7).f0))))) < 0) = true := decide_eq_true c66
                            clear c66
                            have H' := z0g H
                            clear H
                            have p238 : 0 ≤ (x85_7 : Int) := of_decide_eq_true (by first|(with_reducible assumption) | assumption)
                            have q238 : x85_7 < (t235.length : Int) := of_decide_eq_true (by first|(with_reducible assumption) | assumption)
                            obtain ⟨ad238, e238, hx238_0⟩ := Kd.at_int (x5g HO_83.out).2.2 x85_7 p238 q238
                            cases e238
                            replace p238 := eq_true p238
                            replace q238 := eq_true q238
                            have p239 : 0 ≤ (x85_7 : Int) := of_decide_eq_true (by first|(with_reducible assumption) | assumption)
                            have q239 : x85_7 < (l0.length : Int) := of_decide_eq_true (by first|(with_reducible assumption) | assumption)
                            obtain ⟨ad239, e239, hx239_0, hx239_1, hx239_2⟩ := at_T60 HR0.out x85_7 p239 q239
                            cases e239
                            replace hx239_0 := (HB.out.cell (World.block_lt_of_cell? w _ hx239_0)).trans hx239_0
                            replace hx239_1 := (HB.out.cell (World.block_lt_of_cell? w _ hx239_1)).trans hx239_1
                            replace hx239_2 := (HB.out.cell (World.block_lt_of_cell? w _ hx239_2)).trans hx239_2
                            replace p239 := eq_true p239
                            replace q239 := eq_true q239
                            have p240 : 0 ≤ (x85_7 : Int) := of_decide_eq_true (by first|(with_reducible assumption) | assumption)
                            have q240 : x85_7 < (l0.length : Int) := of_decide_eq_true (by first|(with_reducible assumption) | assumption)
                            obtain ⟨ad240, e240, hx240_0, hx240_1, hx240_2⟩ := at_T60 HR0.out x85_7 p240 q240
                            obtain rfl : ad239 = ad240 := (by injection e240)
                            replace hx240_0 := (HB.out.cell (World.block_lt_of_cell? w _ hx240_0)).trans hx240_0
                            replace hx240_1 := (HB.out.cell (World.block_lt_of_cell? w _ hx240_1)).trans hx240_1
                            replace hx240_2 := (HB.out.cell (World.block_lt_of_cell? w _ hx240_2)).trans hx240_2
                            replace p240 := eq_true p240
                            replace q240 := eq_true q240
                            go_wp2
                            repeat (go_quiet (fail);try go_wp2)
                            (try simp only [← hl9_7, ← hl11_7])
                            go_roundg k7
                            case measure => have := HK1.out;have := HJ24.out;have := HJ26.out;have := HK4.out;have := HJ32.out;have := HJ40.out;have := HK7.out;omega
                            case rel => exact ⟨(x9_7), (wrap64 (x12_7 + (rd t235 x85_7))), (wrap64 (x85_7 + 1)), (by first |rfl|(simp;done)|(simp [*];done)), (by first |rfl|(simp;done)|(simp [*];done)), H', ⟨by have := HK1.out;have := HJ24.out;have := HJ26.out;have := HK4.out;have := HJ32.out;have := HJ40.out;have := HK7.out;omega⟩, ⟨by (try simp only [hl9_40]);(try simp only [hl9_7]);(try simp only [hl11_7]);(with_reducible repeat (first|apply z8g|apply z9g|apply y1g));exact HO_9.out⟩, ⟨by (try simp only [hl9_40]);(try simp only [hl9_7]);(try simp only [hl11_7]);(with_reducible repeat (first|apply z8g|apply z9g|apply y1g));exact HO_11.out⟩, ⟨by (try simp only [hl9_40]);(try simp only [hl9_7]);(try simp only [hl11_7]);(with_reducible repeat (first|apply z8g|apply z9g|apply y1g));exact HO_83.out⟩, ⟨by (try simp only [hl9_40]);(try simp only [hl9_7]);(try simp only [hl11_7]);(with_reducible repeat (first|apply z8g|apply z9g|apply y1g));exact Ha_.out⟩, ⟨by (try simp only [hl9_40]);(try simp only [hl9_7]);(try simp only [hl11_7]);(with_reducible repeat (first|refine z1g ?_ _|refine z3g ?_|refine z2g ?_ _));exact BK216.out⟩, ⟨by (try simp only [hl9_40]);(try simp only [hl9_7]);(try simp only [hl11_7]);(with_reducible repeat (first|refine z1g ?_ _|refine z3g ?_|refine z2g ?_ _));exact BK217.out⟩, ⟨by (try simp only [hl9_40]);(try simp only [hl9_7]);(try simp only [hl11_7]);(with_reducible repeat (first|refine z1g ?_ _|refine z3g ?_|refine z2g ?_ _));exact BK228.out⟩, ⟨by repeat (first|(with_reducible first|exact HB.out|apply z4g|apply z5g|apply z6g|refine z7g ?_ GE216.out|refine z7g ?_ GE217.out|refine z7g ?_ GE228.out)|exact HB.out)⟩⟩
                           ·rw [if_neg c66] at H
                            have c66b0 : decide ((wrap64 (x16_32 + (wrap64 (x14_26 * ((rd_T60 l0 x85_7).f0))))) < 0) = false := decide_eq_false c66
                            clear c66
                            by_cases c67 : (wrap64 (x16_32 + (wrap64 (x14_26 * ((rd_T60 l0 x85_7).f0))))) ≥ a1_0
                            ·rw [if_pos c67] at H
                             have c67b0 : decide (a1_0 ≤ (wrap64 (x16_32 + (wrap64 (x14_26 * ((rd_T60 l0 x85_7).f0)))))) = true := decide_eq_true c67
                             clear c67
                             have H' := z0g H
                             clear H
                             have p238 : 0 ≤ (x85_7 : Int) := of_decide_eq_true (by first|(with_reducible assumption) | assumption)
                             have q238 : x85_7 < (t235.length : Int) := of_decide_eq_true (by first|(with_reducible assumption) | assumption)
                             obtain ⟨ad238, e238, hx238_0⟩ := Kd.at_int (x5g HO_83.out).2.2 x85_7 p238 q238
                             cases e238
                             replace p238 := eq_true p238
                             replace q238 := eq_true q238
                             have p239 : 0 ≤ (x85_7 : Int) := of_decide_eq_true (by first|(with_reducible assumption) | assumption)
                             have q239 : x85_7 < (l0.length : Int) := of_decide_eq_true (by first|(with_reducible assumption) | assumption)
                             obtain ⟨ad239, e239, hx239_0, hx239_1, hx239_2⟩ := at_T60 HR0.out x85_7 p239 q239
                             cases e239
                             replace hx239_0 := (HB.out.cell (World.block_lt_of_cell? w _ hx239_0)).trans hx239_0
                             replace hx239_1 := (HB.out.cell (World.block_lt_of_cell? w _ hx239_1)).trans hx239_1
                             replace hx239_2 := (HB.out.cell (World.block_lt_of_cell? w _ hx239_2)).trans hx239_2
                             replace p239 := eq_true p239
                             replace q239 := eq_true q239
                             have p240 : 0 ≤ (x85_7 : Int) := of_decide_eq_true (by first|(with_reducible assumption) | assumption)
                             have q240 : x85_7 < (l0.length : Int) := of_decide_eq_true (by first|(with_reducible assumption) | assumption)
                             obtain ⟨ad240, e240, hx240_0, hx240_1, hx240_2⟩ := at_T60 HR0.out x85_7 p240 q240
                             obtain rfl : ad239 = ad240 := (by injection e240)
                             replace hx240_0 := (HB.out.cell (World.block_lt_of_cell? w _ hx240_0)).trans hx240_0
                             replace hx240_1 := (HB.out.cell (World.block_lt_of_cell? w _ hx240_1)).trans hx240_1
                             replace hx240_2 := (HB.out.cell (World.block_lt_of_cell? w _ hx240_2)).trans hx240_2
                             replace p240 := eq_true p240
                             replace q240 := eq_true q240
                             have hnb68 := NB216_217.out
                             have hnc68 := NB217_216.out
                             have hnb69 := NB216_228.out
                             have hnc69 := NB228_216.out
                             have hcz70_0 : wr.cell? ⟨gb216, 0, none⟩ = some (.int .i64 a1_0) := (x3g BK216.out 0).trans rfl
                             have hcz70_1 : wr.cell? ⟨gb216, 1, none⟩ = some (.int .i64 a1_1) := (x3g BK216.out 1).trans rfl
                             have hcz70_2 : wr.cell? ⟨gb216, 2, none⟩ = some (.slice A1_2 l1_2.length c1_2) := (x3g BK216.out 2).trans rfl
                             have hfz70_0 := x2g BK216.out 0
                             have hfz70_1 := x2g BK216.out 1
                             have hfz70_2 := x2g BK216.out 2
                             go_wp2
                             repeat (go_quiet (fail);try go_wp2)
                             (try simp only [← hl9_7, ← hl11_7])
                             go_roundg k7
                             case measure => have := HK1.out;have := HJ24.out;have := HJ26.out;have := HK4.out;have := HJ32.out;have := HJ40.out;have := HK7.out;omega
                             case rel => exact ⟨(x9_7), (wrap64 (x12_7 + (rd t235 x85_7))), (wrap64 (x85_7 + 1)), (by first |rfl|(simp;done)|(simp [*];done)), (by first |rfl|(simp;done)|(simp [*];done)), H', ⟨by have := HK1.out;have := HJ24.out;have := HJ26.out;have := HK4.out;have := HJ32.out;have := HJ40.out;have := HK7.out;omega⟩, ⟨by (try simp only [hl9_40]);(try simp only [hl9_7]);(try simp only [hl11_7]);(with_reducible repeat (first|apply z8g|apply z9g|apply y1g));exact HO_9.out⟩, ⟨by (try simp only [hl9_40]);(try simp only [hl9_7]);(try simp only [hl11_7]);(with_reducible repeat (first|apply z8g|apply z9g|apply y1g));exact HO_11.out⟩, ⟨by (try simp only [hl9_40]);(try simp only [hl9_7]);(try simp only [hl11_7]);(with_reducible repeat (first|apply z8g|apply z9g|apply y1g));exact HO_83.out⟩, ⟨by (try simp only [hl9_40]);(try simp only [hl9_7]);(try simp only [hl11_7]);(with_reducible repeat (first|apply z8g|apply z9g|apply y1g));exact Ha_.out⟩, ⟨by (try simp only [hl9_40]);(try simp only [hl9_7]);(try simp only [hl11_7]);(with_reducible repeat (first|refine z1g ?_ _|refine z3g ?_|refine z2g ?_ _));exact BK216.out⟩, ⟨by (try simp only [hl9_40]);(try simp only [hl9_7]);(try simp only [hl11_7]);(with_reducible repeat (first|refine z1g ?_ _|refine z3g ?_|refine z2g ?_ _));exact BK217.out⟩, ⟨by (try simp only [hl9_40]);(try simp only [hl9_7]);(try simp only [hl11_7]);(with_reducible repeat (first|refine z1g ?_ _|refine z3g ?_|refine z2g ?_ _));exact BK228.out⟩, ⟨by repeat (first|(with_reducible first|exact HB.out|apply z4g|apply z5g|apply z6g|refine z7g ?_ GE216.out|refine z7g ?_ GE217.out|refine z7g ?_ GE228.out)|exact HB.out)⟩⟩
                            ·rw [if_neg c67] at H
                             have c67b0 : decide (a1_0 ≤ (wrap64 (x16_32 + (wrap64 (x14_26 * ((rd_T60 l0 x85_7).f0)))))) = false := decide_eq_false c67
                             clear c67
                             by_cases c71 : (wrap64 (x37_1 + ((rd_T60 l0 x85_7).f1))) ≥ a1_1
                             ·rw [if_pos c71] at H
                              have c71b0 : decide (a1_1 ≤ (wrap64 (x37_1 + ((rd_T60 l0 x85_7).f1)))) = true := decide_eq_true c71
                              clear c71
                              have H' := z0g H
                              clear H
                              have p238 : 0 ≤ (x85_7 : Int) := of_decide_eq_true (by first|(with_reducible assumption) | assumption)
                              have q238 : x85_7 < (t235.length : Int) := of_decide_eq_true (by first|(with_reducible assumption) | assumption)
                              obtain ⟨ad238, e238, hx238_0⟩ := Kd.at_int (x5g HO_83.out).2.2 x85_7 p238 q238
                              cases e238
                              replace p238 := eq_true p238
                              replace q238 := eq_true q238
                              have p239 : 0 ≤ (x85_7 : Int) := of_decide_eq_true (by first|(with_reducible assumption) | assumption)
                              have q239 : x85_7 < (l0.length : Int) := of_decide_eq_true (by first|(with_reducible assumption) | assumption)
                              obtain ⟨ad239, e239, hx239_0, hx239_1, hx239_2⟩ := at_T60 HR0.out x85_7 p239 q239
                              cases e239
                              replace hx239_0 := (HB.out.cell (World.block_lt_of_cell? w _ hx239_0)).trans hx239_0
                              replace hx239_1 := (HB.out.cell (World.block_lt_of_cell? w _ hx239_1)).trans hx239_1
                              replace hx239_2 := (HB.out.cell (World.block_lt_of_cell? w _ hx239_2)).trans hx239_2
                              replace p239 := eq_true p239
                              replace q239 := eq_true q239
                              have p240 : 0 ≤ (x85_7 : Int) := of_decide_eq_true (by first|(with_reducible assumption) | assumption)
                              have q240 : x85_7 < (l0.length : Int) := of_decide_eq_true (by first|(with_reducible assumption) | assumption)
                              obtain ⟨ad240, e240, hx240_0, hx240_1, hx240_2⟩ := at_T60 HR0.out x85_7 p240 q240
                              obtain rfl : ad239 = ad240 := (by injection e240)
                              replace hx240_0 := (HB.out.cell (World.block_lt_of_cell? w _ hx240_0)).trans hx240_0
                              replace hx240_1 := (HB.out.cell (World.block_lt_of_cell? w _ hx240_1)).trans hx240_1
                              replace hx240_2 := (HB.out.cell (World.block_lt_of_cell? w _ hx240_2)).trans hx240_2
                              replace p240 := eq_true p240
                              replace q240 := eq_true q240
                              have hnb72 := NB216_217.out
                              have hnc72 := NB217_216.out
                              have hnb73 := NB216_228.out
                              have hnc73 := NB228_216.out
                              have hcz74_0 : wr.cell? ⟨gb216, 0, none⟩ = some (.int .i64 a1_0) := (x3g BK216.out 0).trans rfl
                              have hcz74_1 : wr.cell? ⟨gb216, 1, none⟩ = some (.int .i64 a1_1) := (x3g BK216.out 1).trans rfl
                              have hcz74_2 : wr.cell? ⟨gb216, 2, none⟩ = some (.slice A1_2 l1_2.length c1_2) := (x3g BK216.out 2).trans rfl
                              have hfz74_0 := x2g BK216.out 0
                              have hfz74_1 := x2g BK216.out 1
                              have hfz74_2 := x2g BK216.out 2
                              go_wp2
                              repeat (go_quiet (fail);try go_wp2)
                              (try simp only [← hl9_7, ← hl11_7])
                              go_roundg k7
                              case measure => have := HK1.out;have := HJ24.out;have := HJ26.out;have := HK4.out;have := HJ32.out;have := HJ40.out;have := HK7.out;omega
                              case rel => exact ⟨(x9_7), (wrap64 (x12_7 + (rd t235 x85_7))), (wrap64 (x85_7 + 1)), (by first |rfl|(simp;done)|(simp [*];done)), (by first |rfl|(simp;done)|(simp [*];done)), H', ⟨by have := HK1.out;have := HJ24.out;have := HJ26.out;have := HK4.out;have := HJ32.out;have := HJ40.out;have := HK7.out;omega⟩, ⟨by (try simp only [hl9_40]);(try simp only [hl9_7]);(try simp only [hl11_7]);(with_reducible repeat (first|apply z8g|apply z9g|apply y1g));exact HO_9.out⟩, ⟨by (try simp only [hl9_40]);(try simp only [hl9_7]);(try simp only [hl11_7]);(with_reducible repeat (first|apply z8g|apply z9g|apply y1g));exact HO_11.out⟩, ⟨by (try simp only [hl9_40]);(try simp only [hl9_7]);(try simp only [hl11_7]);(with_reducible repeat (first|apply z8g|apply z9g|apply y1g));exact HO_83.out⟩, ⟨by (try simp only [hl9_40]);(try simp only [hl9_7]);(try simp only [hl11_7]);(with_reducible repeat (first|apply z8g|apply z9g|apply y1g));exact Ha_.out⟩, ⟨by (try simp only [hl9_40]);(try simp only [hl9_7]);(try simp only [hl11_7]);(with_reducible repeat (first|refine z1g ?_ _|refine z3g ?_|refine z2g ?_ _));exact BK216.out⟩, ⟨by (try simp only [hl9_40]);(try simp only [hl9_7]);(try simp only [hl11_7]);(with_reducible repeat (first|refine z1g ?_ _|refine z3g ?_|refine z2g ?_ _));exact BK217.out⟩, ⟨by (try simp only [hl9_40]);(try simp only [hl9_7]);(try simp only [hl11_7]);(with_reducible repeat (first|refine z1g ?_ _|refine z3g ?_|refine z2g ?_ _));exact BK228.out⟩, ⟨by repeat (first|(with_reducible first|exact HB.out|apply z4g|apply z5g|apply z6g|refine z7g ?_ GE216.out|refine z7g ?_ GE217.out|refine z7g ?_ GE228.out)|exact HB.out)⟩⟩
                             ·rw [if_neg c71] at H
                              have c71b0 : decide (a1_1 ≤ (wrap64 (x37_1 + ((rd_T60 l0 x85_7).f1)))) = false := decide_eq_false c71
                              clear c71
                              obtain ⟨ji75, hji75⟩ : ∃ j_ : Int, (wrap64 ((wrap64 ((wrap64 (x37_1 + ((rd_T60 l0 x85_7).f1))) * a1_0)) + (wrap64 (x16_32 + (wrap64 (x14_26 * ((rd_T60 l0 x85_7).f0))))))) = j_ := ⟨_, rfl⟩
                              replace H : (if 0 ≤ (ji75) then (if (ji75) < (x9_7.length : Int) then (impl_diffused.l2 k7 l0 a2 (x9_7.set ((ji75) : Int).toNat (wrap64 ((rd x9_7 (ji75)) + (rd t235 x85_7)))) y234 x12_7 x37_1 x14_26 x16_32 a1_1 x37_1 a1_0 x48_4 t235 (t235.length : Int) (wrap64 (x85_7 + 1)) a1_0 a1_1 l1_2 t223 t224 x229002_40) else (none)) else (none)) = some (r1, r2, r3, r4, r5) := by first|(rw [hji75] at H;exact H)|(simp only [hji75] at H ⊢;exact H)
                              have hji75w : (IntKind.i64.wrap ((wrap64 ((wrap64 (x37_1 + ((rd_T60 l0 x85_7).f1))) * a1_0)) + (wrap64 (x16_32 + (wrap64 (x14_26 * ((rd_T60 l0 x85_7).f0))))))) = ji75 := (i64_w _).trans hji75
                              by_cases c76 : 0 ≤ (ji75)
                              ·rw [if_pos c76] at H
                               have c76b0 : decide (0 ≤ (ji75)) = true := decide_eq_true c76
                               clear c76
                               by_cases c77 : (ji75) < (x9_7.length : Int)
                               ·rw [if_pos c77] at H
                                have c77b0 : decide ((ji75) < (x9_7.length : Int)) = true := decide_eq_true c77
                                clear c77
                                obtain ⟨y242, hy242⟩ : ∃ y_ : List Int, y_ = (x9_7.set ((ji75) : Int).toNat (wrap64 ((rd x9_7 (ji75)) + (rd t235 x85_7)))) := ⟨_, rfl⟩
                                replace H : (impl_diffused.l2 k7 l0 a2 y242 y234 x12_7 x37_1 x14_26 x16_32 a1_1 x37_1 a1_0 x48_4 t235 (t235.length : Int) (wrap64 (x85_7 + 1)) a1_0 a1_1 l1_2 t223 t224 x229002_40) = some (r1, r2, r3, r4, r5) := by first|(rw [hy242];with_reducible exact H)|(have H2_ := (Option.bind_some _ _).symm.trans H;rw [hy242];with_reducible exact H2_)|(have H2_ := (Option.bind_some _ _).symm.trans H;with_reducible exact H2_) | with_reducible exact H|(rw [hy242];exact H)|exact H
                                have Ny242 := z0g hy242
                                clear hy242
                                have H' := z0g H
                                clear H
                                have p238 : 0 ≤ (x85_7 : Int) := of_decide_eq_true (by first|(with_reducible assumption) | assumption)
                                have q238 : x85_7 < (t235.length : Int) := of_decide_eq_true (by first|(with_reducible assumption) | assumption)
                                obtain ⟨ad238, e238, hx238_0⟩ := Kd.at_int (x5g HO_83.out).2.2 x85_7 p238 q238
                                cases e238
                                replace p238 := eq_true p238
                                replace q238 := eq_true q238
                                have p239 : 0 ≤ (x85_7 : Int) := of_decide_eq_true (by first|(with_reducible assumption) | assumption)
                                have q239 : x85_7 < (l0.length : Int) := of_decide_eq_true (by first|(with_reducible assumption) | assumption)
                                obtain ⟨ad239, e239, hx239_0, hx239_1, hx239_2⟩ := at_T60 HR0.out x85_7 p239 q239
                                cases e239
                                replace hx239_0 := (HB.out.cell (World.block_lt_of_cell? w _ hx239_0)).trans hx239_0
                                replace hx239_1 := (HB.out.cell (World.block_lt_of_cell? w _ hx239_1)).trans hx239_1
                                replace hx239_2 := (HB.out.cell (World.block_lt_of_cell? w _ hx239_2)).trans hx239_2
                                replace p239 := eq_true p239
                                replace q239 := eq_true q239
                                have p240 : 0 ≤ (x85_7 : Int) := of_decide_eq_true (by first|(with_reducible assumption) | assumption)
                                have q240 : x85_7 < (l0.length : Int) := of_decide_eq_true (by first|(with_reducible assumption) | assumption)
                                obtain ⟨ad240, e240, hx240_0, hx240_1, hx240_2⟩ := at_T60 HR0.out x85_7 p240 q240
                                obtain rfl : ad239 = ad240 := (by injection e240)
                                replace hx240_0 := (HB.out.cell (World.block_lt_of_cell? w _ hx240_0)).trans hx240_0
                                replace hx240_1 := (HB.out.cell (World.block_lt_of_cell? w _ hx240_1)).trans hx240_1
                                replace hx240_2 := (HB.out.cell (World.block_lt_of_cell? w _ hx240_2)).trans hx240_2
                                replace p240 := eq_true p240
                                replace q240 := eq_true q240
                                have hnb79 := NB216_217.out
                                have hnc79 := NB217_216.out
                                have hnb80 := NB216_228.out
                                have hnc80 := NB228_216.out
                                have hcz81_0 : wr.cell? ⟨gb216, 0, none⟩ = some (.int .i64 a1_0) := (x3g BK216.out 0).trans rfl
                                have hcz81_1 : wr.cell? ⟨gb216, 1, none⟩ = some (.int .i64 a1_1) := (x3g BK216.out 1).trans rfl
                                have hcz81_2 : wr.cell? ⟨gb216, 2, none⟩ = some (.slice A1_2 l1_2.length c1_2) := (x3g BK216.out 2).trans rfl
                                have hfz81_0 := x2g BK216.out 0
                                have hfz81_1 := x2g BK216.out 1
                                have hfz81_2 := x2g BK216.out 2
                                have p241 : 0 ≤ ((ji75) : Int) := of_decide_eq_true (by first|(with_reducible assumption) | assumption)
                                have q241 : (ji75) < (x9_7.length : Int) := of_decide_eq_true (by first|(with_reducible assumption) | assumption)
                                obtain ⟨ad241, e241, hx241_0⟩ := Kd.at_int (x5g HO_9.out).2.2 (ji75) p241 q241
                                obtain rfl : ad232 = ad241 := (by injection e241)
                                replace p241 := eq_true p241
                                replace q241 := eq_true q241
                                have p78 : 0 ≤ ((ji75) : Int) := of_decide_eq_true (by first|(with_reducible assumption) | assumption)
                                have q78 : ((ji75) : Int) < ((x9_7.length : Int) : Int) := of_decide_eq_true (by first|(with_reducible assumption) | assumption)
                                obtain ⟨go78, co78, eo78, gb78, gl78, cl78, HG78⟩ := Kd.R_form HO_9.out (by omega)
                                (first | cases eo78|(injection eo78 with ea_ en_ ec_;(first | subst ea_|(injection ea_ with ea_;subst ea_));subst ec_;clear en_))
                                have GB78 := z0g gb78
                                have GG78 := z0g HG78
                                clear gb78 gl78 HG78
                                (first | simp only [add_plain] at hx232_0 | skip)
                                (first | simp only [add_plain] at hx241_0 | skip)
                                obtain ⟨hx78_0, hf78_0⟩ := Kd.R_celln 0 HO_9.out ((ji75) : Int) p78 q78
                                replace p78 := eq_true p78
                                replace q78 := eq_true q78
                                have HP82 := Kd.R_putg HO_9.out ((ji75) : Int) (wrap64 ((rd x9_7 (ji75)) + (rd t235 x85_7)))
                                go_wp2_with (first|((with_reducible refine gate_store (t := 3) (p := 134) rfl ?_);(try (rw [drewN_self wr];generalize hq_ : World.drewN wr _ = wr;have n0_ := z0g (Kd.R_at hq_ HO_9.out);have n1_ := z0g (Kd.R_at hq_ HO_11.out);have n2_ := z0g (Kd.R_at hq_ HO_83.out);have n3_ := z0g (Kd.R_at hq_ Ha_.out);have n4_ := z0g (blk_at hq_ BK216.out);have n5_ := z0g (blk_at hq_ BK217.out);have n6_ := z0g (blk_at hq_ BK228.out);have n7_ := z0g (below_at hq_ HB.out);clear hq_ HO_9 HO_11 HO_83 Ha_ BK216 BK217 BK228 HB;have HO_9 := n0_;have HO_11 := n1_;have HO_83 := n2_;have Ha_ := n3_;have BK216 := n4_;have BK217 := n5_;have BK228 := n6_;have HB := n7_;clear n0_ n1_ n2_ n3_ n4_ n5_ n6_ n7_;(try (obtain ⟨hxq_, hfq_⟩ := Kd.R_celln 0 HO_9.out ((ji75) : Int) (of_eq_true p78) (of_eq_true q78)));(try (have HP82 := Kd.R_putg HO_9.out ((ji75) : Int) (wrap64 ((rd x9_7 (ji75)) + (rd t235 x85_7)))))));refine store_event (t := 3) (p := 134) (v := ?vo_w83) (w1 := (wr.setCell ⟨go78, ((ji75) : Int).toNat, none⟩ (.int .i64 (wrap64 ((rd x9_7 (ji75)) + (rd t235 x85_7)))))) ?hg ?ho ?hn ?hr ?_;(case ho => rfl);(case hg => rfl);(case hn => rfl);(case hr => first|(go_simp;done)|(go_simp;rfl));intro w83 hw;have hg : wr.grownBy w83 (some go78) := (by rw [hw];exact HP82.2);have hp_ : Kd.R (Kd.int .i64) 3 w83 w.heap.size (fun k_ => some k_ ≠ (.slice (some ⟨go56, 0, none⟩) y234.length co56 : Value).ownBlock ∧ some k_ ≠ (.slice (some ad238) t235.length co61 : Value).ownBlock ∧ some k_ ≠ (u229002 : Value).ownBlock) (.slice (some ⟨go78, 0, none⟩) x9_7.length co45) y242 := (by rw [hw, Ny242.out];exact HP82.1);clear HP82;have n0_ := z0g (hp_);have n1_ := z0g (Kd.R_after (v := (.slice (some ⟨go78, 0, none⟩) x9_7.length co45)) (v1 := (.slice (some ⟨go78, 0, none⟩) x9_7.length co45)) (ok := (fun k_ => some k_ ≠ (.slice (some ad238) t235.length co61 : Value).ownBlock ∧ some k_ ≠ (u229002 : Value).ownBlock)) (by (with_reducible repeat (first|apply z8g|apply z9g|apply y1g));exact x6g HO_11.out (fun _ hk => ⟨⟨hk.2.1, hk.2.2⟩, hk.1⟩)) hg (.inl rfl));have n2_ := z0g (Kd.R_after (v := (.slice (some ⟨go78, 0, none⟩) x9_7.length co45)) (v1 := (.slice (some ⟨go78, 0, none⟩) x9_7.length co45)) (ok := (fun k_ => some k_ ≠ (.slice (some ⟨go56, 0, none⟩) y234.length co56 : Value).ownBlock ∧ some k_ ≠ (u229002 : Value).ownBlock)) (by (with_reducible repeat (first|apply z8g|apply z9g|apply y1g));exact x6g HO_83.out (fun _ hk => ⟨⟨hk.2.1, hk.2.2⟩, hk.1⟩)) hg (.inl rfl));have n3_ := z0g (Kd.R_after (v := (.slice (some ⟨go78, 0, none⟩) x9_7.length co45)) (v1 := (.slice (some ⟨go78, 0, none⟩) x9_7.length co45)) (ok := (fun k_ => some k_ ≠ (.slice (some ⟨go56, 0, none⟩) y234.length co56 : Value).ownBlock ∧ some k_ ≠ (.slice (some ad238) t235.length co61 : Value).ownBlock)) (by (with_reducible repeat (first|apply z8g|apply z9g|apply y1g));exact x6g Ha_.out (fun _ hk => ⟨⟨hk.2.1, hk.2.2⟩, hk.1⟩)) hg (.inl rfl));have n4_ := z0g (blk_grown (g := gb216) (o := .cells #[.int .i64 a1_0, .int .i64 a1_1, .slice A1_2 l1_2.length c1_2] 31 (0, 0)) (by (with_reducible repeat (first|refine z1g ?_ _|refine z3g ?_|refine z2g ?_ _));exact BK216.out) hg (x9g HO_9.out BK216.out (by decide)));have n5_ := z0g (blk_grown (g := gb217) (o := .cells #[.int .i64 0, .int .i64 0, .slice none 0 0] 31 (0, 0)) (by (with_reducible repeat (first|refine z1g ?_ _|refine z3g ?_|refine z2g ?_ _));exact BK217.out) hg (x9g HO_9.out BK217.out (by decide)));have n6_ := z0g (blk_grown (g := gb228) (o := .cells #[.int .i64 t223, .int .i64 t224, u229002] 31 (0, 0)) (by (with_reducible repeat (first|refine z1g ?_ _|refine z3g ?_|refine z2g ?_ _));exact BK228.out) hg (x9g HO_9.out BK228.out (by decide)));have n7_ := z0g ((by rw [hw];exact z7g (HB.out) GB78.out : Below w.heap.size w w83));clear HO_9;clear HO_11;clear HO_83;clear Ha_;clear BK216;clear BK217;clear BK228;clear HB;have HO_9 := n0_;have HO_11 := n1_;have HO_83 := n2_;have Ha_ := n3_;have BK216 := n4_;have BK217 := n5_;have BK228 := n6_;have HB := n7_;clear n0_ n1_ n2_ n3_ n4_ n5_ n6_ n7_;clear hg hw hp_))
                                repeat (go_quiet (fail);try go_wp2_with (first|((with_reducible refine gate_store (t := 3) (p := 134) rfl ?_);(try (rw [drewN_self wr];generalize hq_ : World.drewN wr _ = wr;have n0_ := z0g (Kd.R_at hq_ HO_9.out);have n1_ := z0g (Kd.R_at hq_ HO_11.out);have n2_ := z0g (Kd.R_at hq_ HO_83.out);have n3_ := z0g (Kd.R_at hq_ Ha_.out);have n4_ := z0g (blk_at hq_ BK216.out);have n5_ := z0g (blk_at hq_ BK217.out);have n6_ := z0g (blk_at hq_ BK228.out);have n7_ := z0g (below_at hq_ HB.out);clear hq_ HO_9 HO_11 HO_83 Ha_ BK216 BK217 BK228 HB;have HO_9 := n0_;have HO_11 := n1_;have HO_83 := n2_;have Ha_ := n3_;have BK216 := n4_;have BK217 := n5_;have BK228 := n6_;have HB := n7_;clear n0_ n1_ n2_ n3_ n4_ n5_ n6_ n7_;(try (obtain ⟨hxq_, hfq_⟩ := Kd.R_celln 0 HO_9.out ((ji75) : Int) (of_eq_true p78) (of_eq_true q78)));(try (have HP82 := Kd.R_putg HO_9.out ((ji75) : Int) (wrap64 ((rd x9_7 (ji75)) + (rd t235 x85_7)))))));refine store_event (t := 3) (p := 134) (v := ?vo_w83) (w1 := (wr.setCell ⟨go78, ((ji75) : Int).toNat, none⟩ (.int .i64 (wrap64 ((rd x9_7 (ji75)) + (rd t235 x85_7)))))) ?hg ?ho ?hn ?hr ?_;(case ho => rfl);(case hg => rfl);(case hn => rfl);(case hr => first|(go_simp;done)|(go_simp;rfl));intro w83 hw;have hg : wr.grownBy w83 (some go78) := (by rw [hw];exact HP82.2);have hp_ : Kd.R (Kd.int .i64) 3 w83 w.heap.size (fun k_ => some k_ ≠ (.slice (some ⟨go56, 0, none⟩) y234.length co56 : Value).ownBlock ∧ some k_ ≠ (.slice (some ad238) t235.length co61 : Value).ownBlock ∧ some k_ ≠ (u229002 : Value).ownBlock) (.slice (some ⟨go78, 0, none⟩) x9_7.length co45) y242 := (by rw [hw, Ny242.out];exact HP82.1);clear HP82;have n0_ := z0g (hp_);have n1_ := z0g (Kd.R_after (v := (.slice (some ⟨go78, 0, none⟩) x9_7.length co45)) (v1 := (.slice (some ⟨go78, 0, none⟩) x9_7.length co45)) (ok := (fun k_ => some k_ ≠ (.slice (some ad238) t235.length co61 : Value).ownBlock ∧ some k_ ≠ (u229002 : Value).ownBlock)) (by (with_reducible repeat (first|apply z8g|apply z9g|apply y1g));exact x6g HO_11.out (fun _ hk => ⟨⟨hk.2.1, hk.2.2⟩, hk.1⟩)) hg (.inl rfl));have n2_ := z0g (Kd.R_after (v := (.slice (some ⟨go78, 0, none⟩) x9_7.length co45)) (v1 := (.slice (some ⟨go78, 0, none⟩) x9_7.length co45)) (ok := (fun k_ => some k_ ≠ (.slice (some ⟨go56, 0, none⟩) y234.length co56 : Value).ownBlock ∧ some k_ ≠ (u229002 : Value).ownBlock)) (by (with_reducible repeat (first|apply z8g|apply z9g|apply y1g));exact x6g HO_83.out (fun _ hk => ⟨⟨hk.2.1, hk.2.2⟩, hk.1⟩)) hg (.inl rfl));have n3_ := z0g (Kd.R_after (v := (.slice (some ⟨go78, 0, none⟩) x9_7.length co45)) (v1 := (.slice (some ⟨go78, 0, none⟩) x9_7.length co45)) (ok := (fun k_ => some k_ ≠ (.slice (some ⟨go56, 0, none⟩) y234.length co56 : Value).ownBlock ∧ some k_ ≠ (.slice (some ad238) t235.length co61 : Value).ownBlock)) (by (with_reducible repeat (first|apply z8g|apply z9g|apply y1g));exact x6g Ha_.out (fun _ hk => ⟨⟨hk.2.1, hk.2.2⟩, hk.1⟩)) hg (.inl rfl));have n4_ := z0g (blk_grown (g := gb216) (o := .cells #[.int .i64 a1_0, .int .i64 a1_1, .slice A1_2 l1_2.length c1_2] 31 (0, 0)) (by (with_reducible repeat (first|refine z1g ?_ _|refine z3g ?_|refine z2g ?_ _));exact BK216.out) hg (x9g HO_9.out BK216.out (by decide)));have n5_ := z0g (blk_grown (g := gb217) (o := .cells #[.int .i64 0, .int .i64 0, .slice none 0 0] 31 (0, 0)) (by (with_reducible repeat (first|refine z1g ?_ _|refine z3g ?_|refine z2g ?_ _));exact BK217.out) hg (x9g HO_9.out BK217.out (by decide)));have n6_ := z0g (blk_grown (g := gb228) (o := .cells #[.int .i64 t223, .int .i64 t224, u229002] 31 (0, 0)) (by (with_reducible repeat (first|refine z1g ?_ _|refine z3g ?_|refine z2g ?_ _));exact BK228.out) hg (x9g HO_9.out BK228.out (by decide)));have n7_ := z0g ((by rw [hw];exact z7g (HB.out) GB78.out : Below w.heap.size w w83));clear HO_9;clear HO_11;clear HO_83;clear Ha_;clear BK216;clear BK217;clear BK228;clear HB;have HO_9 := n0_;have HO_11 := n1_;have HO_83 := n2_;have Ha_ := n3_;have BK216 := n4_;have BK217 := n5_;have BK228 := n6_;have HB := n7_;clear n0_ n1_ n2_ n3_ n4_ n5_ n6_ n7_;clear hg hw hp_)))
                                (try simp only [← hl9_7, ← hl11_7])
                                go_roundg k7
                                case measure => have := HK1.out;have := HJ24.out;have := HJ26.out;have := HK4.out;have := HJ32.out;have := HJ40.out;have := HK7.out;omega
                                case rel => exact ⟨(y242), (x12_7), (wrap64 (x85_7 + 1)), (by first |rfl|(simp;done)|(simp [*];done)), (by first |rfl|(simp;done)|(simp [*];done)), H', ⟨by have := HK1.out;have := HJ24.out;have := HJ26.out;have := HK4.out;have := HJ32.out;have := HJ40.out;have := HK7.out;omega⟩, ⟨by (try simp only [hl9_40]);(try simp only [hl9_7]);(try simp only [hl11_7]);(with_reducible repeat (first|apply z8g|apply z9g|apply y1g));exact HO_9.out⟩, ⟨by (try simp only [hl9_40]);(try simp only [hl9_7]);(try simp only [hl11_7]);(with_reducible repeat (first|apply z8g|apply z9g|apply y1g));exact x6g HO_11.out (fun _ hk => ⟨hk.2, ⟨hk.1.1, hk.1.2⟩⟩)⟩, ⟨by (try simp only [hl9_40]);(try simp only [hl9_7]);(try simp only [hl11_7]);(with_reducible repeat (first|apply z8g|apply z9g|apply y1g));exact x6g HO_83.out (fun _ hk => ⟨hk.2, ⟨hk.1.1, hk.1.2⟩⟩)⟩, ⟨by (try simp only [hl9_40]);(try simp only [hl9_7]);(try simp only [hl11_7]);(with_reducible repeat (first|apply z8g|apply z9g|apply y1g));exact x6g Ha_.out (fun _ hk => ⟨hk.2, ⟨hk.1.1, hk.1.2⟩⟩)⟩, ⟨by (try simp only [hl9_40]);(try simp only [hl9_7]);(try simp only [hl11_7]);(with_reducible repeat (first|refine z1g ?_ _|refine z3g ?_|refine z2g ?_ _));exact BK216.out⟩, ⟨by (try simp only [hl9_40]);(try simp only [hl9_7]);(try simp only [hl11_7]);(with_reducible repeat (first|refine z1g ?_ _|refine z3g ?_|refine z2g ?_ _));exact BK217.out⟩, ⟨by (try simp only [hl9_40]);(try simp only [hl9_7]);(try simp only [hl11_7]);(with_reducible repeat (first|refine z1g ?_ _|refine z3g ?_|refine z2g ?_ _));exact BK228.out⟩, ⟨by repeat (first|(with_reducible first|exact HB.out|apply z4g|apply z5g|apply z6g|refine z7g ?_ GE216.out|refine z7g ?_ GE217.out|refine z7g ?_ GE228.out)|exact HB.out)⟩⟩
                               ·rw [if_neg c77] at H
                                exact absurd H (by simp)
                              ·rw [if_neg c76] at H
                               exact absurd H (by simp)
                          ·rw [if_neg c65] at H
                           exact absurd H (by simp)
                         ·rw [if_neg c64] at H
                          exact absurd H (by simp)
                        ·rw [if_neg c63] at H
                         exact absurd H (by simp)
                       ·rw [if_neg c62] at H
                        have c62b0 : decide (x85_7 < (t235.length : Int)) = false := decide_eq_false c62
                        clear c62
                        have H' := z0g H
                        clear H
                        go_wp2
                        repeat (go_quiet (fail);try go_wp2)
                        (try simp only [← hl9_40, ← hl9_7, ← hl11_7])
                        go_roundg k7
                        case measure => have := HK1.out;have := HJ24.out;have := HJ26.out;have := HK4.out;have := HJ32.out;have := HJ40.out;have := HK7.out;omega
                        case rel => exact ⟨(x9_7), (y234), (x12_7), (wrap64 (x48_4 + 1)), (x229002_40), (u229002), (by first |rfl|(simp;done)|(simp [*];done)), (by first |rfl|(simp;done)|(simp [*];done)), H', ⟨by have := HK1.out;have := HJ24.out;have := HJ26.out;have := HK4.out;have := HJ32.out;have := HJ40.out;have := HK7.out;omega⟩, ⟨by (try simp only [hl9_40]);(try simp only [hl9_7]);(try simp only [hl11_7]);(with_reducible repeat (first|apply z8g|apply z9g|apply y1g));exact x6g HO_9.out (fun _ hk => ⟨hk.1, hk.2.2⟩)⟩, ⟨by (try simp only [hl9_40]);(try simp only [hl9_7]);(try simp only [hl11_7]);(with_reducible repeat (first|apply z8g|apply z9g|apply y1g));exact x6g HO_11.out (fun _ hk => ⟨hk.1, hk.2.2⟩)⟩, ⟨by (try simp only [hl9_40]);(try simp only [hl9_7]);(try simp only [hl11_7]);(with_reducible repeat (first|apply z8g|apply z9g|apply y1g));exact x6g Ha_.out (fun _ hk => ⟨hk.1, hk.2.1⟩)⟩, ⟨by (try simp only [hl9_40]);(try simp only [hl9_7]);(try simp only [hl11_7]);(with_reducible repeat (first|refine z1g ?_ _|refine z3g ?_|refine z2g ?_ _));exact BK216.out⟩, ⟨by (try simp only [hl9_40]);(try simp only [hl9_7]);(try simp only [hl11_7]);(with_reducible repeat (first|refine z1g ?_ _|refine z3g ?_|refine z2g ?_ _));exact BK217.out⟩, ⟨by (try simp only [hl9_40]);(try simp only [hl9_7]);(try simp only [hl11_7]);(with_reducible repeat (first|refine z1g ?_ _|refine z3g ?_|refine z2g ?_ _));exact BK228.out⟩, ⟨by repeat (first|(with_reducible first|exact HB.out|apply z4g|apply z5g|apply z6g|refine z7g ?_ GE216.out|refine z7g ?_ GE217.out|refine z7g ?_ GE228.out)|exact HB.out)⟩⟩
                    ·rw [if_neg c55] at H
                     exact absurd H (by simp)
                   ·rw [if_neg c54] at H
                    exact absurd H (by simp)
                ·rw [if_neg c40] at H
                 exact absurd H (by simp)
               ·rw [if_neg c39] at H
                exact absurd H (by simp)
            ·rw [if_neg c32] at H
             have c32b0 : decide (x48_4 < a1_0) = false := decide_eq_false c32
             clear c32
             have H' := z0g H
             clear H
             go_wp2
             repeat (go_quiet (fail);try go_wp2)
             go_roundg k4
             case measure => have := HK1.out;have := HJ24.out;have := HJ26.out;have := HK4.out;omega
             case rel => exact ⟨(x9_4), (x11_4), (x12_4), (wrap64 (x37_1 + 1)), (x229002_4), (u229002), (by first |rfl|(simp;done)|(simp [*];done)), (by first |rfl|(simp;done)|(simp [*];done)), H', ⟨by have := HK1.out;have := HJ24.out;have := HJ26.out;have := HK4.out;omega⟩, ⟨by (with_reducible repeat (first|apply z8g|apply z9g|apply y1g));exact HO_9.out⟩, ⟨by (with_reducible repeat (first|apply z8g|apply z9g|apply y1g));exact HO_11.out⟩, ⟨by (with_reducible repeat (first|apply z8g|apply z9g|apply y1g));exact Ha_.out⟩, ⟨by (with_reducible repeat (first|refine z1g ?_ _|refine z3g ?_|refine z2g ?_ _));exact BK216.out⟩, ⟨by (with_reducible repeat (first|refine z1g ?_ _|refine z3g ?_|refine z2g ?_ _));exact BK217.out⟩, ⟨by (with_reducible repeat (first|refine z1g ?_ _|refine z3g ?_|refine z2g ?_ _));exact BK228.out⟩, ⟨by repeat (first|(with_reducible first|exact HB.out|apply z4g|apply z5g|apply z6g|refine z7g ?_ GE216.out|refine z7g ?_ GE217.out|refine z7g ?_ GE228.out)|exact HB.out)⟩⟩
     ·rw [if_neg c24] at H
      have c24b0 : decide (x37_1 < a1_1) = false := decide_eq_false c24
      clear c24
      simp only [Option.some.injEq, Prod.mk.injEq] at H
      obtain ⟨rfl, rfl, rfl, rfl, rfl⟩ := H
      have hnb84 := NB228_216.out
      have hnc84 := NB216_228.out
      have hnb85 := NB228_217.out
      have hnc85 := NB217_228.out
      have hcz86_0 : wr.cell? ⟨gb228, 0, none⟩ = some (.int .i64 t223) := (x3g BK228.out 0).trans rfl
      have hcz86_1 : wr.cell? ⟨gb228, 1, none⟩ = some (.int .i64 t224) := (x3g BK228.out 1).trans rfl
      have hcz86_2 : wr.cell? ⟨gb228, 2, none⟩ = some (u229002) := (x3g BK228.out 2).trans rfl
      have hfz86_0 := x2g BK228.out 0
      have hfz86_1 := x2g BK228.out 1
      have hfz86_2 := x2g BK228.out 2
      have hnb87 := NB217_216.out
      have hnc87 := NB216_217.out
      have hcz88_0 : wr.cell? ⟨gb217, 0, none⟩ = some (.int .i64 0) := (x3g BK217.out 0).trans rfl
      have hcz88_1 : wr.cell? ⟨gb217, 1, none⟩ = some (.int .i64 0) := (x3g BK217.out 1).trans rfl
      have hcz88_2 : wr.cell? ⟨gb217, 2, none⟩ = some (.slice none 0 0) := (x3g BK217.out 2).trans rfl
      have hfz88_0 := x2g BK217.out 0
      have hfz88_1 := x2g BK217.out 1
      have hfz88_2 := x2g BK217.out 2
      obtain ⟨Ao89, co89, eo89⟩ := Kd.R_slice Ha_.out
      subst eo89
      go_wp2
      repeat (go_quiet (fail);try go_wp2)
      refine bodyPost_ret (results_ctt rfl _ _ gb217 31 #[.int .i64 t223, .int .i64 t224, .slice Ao89 x229002_1.length co89] (0, 0) _ rfl (by (with_reducible repeat (first|refine z1g ?_ _|refine z3g ?_|refine z2g ?_ _));refine blk_put (cs := #[.int .i64 t223, .int .i64 t224, .slice none 0 0]) ?_ 2 _ rfl;(with_reducible repeat (first|refine z1g ?_ _|refine z3g ?_|refine z2g ?_ _));refine blk_put (cs := #[.int .i64 t223, .int .i64 0, .slice none 0 0]) ?_ 1 _ rfl;(with_reducible repeat (first|refine z1g ?_ _|refine z3g ?_|refine z2g ?_ _));refine blk_put (cs := #[.int .i64 0, .int .i64 0, .slice none 0 0]) ?_ 0 _ rfl;(with_reducible repeat (first|refine z1g ?_ _|refine z3g ?_|refine z2g ?_ _));exact BK217.out) Try.underlying31 rfl (by kernel_rfl)) rfl ?_
      exact ⟨_, _, by first |rfl|(simp [errW_none, errW_some] <;> rfl)|(simp [*, errW_none, errW_some] <;> rfl), by (with_reducible repeat (first|apply z8g|apply z9g|apply y1g));exact x6g (x1g (p := ⟨gb217, 2, none⟩) (x1g (p := ⟨gb217, 1, none⟩) (x1g (p := ⟨gb217, 0, none⟩) (x7g Ha_.out BK217.out (by decide)) (fun _ hk => hk.2) (.int .i64 t223)) (fun _ hk => hk.2) (.int .i64 t224)) (fun _ hk => hk.2) (.slice Ao89 x229002_1.length co89)) (fun _ hk => hk.1.2), by (with_reducible repeat (first|apply z8g|apply z9g|apply y1g));exact x6g (x1g (p := ⟨gb217, 2, none⟩) (x1g (p := ⟨gb217, 1, none⟩) (x1g (p := ⟨gb217, 0, none⟩) (x7g HO_11.out BK217.out (by decide)) (fun _ hk => hk.2) (.int .i64 t223)) (fun _ hk => hk.2) (.int .i64 t224)) (fun _ hk => hk.2) (.slice Ao89 x229002_1.length co89)) (fun _ hk => hk.1.2), by repeat (first|(with_reducible first|exact HB.out|apply z4g|apply z5g|apply z6g|refine z7g ?_ GE216.out|refine z7g ?_ GE217.out|refine z7g ?_ GE228.out)|exact HB.out)⟩
  ·rw [if_neg c7] at H
   exact absurd H (by simp)
 ·rw [if_neg c6] at H
  exact absurd H (by simp)

end Go.Proofs.Ytnohdgbfgdnpfaa.PFnCausal
