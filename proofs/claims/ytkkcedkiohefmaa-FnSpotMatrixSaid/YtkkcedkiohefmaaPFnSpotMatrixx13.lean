/- Machine side of laws FnSpotMatrix: written for this claim by the kit's print program under this session's wip/tools/mp_setup.py (with contracts of the session's own, wip/ext). -/
import Derived.Test.YtkkcedkiohefmaaPFnSpotMatrixx0
import Derived.Test.YtkkcedkiohefmaaPFnSpotMatrixx1
import Derived.Test.YtkkcedkiohefmaaPFnSpotMatrixx9
import Derived.Test.YtkkcedkiohefmaaPFnSpotMatrixx11
import Derived.Test.YtkkcedkiohefmaaPFnSpotMatrixx12
namespace Go.Proofs.Ytkkcedkiohefmaa.PFnSpotMatrix
open Go.RowKit Go.Proofs.YtkkcedkiohefmaaW.PrintWords Go.Proofs.YtkkcedkiohefmaaW.PrintLast Go.Proofs.YtkkcedkiohefmaaW.PrintMore
attribute [local go_sem] max2_int min2_int max_two min_two max_three min_three max_four min_four   -- for this text's walks alone
set_option linter.unusedVariables false
set_option linter.unusedSimpArgs false
-- squeezed: words under short names
set_option linter.defProp false in
def z0n := @Aside0.mk
set_option linter.defProp false in
def z1n := @blk_drewN
set_option linter.defProp false in
def z2n := @blk_alloc
set_option linter.defProp false in
def z3n := @blk_drew
set_option linter.defProp false in
def z4n := @below_alloc
set_option linter.defProp false in
def z5n := @pw_below_drewN
set_option linter.defProp false in
def z6n := @below_drew1
set_option linter.defProp false in
def z7n := @below_set
set_option linter.defProp false in
def z8n := @Kd.R_alloc
set_option linter.defProp false in
def z9n := @Kd.R_drewN
set_option linter.defProp false in
def y1n := @Kd.R_drew
set_option linter.defProp false in
def y5n := @blk_below
set_option linter.defProp false in
def y6n := @below_step
set_option linter.defProp false in
def y7n := @below_size
set_option linter.defProp false in
def x1n := @Kd.R_far
set_option linter.defProp false in
def x2n := @blk_frozen
set_option linter.defProp false in
def x3n := @blk_cell
set_option linter.defProp false in
def x8n := @blk_far
def bsn_ (n m : Nat) : Array Bool := ((List.range n).map fun i => m.testBit i).toArray
theorem s1n_ {α : Type} (l : List α) (i : Nat) (a : α) : l.toArray.setIfInBounds i a = (l.set i a).toArray := List.setIfInBounds_toArray l i a
theorem s2n_ {α : Type} (a b : α) (l : List α) : (a :: l).set 0 b = b :: l := rfl
theorem s3n_ {α : Type} (a b : α) (n : Nat) (l : List α) : (a :: l).set (n + 1) b = a :: l.set n b := rfl

def laws_FnSpotMatrix.j0 : Nat → List Int → Int → Int → Bool → Int → Int → Int → Int → List Int → Option (Bool)
 | 0, _, _, _, _, _, _, _, _, _ => none
 | k + 1, x0, x4, x5, x43, x323000, x323001, x332000, x332001, x332002 => if x43 = true then (some false) else ((laws_at.f x0 1).bind fun t333 => (if (wrap64 (x4 + 1)) = 0 then (none) else ((impl_SpotPlate.f k x323000 x323001 (Int.tmod t333 (wrap64 (x4 + 1))) x5 x5).bind fun bt334 => (if bt334.2.2.2 = true then (if x4 = 0 then (none) else ((impl_CellsBelow.f x332000 x332001 x332002 (wrap64 ((Int.tmod t333 (wrap64 (x4 + 1))) * (wrap64 (Int.tdiv (wrap64 (x5 * x5)) x4))))).bind fun bt341 => ((laws_same.f k bt341.1 bt341.2.1 bt341.2.2 bt334.1 bt334.2.1 bt334.2.2.1).bind fun t346 => (some t346)))) else (some false)))))
def laws_FnSpotMatrix.f (k : Nat) (l0 : List Int) : Option (Bool) := if (l0.length : Int) > 1048576 then (some true) else ((spec_MakeLattice.f k l0).bind fun bt320 => ((spec_AreaOf.f bt320.1 bt320.2).bind fun t323 => ((spec_PeriodOf.f k bt320.1 bt320.2).bind fun t324 => ((impl_SpotMatrix.f k bt320.1 bt320.2).bind fun bt325 => (if bt325.2.2.2 = true then (if bt325.1 = t324 then (if bt325.2.1 = t324 then ((impl_IsMatrix.f bt325.1 bt325.2.1 bt325.2.2.1).bind fun t332 => (laws_FnSpotMatrix.j0 k l0 t323 t324 (!t332) bt320.1 bt320.2 bt325.1 bt325.2.1 bt325.2.2.1)) else (laws_FnSpotMatrix.j0 k l0 t323 t324 true bt320.1 bt320.2 bt325.1 bt325.2.1 bt325.2.2.1)) else (laws_FnSpotMatrix.j0 k l0 t323 t324 true bt320.1 bt320.2 bt325.1 bt325.2.1 bt325.2.2.1)) else (laws_FnSpotMatrix.j0 k l0 t323 t324 true bt320.1 bt320.2 bt325.1 bt325.2.1 bt325.2.2.1))))))
def laws_FnSpotMatrix.T11 : Bool × List (List Nat × List Nat) := (true, [([], []), ([0], [0]), ([1], [1]), ([1], [1]), ([1], [1]), ([1], [1]), ([4, 5, 1], [1, 4, 5]), ([1], [1]), ([6, 7, 1], [1, 6, 7]), ([3, 8, 1], [1, 3, 8]), ([2, 9, 1, 1], [1, 2, 9]), ([1], [1]), ([10, 11, 10, 1], [1, 10, 11]), ([1, 12], [1, 12]), ([13, 12, 0, 1, 2, 3, 4, 5, 6, 7, 8, 9, 10, 11, 12, 13], [13])])
def laws_FnSpotMatrix.B11 : List Nat := [0, 1, 3, 3, 3, 3, 51, 3, 243, 507, 1023, 3, 4095, 8191, 16383]
theorem laws_FnSpotMatrix.tab11 : rtab .any (opsOf Try.f4 11) = laws_FnSpotMatrix.T11 := by kernel_rfl
theorem laws_FnSpotMatrix.bits11 : waitsOk laws_FnSpotMatrix.T11.2 laws_FnSpotMatrix.B11 = true := by kernel_rfl
set_option maxHeartbeats 8000000 in
set_option maxRecDepth 100000 in
theorem laws_FnSpotMatrix.calls (k : Nat) (A0 : Option Addr) (c0 : Nat) (l0 : List Int) (r : Bool) (w : World) (hr0 : Kd.C (Kd.int .u8) w A0 l0.length l0) (hc0 : l0.length ≤ c0) (h : laws_FnSpotMatrix.f k l0 = some r) (hr_ : r = true := by rfl) :
  Calls Try.prog 4 #[.slice A0 l0.length c0] w fun e w' => e = .returned (.bool r) ∧ Below w.heap.size w w' := by
 have HRT_ := z0n hr_
 clear hr_
 have hu24 := Try.underlying24
 have hu37 := Try.underlying37
 have hu30 := Try.underlying30
 have HR0 := z0n hr0
 have HC0 := z0n hc0
 clear hr0 hc0
 have HB := z0n (Below.refl w.heap.size w)
 have H : (if (l0.length : Int) > 1048576 then (some true) else ((spec_MakeLattice.f k l0).bind fun bt320 => ((spec_AreaOf.f bt320.1 bt320.2).bind fun t323 => ((spec_PeriodOf.f k bt320.1 bt320.2).bind fun t324 => ((impl_SpotMatrix.f k bt320.1 bt320.2).bind fun bt325 => (if bt325.2.2.2 = true then (if bt325.1 = t324 then (if bt325.2.1 = t324 then ((impl_IsMatrix.f bt325.1 bt325.2.1 bt325.2.2.1).bind fun t332 => (laws_FnSpotMatrix.j0 k l0 t323 t324 (!t332) bt320.1 bt320.2 bt325.1 bt325.2.1 bt325.2.2.1)) else (laws_FnSpotMatrix.j0 k l0 t323 t324 true bt320.1 bt320.2 bt325.1 bt325.2.1 bt325.2.2.1)) else (laws_FnSpotMatrix.j0 k l0 t323 t324 true bt320.1 bt320.2 bt325.1 bt325.2.1 bt325.2.2.1)) else (laws_FnSpotMatrix.j0 k l0 t323 t324 true bt320.1 bt320.2 bt325.1 bt325.2.1 bt325.2.2.1))))))) = some r := h
 clear h
 by_cases c2 : (l0.length : Int) > 1048576
 ·rw [if_pos c2] at H
  have c2b0 : decide (1048576 < (l0.length : Int)) = true := decide_eq_true c2
  have c2b1 : decide (1048576 < l0.length) = true := decide_eq_true (by omega)
  clear c2
  obtain rfl := Option.some.inj H
  go_enter Try.func4, Try.ntmps4
  go_wp2
  go_ret
  exact ⟨by first | rfl | (simp [errW_none, errW_some] <;> rfl) | (simp [*, errW_none, errW_some] <;> rfl), by repeat (first | (with_reducible first | exact HB.out | apply z4n | apply z5n | apply z6n) | exact HB.out)⟩
 ·rw [if_neg c2] at H
  have c2b0 : decide (1048576 < (l0.length : Int)) = false := decide_eq_false c2
  have c2b1 : decide (1048576 < l0.length) = false := decide_eq_false (by omega)
  clear c2
  replace H := Option.bind_eq_some_iff.mp H
  obtain ⟨⟨t320, t321⟩, A30, H⟩ := H
  replace H : ((spec_AreaOf.f t320 t321).bind fun t323 => ((spec_PeriodOf.f k t320 t321).bind fun t324 => ((impl_SpotMatrix.f k t320 t321).bind fun bt325 => (if bt325.2.2.2 = true then (if bt325.1 = t324 then (if bt325.2.1 = t324 then ((impl_IsMatrix.f bt325.1 bt325.2.1 bt325.2.2.1).bind fun t332 => (laws_FnSpotMatrix.j0 k l0 t323 t324 (!t332) t320 t321 bt325.1 bt325.2.1 bt325.2.2.1)) else (laws_FnSpotMatrix.j0 k l0 t323 t324 true t320 t321 bt325.1 bt325.2.1 bt325.2.2.1)) else (laws_FnSpotMatrix.j0 k l0 t323 t324 true t320 t321 bt325.1 bt325.2.1 bt325.2.2.1)) else (laws_FnSpotMatrix.j0 k l0 t323 t324 true t320 t321 bt325.1 bt325.2.1 bt325.2.2.1))))) = some r := H
  have A3 := z0n A30
  clear A30
  replace H := Option.bind_eq_some_iff.mp H
  obtain ⟨t323, A40, H⟩ := H
  replace H : ((spec_PeriodOf.f k t320 t321).bind fun t324 => ((impl_SpotMatrix.f k t320 t321).bind fun bt325 => (if bt325.2.2.2 = true then (if bt325.1 = t324 then (if bt325.2.1 = t324 then ((impl_IsMatrix.f bt325.1 bt325.2.1 bt325.2.2.1).bind fun t332 => (laws_FnSpotMatrix.j0 k l0 t323 t324 (!t332) t320 t321 bt325.1 bt325.2.1 bt325.2.2.1)) else (laws_FnSpotMatrix.j0 k l0 t323 t324 true t320 t321 bt325.1 bt325.2.1 bt325.2.2.1)) else (laws_FnSpotMatrix.j0 k l0 t323 t324 true t320 t321 bt325.1 bt325.2.1 bt325.2.2.1)) else (laws_FnSpotMatrix.j0 k l0 t323 t324 true t320 t321 bt325.1 bt325.2.1 bt325.2.2.1)))) = some r := H
  have A4 := z0n A40
  clear A40
  replace H := Option.bind_eq_some_iff.mp H
  obtain ⟨t324, A50, H⟩ := H
  replace H : ((impl_SpotMatrix.f k t320 t321).bind fun bt325 => (if bt325.2.2.2 = true then (if bt325.1 = t324 then (if bt325.2.1 = t324 then ((impl_IsMatrix.f bt325.1 bt325.2.1 bt325.2.2.1).bind fun t332 => (laws_FnSpotMatrix.j0 k l0 t323 t324 (!t332) t320 t321 bt325.1 bt325.2.1 bt325.2.2.1)) else (laws_FnSpotMatrix.j0 k l0 t323 t324 true t320 t321 bt325.1 bt325.2.1 bt325.2.2.1)) else (laws_FnSpotMatrix.j0 k l0 t323 t324 true t320 t321 bt325.1 bt325.2.1 bt325.2.2.1)) else (laws_FnSpotMatrix.j0 k l0 t323 t324 true t320 t321 bt325.1 bt325.2.1 bt325.2.2.1))) = some r := H
  have A5 := z0n A50
  clear A50
  replace H := Option.bind_eq_some_iff.mp H
  obtain ⟨⟨t325, t326, t327, t330⟩, A60, H⟩ := H
  replace H : (if t330 = true then (if t325 = t324 then (if t326 = t324 then ((impl_IsMatrix.f t325 t326 t327).bind fun t332 => (laws_FnSpotMatrix.j0 k l0 t323 t324 (!t332) t320 t321 t325 t326 t327)) else (laws_FnSpotMatrix.j0 k l0 t323 t324 true t320 t321 t325 t326 t327)) else (laws_FnSpotMatrix.j0 k l0 t323 t324 true t320 t321 t325 t326 t327)) else (laws_FnSpotMatrix.j0 k l0 t323 t324 true t320 t321 t325 t326 t327)) = some r := H
  have A6 := z0n A60
  clear A60
  have HC7 := z0n H
  clear H
  go_enter Try.func4, Try.ntmps4
  go_upto_region 7 with (first | ((with_reducible refine gate_callee (f := 8) rfl ?_); refine goesL_ (some 15) rfl rfl Try.func8 (by kernel_rfl) rfl #[.slice A0 l0.length c0] rfl (by (try simp only [List.map_toArray, List.map_cons, List.map_nil]); first | done | rfl | (simp only [List.length_drop, List.length_take]; rfl)) ?_; (with_reducible refine (spec_MakeLattice.calls k _ _ l0 t320 t321 _ ?side1 ?side2 A3.out).mono ?_); (case side1 => repeat (first | exact HR0.out | (with_reducible refine Kd.C_alloc ?_ _) | (with_reducible refine Kd.C_drewN ?_ _) | (with_reducible refine Kd.C_drew ?_))); (case side2 => exact HC0.out); rintro e w8 ⟨rfl, hb⟩; refine ⟨_, rfl, ?_⟩; have n0_ := z0n (y6n (by repeat (first | (with_reducible first | exact HB.out | apply z4n | apply z5n | apply z6n) | exact HB.out)) hb); clear HB; have HB := n0_; clear n0_; (try clear hb)) | ((with_reducible refine gate_dst (N := 3) rfl ?_); refine box_event ?hg (N := 3) ?hd (cs := #[.int .i64 0, .int .i64 0]) (t := 24) ?hr ?_; (case hd => rfl); (case hg => rfl); (case hr => first | (go_simp; done) | (go_simp; rfl)); intro gb322 hg w9 hbox hb; have n0_ := z0n (y6n (by repeat (first | (with_reducible first | exact HB.out | apply z4n | apply z5n | apply z6n) | exact HB.out)) hb); have n1_ := z0n (hbox); have n2_ := z0n ((by rw [hg]; exact (y7n (by repeat (first | (with_reducible first | exact HB.out | apply z4n | apply z5n | apply z6n) | exact HB.out))) : w.heap.size ≤ gb322)); have n3_ := z0n ((by rw [hg]; exact (y7n (by repeat (first | (with_reducible first | exact HB.out | apply z4n | apply z5n | apply z6n) | exact HB.out))) : w.heap.size ≤ gb322)); clear HB; have HB := n0_; have BK322 := n1_; have GW322 := n2_; have GE322 := n3_; clear n0_ n1_ n2_ n3_; clear hb hbox hg; have hcz10_0 : w9.cell? ⟨gb322, 0, none⟩ = some (.int .i64 0) := (x3n BK322.out 0).trans rfl; have hcz10_1 : w9.cell? ⟨gb322, 1, none⟩ = some (.int .i64 0) := (x3n BK322.out 1).trans rfl; have hfz10_0 := x2n BK322.out 0; have hfz10_1 := x2n BK322.out 1) | ((with_reducible refine gate_callee (f := 9) rfl ?_); refine goesL_ (some 17) rfl rfl Try.func9 (by kernel_rfl) rfl #[.agg #[.int .i64 t320, .int .i64 t321]] rfl (by (try simp only [List.map_toArray, List.map_cons, List.map_nil]); first | done | rfl | (simp only [List.length_drop, List.length_take]; rfl)) ?_; (with_reducible refine (spec_AreaOf.calls t320 t321 t323 _ A4.out).mono ?_); rintro e w11 ⟨rfl, hb⟩; refine ⟨_, rfl, ?_⟩; have n0_ := z0n (y5n (g := gb322) (o := .cells #[.int .i64 t320, .int .i64 t321] 24 (0, 0)) (by (with_reducible repeat (first | refine z1n ?_ _ | refine z3n ?_ | refine z2n ?_ _)); refine blk_put (cs := #[.int .i64 t320, .int .i64 0]) ?_ 1 _ rfl; (with_reducible repeat (first | refine z1n ?_ _ | refine z3n ?_ | refine z2n ?_ _)); refine blk_put (cs := #[.int .i64 0, .int .i64 0]) ?_ 0 _ rfl; (with_reducible repeat (first | refine z1n ?_ _ | refine z3n ?_ | refine z2n ?_ _)); exact BK322.out) hb); have n1_ := z0n (y6n (by repeat (first | (with_reducible first | exact HB.out | apply z4n | apply z5n | apply z6n | refine z7n ?_ GE322.out) | exact HB.out)) hb); clear BK322; clear HB; have BK322 := n0_; have HB := n1_; clear n0_ n1_; (try clear hb); have hcz12_0 : w11.cell? ⟨gb322, 0, none⟩ = some (.int .i64 t320) := (x3n BK322.out 0).trans rfl; have hcz12_1 : w11.cell? ⟨gb322, 1, none⟩ = some (.int .i64 t321) := (x3n BK322.out 1).trans rfl; have hfz12_0 := x2n BK322.out 0; have hfz12_1 := x2n BK322.out 1) | ((with_reducible refine gate_callee (f := 10) rfl ?_); refine goesL_ (some 19) rfl rfl Try.func10 (by kernel_rfl) rfl #[.agg #[.int .i64 t320, .int .i64 t321]] rfl (by (try simp only [List.map_toArray, List.map_cons, List.map_nil]); first | done | rfl | (simp only [List.length_drop, List.length_take]; rfl)) ?_; (with_reducible refine (spec_PeriodOf.calls k t320 t321 t324 _ A5.out).mono ?_); rintro e w13 ⟨rfl, hb⟩; refine ⟨_, rfl, ?_⟩; have n0_ := z0n (y5n (g := gb322) (o := .cells #[.int .i64 t320, .int .i64 t321] 24 (0, 0)) (by (with_reducible repeat (first | refine z1n ?_ _ | refine z3n ?_ | refine z2n ?_ _)); exact BK322.out) hb); have n1_ := z0n (y6n (by repeat (first | (with_reducible first | exact HB.out | apply z4n | apply z5n | apply z6n | refine z7n ?_ GE322.out) | exact HB.out)) hb); clear BK322; clear HB; have BK322 := n0_; have HB := n1_; clear n0_ n1_; (try clear hb); have hcz14_0 : w13.cell? ⟨gb322, 0, none⟩ = some (.int .i64 t320) := (x3n BK322.out 0).trans rfl; have hcz14_1 : w13.cell? ⟨gb322, 1, none⟩ = some (.int .i64 t321) := (x3n BK322.out 1).trans rfl; have hfz14_0 := x2n BK322.out 0; have hfz14_1 := x2n BK322.out 1) | ((with_reducible refine gate_callee (f := 15) rfl ?_); refine goesL_ (some 22) rfl rfl Try.func15 (by kernel_rfl) rfl #[.agg #[.int .i64 t320, .int .i64 t321]] rfl (by (try simp only [List.map_toArray, List.map_cons, List.map_nil]); first | done | rfl | (simp only [List.length_drop, List.length_take]; rfl)) ?_; (with_reducible refine (impl_SpotMatrix.calls k t320 t321 t325 t326 t327 t330 _ A6.out).mono ?_); rintro e w15 ⟨v328, rfl, ho0, hb⟩; refine ⟨_, rfl, ?_⟩; have n0_ := z0n (Kd.R_lower ho0 (y7n (by repeat (first | (with_reducible first | exact HB.out | apply z4n | apply z5n | apply z6n | refine z7n ?_ GE322.out) | exact HB.out)))); have n1_ := z0n (y5n (g := gb322) (o := .cells #[.int .i64 t320, .int .i64 t321] 24 (0, 0)) (by (with_reducible repeat (first | refine z1n ?_ _ | refine z3n ?_ | refine z2n ?_ _)); exact BK322.out) hb); have n2_ := z0n (y6n (by repeat (first | (with_reducible first | exact HB.out | apply z4n | apply z5n | apply z6n | refine z7n ?_ GE322.out) | exact HB.out)) hb); clear BK322; clear HB; have HO329 := n0_; have BK322 := n1_; have HB := n2_; clear n0_ n1_ n2_; (try clear hb); (try clear ho0)) | ((with_reducible refine gate_dst (N := 6) rfl ?_); refine box_event ?hg (N := 6) ?hd (cs := #[.int .i64 0, .int .i64 0, .slice none 0 0]) (t := 37) ?hr ?_; (case hd => rfl); (case hg => rfl); (case hr => first | (go_simp; done) | (go_simp; rfl)); intro gb331 hg w16 hbox hb; have n0_ := z0n (Kd.R_below (by (with_reducible repeat (first | apply z8n | apply z9n | apply y1n)); exact HO329.out) hb); have n1_ := z0n (y5n (g := gb322) (o := .cells #[.int .i64 t320, .int .i64 t321] 24 (0, 0)) (by (with_reducible repeat (first | refine z1n ?_ _ | refine z3n ?_ | refine z2n ?_ _)); exact BK322.out) hb); have n2_ := z0n (y6n (by repeat (first | (with_reducible first | exact HB.out | apply z4n | apply z5n | apply z6n | refine z7n ?_ GE322.out) | exact HB.out)) hb); have n3_ := z0n (hbox); have n4_ := z0n ((by rw [hg]; exact (y7n (by repeat (first | (with_reducible first | exact HB.out | apply z4n | apply z5n | apply z6n | refine z7n ?_ GE322.out) | exact HB.out))) : w.heap.size ≤ gb331)); have n5_ := z0n ((by rw [hg]; exact (y7n (by repeat (first | (with_reducible first | exact HB.out | apply z4n | apply z5n | apply z6n | refine z7n ?_ GE322.out) | exact HB.out))) : w.heap.size ≤ gb331)); have n6_ := z0n ((by rw [hg]; exact Nat.ne_of_lt (blk_lt (g := gb322) (o := .cells #[.int .i64 t320, .int .i64 t321] 24 (0, 0)) (by (with_reducible repeat (first | refine z1n ?_ _ | refine z3n ?_ | refine z2n ?_ _)); exact BK322.out)) : gb322 ≠ gb331)); have n7_ := z0n ((by rw [hg]; exact Nat.ne_of_gt (blk_lt (g := gb322) (o := .cells #[.int .i64 t320, .int .i64 t321] 24 (0, 0)) (by (with_reducible repeat (first | refine z1n ?_ _ | refine z3n ?_ | refine z2n ?_ _)); exact BK322.out)) : gb331 ≠ gb322)); clear HO329; clear BK322; clear HB; have HO329 := n0_; have BK322 := n1_; have HB := n2_; have BK331 := n3_; have GW331 := n4_; have GE331 := n5_; have NB322_331 := n6_; have NB331_322 := n7_; clear n0_ n1_ n2_ n3_ n4_ n5_ n6_ n7_; clear hb hbox hg; have hnb17 := NB331_322.out; have hnc17 := NB322_331.out; have hcz18_0 : w16.cell? ⟨gb331, 0, none⟩ = some (.int .i64 0) := (x3n BK331.out 0).trans rfl; have hcz18_1 : w16.cell? ⟨gb331, 1, none⟩ = some (.int .i64 0) := (x3n BK331.out 1).trans rfl; have hcz18_2 : w16.cell? ⟨gb331, 2, none⟩ = some (.slice none 0 0) := (x3n BK331.out 2).trans rfl; have hfz18_0 := x2n BK331.out 0; have hfz18_1 := x2n BK331.out 1; have hfz18_2 := x2n BK331.out 2; obtain ⟨Ao19, co19, eo19⟩ := Kd.R_slice HO329.out; subst eo19))
  (try simp only [Act.put, s1n_, s2n_, s3n_])
  go_cut [43] (fun v43 wc => ∃ (kq : Nat) (x43_6 : Bool), v43 = .bool x43_6 ∧ Aside0 (laws_FnSpotMatrix.j0 kq l0 t323 t324 x43_6 t320 t321 t325 t326 t327 = some r) ∧ Aside0 (kq ≤ k) ∧ Aside0 (Kd.R (Kd.int .i64) 3 wc w.heap.size (fun _ => True) (.slice Ao19 t327.length co19) t327) ∧ Aside0 (wc.heap[gb322]? = some (.cells #[.int .i64 t320, .int .i64 t321] 24 (0, 0))) ∧ Aside0 (wc.heap[gb331]? = some (.cells #[.int .i64 t325, .int .i64 t326, (.slice Ao19 t327.length co19)] 37 (0, 0))) ∧ Aside0 (Below w.heap.size w wc))
  case first =>
   have H := HC7.out
   clear HC7
   by_cases c20 : t330 = true
   ·subst c20
    have H1 : (if t325 = t324 then (if t326 = t324 then ((impl_IsMatrix.f t325 t326 t327).bind fun t332 => (laws_FnSpotMatrix.j0 k l0 t323 t324 (!t332) t320 t321 t325 t326 t327)) else (laws_FnSpotMatrix.j0 k l0 t323 t324 true t320 t321 t325 t326 t327)) else (laws_FnSpotMatrix.j0 k l0 t323 t324 true t320 t321 t325 t326 t327)) = some r := by rw [if_pos rfl] at H; first | exact H | (simp only [if_true] at H ⊢; exact H)
    clear H
    have H := H1
    clear H1
    by_cases c21 : t325 = t324
    ·rw [if_pos c21] at H
     have c21b0 : (t325 == t324) = true := beq_iff_eq.mpr c21
     have c21b1 : (t325 != t324) = false := bne_eq_false_iff_eq.mpr c21
     clear c21
     (first | rw [c21b0] | (simp only [i64_w, i32_w]; rw [c21b0]) | skip)
     by_cases c22 : t326 = t324
     ·rw [if_pos c22] at H
      have c22b0 : (t326 == t324) = true := beq_iff_eq.mpr c22
      have c22b1 : (t326 != t324) = false := bne_eq_false_iff_eq.mpr c22
      clear c22
      replace H := Option.bind_eq_some_iff.mp H
      obtain ⟨t332, A230, H⟩ := H
      replace H : (laws_FnSpotMatrix.j0 k l0 t323 t324 (!t332) t320 t321 t325 t326 t327) = some r := H
      have A23 := z0n A230
      clear A230
      have H' := z0n H
      clear H
      have hnb24 := NB331_322.out
      have hnc24 := NB322_331.out
      have hcz25_0 : w16.cell? ⟨gb331, 0, none⟩ = some (.int .i64 0) := (x3n BK331.out 0).trans rfl
      have hcz25_1 : w16.cell? ⟨gb331, 1, none⟩ = some (.int .i64 0) := (x3n BK331.out 1).trans rfl
      have hcz25_2 : w16.cell? ⟨gb331, 2, none⟩ = some (.slice none 0 0) := (x3n BK331.out 2).trans rfl
      have hfz25_0 := x2n BK331.out 0
      have hfz25_1 := x2n BK331.out 1
      have hfz25_2 := x2n BK331.out 2
      go_wp2_with (first | (go_at_call 16; (with_reducible refine (impl_IsMatrix.calls t325 t326 _ _ t327 t332 _ ?side1 ?side2 A23.out).mono ?_); (case side1 => refine (Kd.R_reads' (e := 3) (base := w.heap.size) (ok := fun k_ => True) (n := t327.length) (c := co19) ?_).2.2; exact (by (with_reducible repeat (first | apply z8n | apply z9n | apply y1n)); exact (Kd.R_mono (x1n (p := ⟨gb331, 2, none⟩) (x1n (p := ⟨gb331, 1, none⟩) (x1n (p := ⟨gb331, 0, none⟩) (Kd.R_types HO329.out BK331.out (by decide)) (fun _ hk => hk.2) (.int .i64 t325)) (fun _ hk => hk.2) (.int .i64 t326)) (fun _ hk => hk.2) (.slice Ao19 t327.length co19)) (fun _ h_ => h_.1)))); (case side2 => exact (Kd.R_reads' HO329.out).2.1); rintro e w26 ⟨rfl, hb⟩; have n0_ := z0n (Kd.R_below (by (with_reducible repeat (first | apply z8n | apply z9n | apply y1n)); exact (Kd.R_mono (x1n (p := ⟨gb331, 2, none⟩) (x1n (p := ⟨gb331, 1, none⟩) (x1n (p := ⟨gb331, 0, none⟩) (Kd.R_types HO329.out BK331.out (by decide)) (fun _ hk => hk.2) (.int .i64 t325)) (fun _ hk => hk.2) (.int .i64 t326)) (fun _ hk => hk.2) (.slice Ao19 t327.length co19)) (fun _ h_ => h_.1))) hb); have n1_ := z0n (y5n (g := gb322) (o := .cells #[.int .i64 t320, .int .i64 t321] 24 (0, 0)) (by (with_reducible repeat (first | refine z1n ?_ _ | refine z3n ?_ | refine z2n ?_ _)); refine x8n ?_ NB322_331.out _; (with_reducible repeat (first | refine z1n ?_ _ | refine z3n ?_ | refine z2n ?_ _)); refine x8n ?_ NB322_331.out _; (with_reducible repeat (first | refine z1n ?_ _ | refine z3n ?_ | refine z2n ?_ _)); refine x8n ?_ NB322_331.out _; (with_reducible repeat (first | refine z1n ?_ _ | refine z3n ?_ | refine z2n ?_ _)); exact BK322.out) hb); have n2_ := z0n (y5n (g := gb331) (o := .cells #[.int .i64 t325, .int .i64 t326, .slice Ao19 t327.length co19] 37 (0, 0)) (by (with_reducible repeat (first | refine z1n ?_ _ | refine z3n ?_ | refine z2n ?_ _)); refine blk_put (cs := #[.int .i64 t325, .int .i64 t326, .slice none 0 0]) ?_ 2 _ rfl; (with_reducible repeat (first | refine z1n ?_ _ | refine z3n ?_ | refine z2n ?_ _)); refine blk_put (cs := #[.int .i64 t325, .int .i64 0, .slice none 0 0]) ?_ 1 _ rfl; (with_reducible repeat (first | refine z1n ?_ _ | refine z3n ?_ | refine z2n ?_ _)); refine blk_put (cs := #[.int .i64 0, .int .i64 0, .slice none 0 0]) ?_ 0 _ rfl; (with_reducible repeat (first | refine z1n ?_ _ | refine z3n ?_ | refine z2n ?_ _)); exact BK331.out) hb); have n3_ := z0n (y6n (by repeat (first | (with_reducible first | exact HB.out | apply z4n | apply z5n | apply z6n | refine z7n ?_ GE322.out | refine z7n ?_ GE331.out) | exact HB.out)) hb); clear HO329; clear BK322; clear BK331; clear HB; have HO329 := n0_; have BK322 := n1_; have BK331 := n2_; have HB := n3_; clear n0_ n1_ n2_ n3_; (try clear hb)))
      go_meet
      case rel => exact ⟨_, (!t332), (by first | rfl | (simp; done) | (simp [*]; done)), H', ⟨by first | omega | exact Nat.le_refl _⟩, ⟨by (with_reducible repeat (first | apply z8n | apply z9n | apply y1n)); exact HO329.out⟩, ⟨by (with_reducible repeat (first | refine z1n ?_ _ | refine z3n ?_ | refine z2n ?_ _)); exact BK322.out⟩, ⟨by (with_reducible repeat (first | refine z1n ?_ _ | refine z3n ?_ | refine z2n ?_ _)); exact BK331.out⟩, ⟨by repeat (first | (with_reducible first | exact HB.out | apply z4n | apply z5n | apply z6n | refine z7n ?_ GE322.out | refine z7n ?_ GE331.out) | exact HB.out)⟩⟩
     ·rw [if_neg c22] at H
      have c22b0 : (t326 == t324) = false := beq_eq_false_iff_ne.mpr c22
      have c22b1 : (t326 != t324) = true := bne_iff_ne.mpr c22
      exact absurd H (by rw [HRT_.out]; generalize k = k_; cases k_ with | zero => (rw [laws_FnSpotMatrix.j0]; simp) | succ k_ => (rw [laws_FnSpotMatrix.j0, if_pos rfl]; simp))
    ·rw [if_neg c21] at H
     have c21b0 : (t325 == t324) = false := beq_eq_false_iff_ne.mpr c21
     have c21b1 : (t325 != t324) = true := bne_iff_ne.mpr c21
     (first | rw [c21b0] | (simp only [i64_w, i32_w]; rw [c21b0]) | skip)
     exact absurd H (by rw [HRT_.out]; generalize k = k_; cases k_ with | zero => (rw [laws_FnSpotMatrix.j0]; simp) | succ k_ => (rw [laws_FnSpotMatrix.j0, if_pos rfl]; simp))
   ·replace c20 := Bool.eq_false_iff.mpr c20
    subst c20
    have H1 : (laws_FnSpotMatrix.j0 k l0 t323 t324 true t320 t321 t325 t326 t327) = some r := by rw [if_neg (show ¬ (false = true) by decide)] at H; first | exact H | (simp only [if_true] at H ⊢; exact H)
    clear H
    have H := H1
    clear H1
    exact absurd H (by rw [HRT_.out]; generalize k = k_; cases k_ with | zero => (rw [laws_FnSpotMatrix.j0]; simp) | succ k_ => (rw [laws_FnSpotMatrix.j0, if_pos rfl]; simp))
  case rest =>
   clear HC7
   try clear c1
   try clear c2
   try clear c2b0
   try clear c2b1
   try clear p2
   try clear c4
   try clear c8
   try clear c9
   try clear c10
   try clear c15
   try clear c17
   try clear c20
   try clear c21
   try clear c21b0
   try clear c21b1
   try clear c22
   try clear c22b0
   try clear c22b1
   try clear c24
   try clear hcz10_0
   try clear hcz10_1
   try clear hcz12_0
   try clear hcz12_1
   try clear hcz14_0
   try clear hcz14_1
   try clear hcz18_0
   try clear hcz18_1
   try clear hcz18_2
   try clear hcz25_0
   try clear hcz25_1
   try clear hcz25_2
   try clear hfz10_0
   try clear hfz10_1
   try clear hfz12_0
   try clear hfz12_1
   try clear hfz14_0
   try clear hfz14_1
   try clear hfz18_0
   try clear hfz18_1
   try clear hfz18_2
   try clear hfz25_0
   try clear hfz25_1
   try clear hfz25_2
   obtain ⟨kq, x43_6, rfl, HA, HJ6, Ha_, BK322, BK331, HB⟩ := hcut
   cases kq with
   | zero => exact absurd HA.out (by simp [laws_FnSpotMatrix.j0])
   | succ kj6 =>
    have H := HA.out
    clear HA
    simp only [laws_FnSpotMatrix.j0] at H
    by_cases c27 : x43_6 = true
    ·subst c27
     have H1 : (some false) = some r := by rw [if_pos rfl] at H; first | exact H | (simp only [if_true] at H ⊢; exact H)
     clear H
     have H := H1
     clear H1
     exact absurd (Option.some.inj H) (by rw [HRT_.out]; decide)
    ·replace c27 := Bool.eq_false_iff.mpr c27
     subst c27
     have H1 : ((laws_at.f l0 1).bind fun t333 => (if (wrap64 (t323 + 1)) = 0 then (none) else ((impl_SpotPlate.f kj6 t320 t321 (Int.tmod t333 (wrap64 (t323 + 1))) t324 t324).bind fun bt334 => (if bt334.2.2.2 = true then (if t323 = 0 then (none) else ((impl_CellsBelow.f t325 t326 t327 (wrap64 ((Int.tmod t333 (wrap64 (t323 + 1))) * (wrap64 (Int.tdiv (wrap64 (t324 * t324)) t323))))).bind fun bt341 => ((laws_same.f kj6 bt341.1 bt341.2.1 bt341.2.2 bt334.1 bt334.2.1 bt334.2.2.1).bind fun t346 => (some t346)))) else (some false))))) = some r := by rw [if_neg (show ¬ (false = true) by decide)] at H; first | exact H | (simp only [if_true] at H ⊢; exact H)
     clear H
     have H := H1
     clear H1
     replace H := Option.bind_eq_some_iff.mp H
     obtain ⟨t333, A280, H⟩ := H
     replace H : (if (wrap64 (t323 + 1)) = 0 then (none) else ((impl_SpotPlate.f kj6 t320 t321 (Int.tmod t333 (wrap64 (t323 + 1))) t324 t324).bind fun bt334 => (if bt334.2.2.2 = true then (if t323 = 0 then (none) else ((impl_CellsBelow.f t325 t326 t327 (wrap64 ((Int.tmod t333 (wrap64 (t323 + 1))) * (wrap64 (Int.tdiv (wrap64 (t324 * t324)) t323))))).bind fun bt341 => ((laws_same.f kj6 bt341.1 bt341.2.1 bt341.2.2 bt334.1 bt334.2.1 bt334.2.2.1).bind fun t346 => (some t346)))) else (some false)))) = some r := H
     have A28 := z0n A280
     clear A280
     by_cases c29 : (wrap64 (t323 + 1)) = 0
     ·rw [if_pos c29] at H
      exact absurd H (by simp)
     ·rw [if_neg c29] at H
      have c29b0 : ((wrap64 (t323 + 1)) == 0) = false := beq_eq_false_iff_ne.mpr c29
      have c29b1 : ((wrap64 (t323 + 1)) != 0) = true := bne_iff_ne.mpr c29
      replace H := Option.bind_eq_some_iff.mp H
      obtain ⟨⟨t334, t335, t336, t339⟩, A300, H⟩ := H
      replace H : (if t339 = true then (if t323 = 0 then (none) else ((impl_CellsBelow.f t325 t326 t327 (wrap64 ((Int.tmod t333 (wrap64 (t323 + 1))) * (wrap64 (Int.tdiv (wrap64 (t324 * t324)) t323))))).bind fun bt341 => ((laws_same.f kj6 bt341.1 bt341.2.1 bt341.2.2 t334 t335 t336).bind fun t346 => (some t346)))) else (some false)) = some r := H
      have A30 := z0n A300
      clear A300
      by_cases c31 : t339 = true
      ·subst c31
       have H1 : (if t323 = 0 then (none) else ((impl_CellsBelow.f t325 t326 t327 (wrap64 ((Int.tmod t333 (wrap64 (t323 + 1))) * (wrap64 (Int.tdiv (wrap64 (t324 * t324)) t323))))).bind fun bt341 => ((laws_same.f kj6 bt341.1 bt341.2.1 bt341.2.2 t334 t335 t336).bind fun t346 => (some t346)))) = some r := by rw [if_pos rfl] at H; first | exact H | (simp only [if_true] at H ⊢; exact H)
       clear H
       have H := H1
       clear H1
       by_cases c32 : t323 = 0
       ·rw [if_pos c32] at H
        exact absurd H (by simp)
       ·rw [if_neg c32] at H
        have c32b0 : (t323 == 0) = false := beq_eq_false_iff_ne.mpr c32
        have c32b1 : (t323 != 0) = true := bne_iff_ne.mpr c32
        replace H := Option.bind_eq_some_iff.mp H
        obtain ⟨⟨t341, t342, t343⟩, A330, H⟩ := H
        replace H : ((laws_same.f kj6 t341 t342 t343 t334 t335 t336).bind fun t346 => (some t346)) = some r := H
        have A33 := z0n A330
        clear A330
        replace H := Option.bind_eq_some_iff.mp H
        obtain ⟨t346, A340, H⟩ := H
        replace H : (some t346) = some r := H
        have A34 := z0n A340
        clear A340
        obtain rfl := Option.some.inj H
        try go_wp2_with (first | ((with_reducible refine gate_callee (f := 11) rfl ?_); refine goesL_ (some 45) rfl rfl Try.func11 (by kernel_rfl) rfl #[.slice A0 l0.length c0, .int .i64 1] rfl (by (try simp only [List.map_toArray, List.map_cons, List.map_nil]); first | done | rfl | (simp only [List.length_drop, List.length_take]; rfl)) ?_; (with_reducible refine (laws_at.calls _ _ l0 1 t333 _ ?side1 ?side2 A28.out).mono ?_); (case side1 => repeat (first | exact (Kd.C_below HR0.out HB.out) | (with_reducible refine Kd.C_alloc ?_ _) | (with_reducible refine Kd.C_drewN ?_ _) | (with_reducible refine Kd.C_drew ?_))); (case side2 => exact HC0.out); rintro e w' ⟨rfl, ⟨nd, rfl⟩⟩; refine ⟨_, rfl, ?_⟩; (try (rw [drewN_self wc]; generalize hq_ : World.drewN wc _ = wc; have n0_ : Aside0 (Kd.R (Kd.int .i64) 3 wc w.heap.size (fun _ => True) (.slice Ao19 t327.length co19) t327) := ⟨by rw [← hq_]; exact (by (with_reducible repeat (first | apply z8n | apply z9n | apply y1n)); exact Ha_.out)⟩; have n1_ : Aside0 (wc.heap[gb322]? = some (.cells #[.int .i64 t320, .int .i64 t321] 24 (0, 0))) := ⟨by rw [← hq_]; exact (by (with_reducible repeat (first | refine z1n ?_ _ | refine z3n ?_ | refine z2n ?_ _)); exact BK322.out)⟩; have n2_ : Aside0 (wc.heap[gb331]? = some (.cells #[.int .i64 t325, .int .i64 t326, .slice Ao19 t327.length co19] 37 (0, 0))) := ⟨by rw [← hq_]; exact (by (with_reducible repeat (first | refine z1n ?_ _ | refine z3n ?_ | refine z2n ?_ _)); exact BK331.out)⟩; have n3_ : Aside0 (Below w.heap.size w wc) := ⟨by rw [← hq_]; exact (by repeat (first | (with_reducible first | exact HB.out | apply z4n | apply z5n | apply z6n | refine z7n ?_ GE322.out | refine z7n ?_ GE331.out) | exact HB.out))⟩; clear Ha_ BK322 BK331 HB hq_; have Ha_ := n0_; have BK322 := n1_; have BK331 := n2_; have HB := n3_; clear n0_ n1_ n2_ n3_)); have hnb35 := NB322_331.out; have hnc35 := NB331_322.out; have hcz36_0 : wc.cell? ⟨gb322, 0, none⟩ = some (.int .i64 t320) := (x3n BK322.out 0).trans rfl; have hcz36_1 : wc.cell? ⟨gb322, 1, none⟩ = some (.int .i64 t321) := (x3n BK322.out 1).trans rfl; have hfz36_0 := x2n BK322.out 0; have hfz36_1 := x2n BK322.out 1) | ((with_reducible refine gate_callee (f := 12) rfl ?_); refine goesL_ (some 54) rfl rfl Try.func12 (by kernel_rfl) rfl #[.agg #[.int .i64 t320, .int .i64 t321], .int .i64 (Int.tmod t333 (wrap64 (t323 + 1))), .int .i64 t324, .int .i64 t324] rfl (by (try simp only [List.map_toArray, List.map_cons, List.map_nil]); first | done | rfl | (simp only [List.length_drop, List.length_take]; rfl)) ?_; (with_reducible refine (impl_SpotPlate.calls kj6 t320 t321 (Int.tmod t333 (wrap64 (t323 + 1))) t324 t324 t334 t335 t336 true _ A30.out).mono ?_); rintro e w37 ⟨v337, rfl, ho0, hb⟩; refine ⟨_, rfl, ?_⟩; have n0_ := z0n (Kd.R_elder' (by (with_reducible repeat (first | apply z8n | apply z9n | apply y1n)); exact Ha_.out) (Kd.R_base ho0) hb); have n1_ := z0n (Kd.R_lower (Kd.R_new' ho0 (Kd.R_lt (by (with_reducible repeat (first | apply z8n | apply z9n | apply y1n)); exact Ha_.out))) (y7n (by repeat (first | (with_reducible first | exact HB.out | apply z4n | apply z5n | apply z6n | refine z7n ?_ GE322.out | refine z7n ?_ GE331.out) | exact HB.out)))); have n2_ := z0n (y5n (g := gb322) (o := .cells #[.int .i64 t320, .int .i64 t321] 24 (0, 0)) (by (with_reducible repeat (first | refine z1n ?_ _ | refine z3n ?_ | refine z2n ?_ _)); exact BK322.out) hb); have n3_ := z0n (y5n (g := gb331) (o := .cells #[.int .i64 t325, .int .i64 t326, .slice Ao19 t327.length co19] 37 (0, 0)) (by (with_reducible repeat (first | refine z1n ?_ _ | refine z3n ?_ | refine z2n ?_ _)); exact BK331.out) hb); have n4_ := z0n (y6n (by repeat (first | (with_reducible first | exact HB.out | apply z4n | apply z5n | apply z6n | refine z7n ?_ GE322.out | refine z7n ?_ GE331.out) | exact HB.out)) hb); clear Ha_; clear BK322; clear BK331; clear HB; have Ha_ := n0_; have HO338 := n1_; have BK322 := n2_; have BK331 := n3_; have HB := n4_; clear n0_ n1_ n2_ n3_ n4_; (try clear hb); (try clear ho0)) | ((with_reducible refine gate_dst (N := 9) rfl ?_); refine box_event ?hg (N := 9) ?hd (cs := #[.int .i64 0, .int .i64 0, .slice none 0 0]) (t := 30) ?hr ?_; (case hd => rfl); (case hg => rfl); (case hr => first | (go_simp; done) | (go_simp; rfl)); intro gb340 hg w38 hbox hb; have n0_ := z0n (Kd.R_below (by (with_reducible repeat (first | apply z8n | apply z9n | apply y1n)); exact Ha_.out) hb); have n1_ := z0n (Kd.R_below (by (with_reducible repeat (first | apply z8n | apply z9n | apply y1n)); exact HO338.out) hb); have n2_ := z0n (y5n (g := gb322) (o := .cells #[.int .i64 t320, .int .i64 t321] 24 (0, 0)) (by (with_reducible repeat (first | refine z1n ?_ _ | refine z3n ?_ | refine z2n ?_ _)); exact BK322.out) hb); have n3_ := z0n (y5n (g := gb331) (o := .cells #[.int .i64 t325, .int .i64 t326, .slice Ao19 t327.length co19] 37 (0, 0)) (by (with_reducible repeat (first | refine z1n ?_ _ | refine z3n ?_ | refine z2n ?_ _)); exact BK331.out) hb); have n4_ := z0n (y6n (by repeat (first | (with_reducible first | exact HB.out | apply z4n | apply z5n | apply z6n | refine z7n ?_ GE322.out | refine z7n ?_ GE331.out) | exact HB.out)) hb); have n5_ := z0n (hbox); have n6_ := z0n ((by rw [hg]; exact (y7n (by repeat (first | (with_reducible first | exact HB.out | apply z4n | apply z5n | apply z6n | refine z7n ?_ GE322.out | refine z7n ?_ GE331.out) | exact HB.out))) : w.heap.size ≤ gb340)); have n7_ := z0n ((by rw [hg]; exact (y7n (by repeat (first | (with_reducible first | exact HB.out | apply z4n | apply z5n | apply z6n | refine z7n ?_ GE322.out | refine z7n ?_ GE331.out) | exact HB.out))) : w.heap.size ≤ gb340)); have n8_ := z0n ((by rw [hg]; exact Nat.ne_of_lt (blk_lt (g := gb322) (o := .cells #[.int .i64 t320, .int .i64 t321] 24 (0, 0)) (by (with_reducible repeat (first | refine z1n ?_ _ | refine z3n ?_ | refine z2n ?_ _)); exact BK322.out)) : gb322 ≠ gb340)); have n9_ := z0n ((by rw [hg]; exact Nat.ne_of_gt (blk_lt (g := gb322) (o := .cells #[.int .i64 t320, .int .i64 t321] 24 (0, 0)) (by (with_reducible repeat (first | refine z1n ?_ _ | refine z3n ?_ | refine z2n ?_ _)); exact BK322.out)) : gb340 ≠ gb322)); have n10_ := z0n ((by rw [hg]; exact Nat.ne_of_lt (blk_lt (g := gb331) (o := .cells #[.int .i64 t325, .int .i64 t326, .slice Ao19 t327.length co19] 37 (0, 0)) (by (with_reducible repeat (first | refine z1n ?_ _ | refine z3n ?_ | refine z2n ?_ _)); exact BK331.out)) : gb331 ≠ gb340)); have n11_ := z0n ((by rw [hg]; exact Nat.ne_of_gt (blk_lt (g := gb331) (o := .cells #[.int .i64 t325, .int .i64 t326, .slice Ao19 t327.length co19] 37 (0, 0)) (by (with_reducible repeat (first | refine z1n ?_ _ | refine z3n ?_ | refine z2n ?_ _)); exact BK331.out)) : gb340 ≠ gb331)); clear Ha_; clear HO338; clear BK322; clear BK331; clear HB; have Ha_ := n0_; have HO338 := n1_; have BK322 := n2_; have BK331 := n3_; have HB := n4_; have BK340 := n5_; have GW340 := n6_; have GE340 := n7_; have NB322_340 := n8_; have NB340_322 := n9_; have NB331_340 := n10_; have NB340_331 := n11_; clear n0_ n1_ n2_ n3_ n4_ n5_ n6_ n7_ n8_ n9_ n10_ n11_; clear hb hbox hg; have hnb39 := NB340_322.out; have hnc39 := NB322_340.out; have hnb40 := NB340_331.out; have hnc40 := NB331_340.out; have hcz41_0 : w38.cell? ⟨gb340, 0, none⟩ = some (.int .i64 0) := (x3n BK340.out 0).trans rfl; have hcz41_1 : w38.cell? ⟨gb340, 1, none⟩ = some (.int .i64 0) := (x3n BK340.out 1).trans rfl; have hcz41_2 : w38.cell? ⟨gb340, 2, none⟩ = some (.slice none 0 0) := (x3n BK340.out 2).trans rfl; have hfz41_0 := x2n BK340.out 0; have hfz41_1 := x2n BK340.out 1; have hfz41_2 := x2n BK340.out 2; obtain ⟨Ao42, co42, eo42⟩ := Kd.R_slice HO338.out; subst eo42))
        have n0_ : Aside0 (Kd.R (Kd.int .i64) 3 (((w38.setCell ⟨gb340, 0, none⟩ (.int .i64 t334)).setCell ⟨gb340, 1, none⟩ (.int .i64 t335)).setCell ⟨gb340, 2, none⟩ (.slice Ao42 t336.length co42)) w.heap.size (fun k_ => some k_ ≠ (.slice Ao42 t336.length co42 : Value).ownBlock) (.slice Ao19 t327.length co19) t327) := ⟨by (with_reducible repeat (first | apply z8n | apply z9n | apply y1n)); exact Kd.R_mono (x1n (p := ⟨gb340, 2, none⟩) (x1n (p := ⟨gb340, 1, none⟩) (x1n (p := ⟨gb340, 0, none⟩) (Kd.R_types Ha_.out BK340.out (by decide)) (fun _ hk => hk.2) (.int .i64 t334)) (fun _ hk => hk.2) (.int .i64 t335)) (fun _ hk => hk.2) (.slice Ao42 t336.length co42)) (fun _ hk => hk.1.2)⟩
        have n1_ : Aside0 (Kd.R (Kd.int .i64) 3 (((w38.setCell ⟨gb340, 0, none⟩ (.int .i64 t334)).setCell ⟨gb340, 1, none⟩ (.int .i64 t335)).setCell ⟨gb340, 2, none⟩ (.slice Ao42 t336.length co42)) w.heap.size (fun k_ => some k_ ≠ (.slice Ao19 t327.length co19 : Value).ownBlock) (.slice Ao42 t336.length co42) t336) := ⟨by (with_reducible repeat (first | apply z8n | apply z9n | apply y1n)); exact Kd.R_mono (x1n (p := ⟨gb340, 2, none⟩) (x1n (p := ⟨gb340, 1, none⟩) (x1n (p := ⟨gb340, 0, none⟩) (Kd.R_types HO338.out BK340.out (by decide)) (fun _ hk => hk.2) (.int .i64 t334)) (fun _ hk => hk.2) (.int .i64 t335)) (fun _ hk => hk.2) (.slice Ao42 t336.length co42)) (fun _ hk => hk.1.2)⟩
        have n2_ : Aside0 ((((w38.setCell ⟨gb340, 0, none⟩ (.int .i64 t334)).setCell ⟨gb340, 1, none⟩ (.int .i64 t335)).setCell ⟨gb340, 2, none⟩ (.slice Ao42 t336.length co42)).heap[gb322]? = some (.cells #[.int .i64 t320, .int .i64 t321] 24 (0, 0))) := ⟨by (with_reducible repeat (first | refine z1n ?_ _ | refine z3n ?_ | refine z2n ?_ _)); refine x8n ?_ NB322_340.out _; (with_reducible repeat (first | refine z1n ?_ _ | refine z3n ?_ | refine z2n ?_ _)); refine x8n ?_ NB322_340.out _; (with_reducible repeat (first | refine z1n ?_ _ | refine z3n ?_ | refine z2n ?_ _)); refine x8n ?_ NB322_340.out _; (with_reducible repeat (first | refine z1n ?_ _ | refine z3n ?_ | refine z2n ?_ _)); exact BK322.out⟩
        have n3_ : Aside0 ((((w38.setCell ⟨gb340, 0, none⟩ (.int .i64 t334)).setCell ⟨gb340, 1, none⟩ (.int .i64 t335)).setCell ⟨gb340, 2, none⟩ (.slice Ao42 t336.length co42)).heap[gb331]? = some (.cells #[.int .i64 t325, .int .i64 t326, .slice Ao19 t327.length co19] 37 (0, 0))) := ⟨by (with_reducible repeat (first | refine z1n ?_ _ | refine z3n ?_ | refine z2n ?_ _)); refine x8n ?_ NB331_340.out _; (with_reducible repeat (first | refine z1n ?_ _ | refine z3n ?_ | refine z2n ?_ _)); refine x8n ?_ NB331_340.out _; (with_reducible repeat (first | refine z1n ?_ _ | refine z3n ?_ | refine z2n ?_ _)); refine x8n ?_ NB331_340.out _; (with_reducible repeat (first | refine z1n ?_ _ | refine z3n ?_ | refine z2n ?_ _)); exact BK331.out⟩
        have n4_ : Aside0 ((((w38.setCell ⟨gb340, 0, none⟩ (.int .i64 t334)).setCell ⟨gb340, 1, none⟩ (.int .i64 t335)).setCell ⟨gb340, 2, none⟩ (.slice Ao42 t336.length co42)).heap[gb340]? = some (.cells #[.int .i64 t334, .int .i64 t335, .slice Ao42 t336.length co42] 30 (0, 0))) := ⟨by (with_reducible repeat (first | refine z1n ?_ _ | refine z3n ?_ | refine z2n ?_ _)); refine blk_put (cs := #[.int .i64 t334, .int .i64 t335, .slice none 0 0]) ?_ 2 _ rfl; (with_reducible repeat (first | refine z1n ?_ _ | refine z3n ?_ | refine z2n ?_ _)); refine blk_put (cs := #[.int .i64 t334, .int .i64 0, .slice none 0 0]) ?_ 1 _ rfl; (with_reducible repeat (first | refine z1n ?_ _ | refine z3n ?_ | refine z2n ?_ _)); refine blk_put (cs := #[.int .i64 0, .int .i64 0, .slice none 0 0]) ?_ 0 _ rfl; (with_reducible repeat (first | refine z1n ?_ _ | refine z3n ?_ | refine z2n ?_ _)); exact BK340.out⟩
        have n5_ : Aside0 (Below w.heap.size w (((w38.setCell ⟨gb340, 0, none⟩ (.int .i64 t334)).setCell ⟨gb340, 1, none⟩ (.int .i64 t335)).setCell ⟨gb340, 2, none⟩ (.slice Ao42 t336.length co42))) := ⟨by repeat (first | (with_reducible first | exact HB.out | apply z4n | apply z5n | apply z6n | refine z7n ?_ GE322.out | refine z7n ?_ GE331.out | refine z7n ?_ GE340.out) | exact HB.out)⟩
        (try clear Ha_)
        (try clear HO338)
        (try clear BK322)
        (try clear BK331)
        (try clear BK340)
        (try clear HB)
        generalize (((w38.setCell ⟨gb340, 0, none⟩ (.int .i64 t334)).setCell ⟨gb340, 1, none⟩ (.int .i64 t335)).setCell ⟨gb340, 2, none⟩ (.slice Ao42 t336.length co42)) = w43 at n0_ n1_ n2_ n3_ n4_ n5_ ⊢
        have Ha_ := n0_
        have HO338 := n1_
        have BK322 := n2_
        have BK331 := n3_
        have BK340 := n4_
        have HB := n5_
        clear n0_ n1_ n2_ n3_ n4_ n5_
        have n0_ := z0n (y1n Ha_.out)
        have n1_ := z0n (y1n HO338.out)
        have n2_ := z0n (z3n BK322.out)
        have n3_ := z0n (z3n BK331.out)
        have n4_ := z0n (z3n BK340.out)
        have n5_ := z0n (z6n HB.out)
        clear Ha_
        clear HO338
        clear BK322
        clear BK331
        clear BK340
        clear HB
        have Ha_ := n0_
        have HO338 := n1_
        have BK322 := n2_
        have BK331 := n3_
        have BK340 := n4_
        have HB := n5_
        clear n0_ n1_ n2_ n3_ n4_ n5_
        refine start_ (n := 15) (S := fun w' => w'.cell? ⟨gb331, 0, none⟩ = some (.int .i64 t325) ∧ w'.cell? ⟨gb331, 1, none⟩ = some (.int .i64 t326) ∧ w'.cell? ⟨gb331, 2, none⟩ = some (.slice Ao19 t327.length co19) ∧ w'.cell? ⟨gb340, 0, none⟩ = some (.int .i64 t334) ∧ w'.cell? ⟨gb340, 1, none⟩ = some (.int .i64 t335) ∧ w'.cell? ⟨gb340, 2, none⟩ = some (.slice Ao42 t336.length co42)) (ds := []) (bsn_ 15 0) (by kernel_rfl) rfl rfl ⟨(x3n BK331.out 0).trans rfl, (x3n BK331.out 1).trans rfl, (x3n BK331.out 2).trans rfl, (x3n BK340.out 0).trans rfl, (x3n BK340.out 1).trans rfl, (x3n BK340.out 2).trans rfl⟩ (fun hHeld => ?_); refine with_tabW laws_FnSpotMatrix.tab11 laws_FnSpotMatrix.bits11 (fun HT_ HW_ => ?_)
        generalize w43.drew = w44 at Ha_ HO338 BK322 BK331 BK340 HB hHeld ⊢
        refine pure_ (i := 0) (N := some 57) (v := ?_) (a' := ?_) (bsn_ 15 1) rfl rfl (any_of HT_.out (by kernel_rfl)) (fun _ _ _ h => h) (Or.inl ⟨by rfl, ?_⟩) ?_ ?_
        rotate_left
        ·intro w'
         go_simp
         with_reducible rfl
        rotate_left
        ·simp only [Act.put, s1n_, s2n_, s3n_, i64_w, i32_w]
         rfl
        refine pure_ (i := 1) (N := some 58) (v := ?_) (a' := ?_) (bsn_ 15 3) rfl rfl (any_of HT_.out (by kernel_rfl)) (fun _ _ _ h => h) (Or.inl ⟨by rfl, ?_⟩) ?_ ?_
        rotate_left
        ·intro w'
         go_simp
         with_reducible rfl
        rotate_left
        ·simp only [Act.put, s1n_, s2n_, s3n_, i64_w, i32_w]
         rfl
        refine pure_ (i := 3) (N := some 60) (v := ?_) (a' := ?_) (bsn_ 15 11) rfl rfl (any_of HT_.out (by kernel_rfl)) (fun _ _ _ h => h) (Or.inl ⟨by rfl, ?_⟩) ?_ ?_
        rotate_left
        ·intro w'
         go_simp
         with_reducible rfl
        rotate_left
        ·simp only [Act.put, s1n_, s2n_, s3n_, i64_w, i32_w]
         rfl
        refine pure_ (i := 4) (N := some 61) (v := ?_) (a' := ?_) (bsn_ 15 27) rfl rfl (any_of HT_.out (by kernel_rfl)) (fun _ _ _ h => h) (Or.inl ⟨by rfl, ?_⟩) ?_ ?_
        rotate_left
        ·intro w'
         go_simp
         with_reducible rfl
        rotate_left
        ·simp only [Act.put, s1n_, s2n_, s3n_, i64_w, i32_w]
         rfl
        refine pure_ (i := 5) (N := some 62) (v := ?_) (a' := ?_) (bsn_ 15 59) rfl rfl (any_of HT_.out (by kernel_rfl)) (fun _ _ _ h => h) (Or.inl ⟨by rfl, ?_⟩) ?_ ?_
        rotate_left
        ·intro w'
         go_simp
         with_reducible rfl
        rotate_left
        ·simp only [Act.put, s1n_, s2n_, s3n_, i64_w, i32_w]
         rfl
        refine pure_ (i := 6) (N := some 63) (v := ?_) (a' := ?_) (bsn_ 15 123) rfl rfl (any_of HT_.out (by kernel_rfl)) (fun _ _ _ h => h) (Or.inl ⟨by rfl, ?_⟩) ?_ ?_
        rotate_left
        ·intro w'
         go_simp
         with_reducible rfl
        rotate_left
        ·simp only [Act.put, s1n_, s2n_, s3n_, i64_w, i32_w]
         rfl
        refine pure_ (i := 7) (N := some 64) (v := ?_) (a' := ?_) (bsn_ 15 251) rfl rfl (any_of HT_.out (by kernel_rfl)) (fun _ _ _ h => h) (Or.inl ⟨by rfl, ?_⟩) ?_ ?_
        rotate_left
        ·intro w'
         go_simp
         with_reducible rfl
        rotate_left
        ·simp only [Act.put, s1n_, s2n_, s3n_, i64_w, i32_w]
         rfl
        refine pure_ (i := 8) (N := some 65) (v := ?_) (a' := ?_) (bsn_ 15 507) rfl rfl (any_of HT_.out (by kernel_rfl)) (fun _ _ _ h => h) (Or.inl ⟨by rfl, ?_⟩) ?_ ?_
        rotate_left
        ·intro w'
         go_simp
         with_reducible rfl
        rotate_left
        ·simp only [Act.put, s1n_, s2n_, s3n_, i64_w, i32_w]
         rfl
        refine pure_ (i := 9) (N := some 66) (v := ?_) (a' := ?_) (bsn_ 15 1019) rfl rfl (any_of HT_.out (by kernel_rfl)) (fun _ _ _ h => h) (Or.inl ⟨by rfl, ?_⟩) ?_ ?_
        rotate_left
        ·intro w'
         go_simp
         with_reducible rfl
        rotate_left
        ·simp only [Act.put, s1n_, s2n_, s3n_, i64_w, i32_w]
         rfl
        refine take_ (i := 2) (N := some 59) (v := ?_) (a' := ?_) (bsn_ 15 1023) rfl rfl (take_ofW HT_.out HW_.out (by kernel_rfl)) (fun _ _ _ h => h) (Or.inl ⟨by rfl, ?_⟩) hHeld ?_ ?_
        rotate_left
        ·rintro w' ⟨s0, s1, s2, s3, s4, s5⟩
         go_simp
         with_reducible rfl
        rotate_left
        ·simp only [Act.put, s1n_, s2n_, s3n_, i64_w, i32_w]
         rfl
        refine take_ (i := 11) (N := some 68) (v := ?_) (a' := ?_) (bsn_ 15 3071) rfl rfl (take_ofW HT_.out HW_.out (by kernel_rfl)) (fun _ _ _ h => h) (Or.inl ⟨by rfl, ?_⟩) hHeld ?_ ?_
        rotate_left
        ·rintro w' ⟨s0, s1, s2, s3, s4, s5⟩
         go_simp
         with_reducible rfl
        rotate_left
        ·simp only [Act.put, s1n_, s2n_, s3n_, i64_w, i32_w]
         rfl
        refine one_ (i := 10) (N := some 67) (bsn_ 15 4095) rfl rfl (one_of HT_.out (by kernel_rfl)) (by decide) (fun K hK => ?_)
        refine goes_ Try.func18 (by kernel_rfl) rfl #[.agg #[.int .i64 t325, .int .i64 t326, .slice Ao19 t327.length co19], .int .i64 (wrap64 ((Int.tmod t333 (wrap64 (t323 + 1))) * (wrap64 (Int.tdiv (wrap64 (t324 * t324)) t323))))] (by rfl) rfl rfl (by (try simp only [List.map_toArray, List.map_cons, List.map_nil]); first | done | rfl | (simp only [List.length_drop, List.length_take]; rfl)) ?_
        with_reducible refine (impl_CellsBelow.calls t325 t326 _ _ t327 (wrap64 ((Int.tmod t333 (wrap64 (t323 + 1))) * (wrap64 (Int.tdiv (wrap64 (t324 * t324)) t323)))) t341 t342 t343 _ ?side1 ?side2 A33.out).mono ?_
        (case side1 => repeat (first | exact (Kd.R_reads' Ha_.out).2.2 | (with_reducible refine Kd.C_alloc ?_ _) | (with_reducible refine Kd.C_drewN ?_ _) | (with_reducible refine Kd.C_drew ?_)))
        (case side2 => exact (Kd.R_reads' Ha_.out).2.1)
        rintro e w45 ⟨v344, rfl, ho0, hb⟩
        refine ⟨_, rfl, ?_⟩
        have n0_ := z0n (Kd.R_elder' (by (with_reducible repeat (first | apply z8n | apply z9n | apply y1n)); exact Ha_.out) (Kd.R_base ho0) hb)
        have n1_ := z0n (Kd.R_elder' (by (with_reducible repeat (first | apply z8n | apply z9n | apply y1n)); exact HO338.out) (Kd.R_base ho0) hb)
        have n2_ := z0n (Kd.R_lower (Kd.R_new' (Kd.R_new' ho0 (Kd.R_lt (by (with_reducible repeat (first | apply z8n | apply z9n | apply y1n)); exact Ha_.out))) (Kd.R_lt (by (with_reducible repeat (first | apply z8n | apply z9n | apply y1n)); exact HO338.out))) (y7n (by repeat (first | (with_reducible first | exact HB.out | apply z4n | apply z5n | apply z6n | refine z7n ?_ GE322.out | refine z7n ?_ GE331.out | refine z7n ?_ GE340.out) | exact HB.out))))
        have n3_ := z0n (y5n (g := gb322) (o := .cells #[.int .i64 t320, .int .i64 t321] 24 (0, 0)) (by (with_reducible repeat (first | refine z1n ?_ _ | refine z3n ?_ | refine z2n ?_ _)); exact BK322.out) hb)
        have n4_ := z0n (y5n (g := gb331) (o := .cells #[.int .i64 t325, .int .i64 t326, .slice Ao19 t327.length co19] 37 (0, 0)) (by (with_reducible repeat (first | refine z1n ?_ _ | refine z3n ?_ | refine z2n ?_ _)); exact BK331.out) hb)
        have n5_ := z0n (y5n (g := gb340) (o := .cells #[.int .i64 t334, .int .i64 t335, .slice Ao42 t336.length co42] 30 (0, 0)) (by (with_reducible repeat (first | refine z1n ?_ _ | refine z3n ?_ | refine z2n ?_ _)); exact BK340.out) hb)
        have n6_ := z0n (y6n (by repeat (first | (with_reducible first | exact HB.out | apply z4n | apply z5n | apply z6n | refine z7n ?_ GE322.out | refine z7n ?_ GE331.out | refine z7n ?_ GE340.out) | exact HB.out)) hb)
        clear Ha_
        clear HO338
        clear BK322
        clear BK331
        clear BK340
        clear HB
        have Ha_ := n0_
        have HO338 := n1_
        have HO345 := n2_
        have BK322 := n3_
        have BK331 := n4_
        have BK340 := n5_
        have HB := n6_
        clear n0_ n1_ n2_ n3_ n4_ n5_ n6_
        (try clear hb)
        (try clear hb2)
        (try clear hk)
        (try clear hi)
        (try clear ho0)
        obtain ⟨Ao46, co46, eo46⟩ := Kd.R_slice HO345.out
        (first | subst eo46 | (injection eo46 with f1_ f2_ f3_; have f4_ := f1_.symm; have f5_ := f3_.symm; clear f1_ f2_ f3_; subst f4_; subst f5_))
        refine hK.out _ _ ⟨(x3n BK331.out 0).trans rfl, (x3n BK331.out 1).trans rfl, (x3n BK331.out 2).trans rfl, (x3n BK340.out 0).trans rfl, (x3n BK340.out 1).trans rfl, (x3n BK340.out 2).trans rfl⟩ (fun hHeld => ?_)
        clear hK K
        refine norm_ (a' := ?_) ?_ ?_
        rotate_left
        ·show Act.put _ (some 67) _ = _
         simp only [Act.put, s1n_, s2n_, s3n_, i64_w, i32_w]
         rfl
        refine one_ (i := 12) (N := some 69) (bsn_ 15 8191) rfl rfl (one_of HT_.out (by kernel_rfl)) (by decide) (fun K hK => ?_)
        refine goes_ Try.func17 (by kernel_rfl) rfl #[.agg #[.int .i64 t341, .int .i64 t342, .slice Ao46 t343.length co46], .agg #[.int .i64 t334, .int .i64 t335, .slice Ao42 t336.length co42]] (by rfl) rfl rfl (by (try simp only [List.map_toArray, List.map_cons, List.map_nil]); first | done | rfl | (simp only [List.length_drop, List.length_take]; rfl)) ?_
        with_reducible refine (laws_same.calls kj6 t341 t342 _ _ t343 t334 t335 _ _ t336 t346 _ ?side1 ?side2 ?side3 ?side4 A34.out).mono ?_
        (case side1 => repeat (first | exact (Kd.R_reads' HO345.out).2.2 | (with_reducible refine Kd.C_alloc ?_ _) | (with_reducible refine Kd.C_drewN ?_ _) | (with_reducible refine Kd.C_drew ?_)))
        (case side2 => exact (Kd.R_reads' HO345.out).2.1)
        (case side3 => repeat (first | exact (Kd.R_reads' HO338.out).2.2 | (with_reducible refine Kd.C_alloc ?_ _) | (with_reducible refine Kd.C_drewN ?_ _) | (with_reducible refine Kd.C_drew ?_)))
        (case side4 => exact (Kd.R_reads' HO338.out).2.1)
        rintro e w47 ⟨rfl, hb⟩
        refine ⟨_, rfl, ?_⟩
        have n0_ := z0n (Kd.R_below (by (with_reducible repeat (first | apply z8n | apply z9n | apply y1n)); exact Ha_.out) hb)
        have n1_ := z0n (Kd.R_below (by (with_reducible repeat (first | apply z8n | apply z9n | apply y1n)); exact HO338.out) hb)
        have n2_ := z0n (Kd.R_below (by (with_reducible repeat (first | apply z8n | apply z9n | apply y1n)); exact HO345.out) hb)
        have n3_ := z0n (y5n (g := gb322) (o := .cells #[.int .i64 t320, .int .i64 t321] 24 (0, 0)) (by (with_reducible repeat (first | refine z1n ?_ _ | refine z3n ?_ | refine z2n ?_ _)); exact BK322.out) hb)
        have n4_ := z0n (y5n (g := gb331) (o := .cells #[.int .i64 t325, .int .i64 t326, .slice Ao19 t327.length co19] 37 (0, 0)) (by (with_reducible repeat (first | refine z1n ?_ _ | refine z3n ?_ | refine z2n ?_ _)); exact BK331.out) hb)
        have n5_ := z0n (y5n (g := gb340) (o := .cells #[.int .i64 t334, .int .i64 t335, .slice Ao42 t336.length co42] 30 (0, 0)) (by (with_reducible repeat (first | refine z1n ?_ _ | refine z3n ?_ | refine z2n ?_ _)); exact BK340.out) hb)
        have n6_ := z0n (y6n (by repeat (first | (with_reducible first | exact HB.out | apply z4n | apply z5n | apply z6n | refine z7n ?_ GE322.out | refine z7n ?_ GE331.out | refine z7n ?_ GE340.out) | exact HB.out)) hb)
        clear Ha_
        clear HO338
        clear HO345
        clear BK322
        clear BK331
        clear BK340
        clear HB
        have Ha_ := n0_
        have HO338 := n1_
        have HO345 := n2_
        have BK322 := n3_
        have BK331 := n4_
        have BK340 := n5_
        have HB := n6_
        clear n0_ n1_ n2_ n3_ n4_ n5_ n6_
        (try clear hb)
        (try clear hb2)
        (try clear hk)
        (try clear hi)
        refine hK.out _ _ ⟨(x3n BK331.out 0).trans rfl, (x3n BK331.out 1).trans rfl, (x3n BK331.out 2).trans rfl, (x3n BK340.out 0).trans rfl, (x3n BK340.out 1).trans rfl, (x3n BK340.out 2).trans rfl⟩ (fun hHeld => ?_)
        clear hK K
        refine norm_ (a' := ?_) ?_ ?_
        rotate_left
        ·show Act.put _ (some 69) _ = _
         simp only [Act.put, s1n_, s2n_, s3n_, i64_w, i32_w]
         rfl
        refine pure_ (i := 13) (N := some 70) (v := ?_) (a' := ?_) (bsn_ 15 16383) rfl rfl (any_of HT_.out (by kernel_rfl)) (fun _ _ _ h => h) (Or.inl ⟨by rfl, ?_⟩) ?_ ?_
        rotate_left
        ·intro w'
         go_simp
         with_reducible rfl
        rotate_left
        ·simp only [Act.put, s1n_, s2n_, s3n_, i64_w, i32_w]
         rfl
        refine pure_ (i := 14) (N := some 2) (v := ?_) (a' := ?_) (bsn_ 15 32767) rfl rfl (any_of HT_.out (by kernel_rfl)) (fun _ _ _ h => h) (Or.inl ⟨by rfl, ?_⟩) ?_ ?_
        rotate_left
        ·intro w'
         go_simp
         with_reducible rfl
        rotate_left
        ·simp only [Act.put, s1n_, s2n_, s3n_, i64_w, i32_w]
         rfl
        refine done_ (done_of HT_.out (by kernel_rfl)) ?_
        try go_wp2
        go_ret
        exact ⟨by first | rfl | (simp [errW_none, errW_some] <;> rfl) | (simp [*, errW_none, errW_some] <;> rfl), by repeat (first | (with_reducible first | exact HB.out | apply z4n | apply z5n | apply z6n | refine z7n ?_ GE322.out | refine z7n ?_ GE331.out | refine z7n ?_ GE340.out) | exact HB.out)⟩
      ·replace c31 := Bool.eq_false_iff.mpr c31
       subst c31
       have H1 : (some false) = some r := by rw [if_neg (show ¬ (false = true) by decide)] at H; first | exact H | (simp only [if_true] at H ⊢; exact H)
       clear H
       have H := H1
       clear H1
       exact absurd (Option.some.inj H) (by rw [HRT_.out]; decide)

def laws_FnSpotMatrix.Pure : Prop := ∀ (l0 : List Int), l0.length ≤ maxLen → l0.length * 1 ≤ 140737488351232 → (∀ x ∈ l0, (Lit.int .u8 x).wf = true) → ∃ k, laws_FnSpotMatrix.f k l0 = some true
theorem laws_FnSpotMatrix.walk (P : laws_FnSpotMatrix.Pure) (a0 : Option Addr) (len0 cap0 : Nat) (z0 : List Int) (w : World) (w0 : (a0 = none ∧ len0 = 0 ∧ cap0 = 0 ∧ z0 = []) ∨ ∃ x, a0 = some x ∧ len0 ≤ cap0 ∧ cap0 ≤ maxLen ∧ z0.length = cap0 ∧ (∀ i, i < z0.length → w.cell? (x.add i) = some (.int .u8 (z0.getD i 0))) ∧ ∀ n ∈ z0, (Lit.int .u8 n).wf = true) (y0 : len0 * 1 ≤ 140737488351232) :
  Calls Try.prog 4 #[.slice a0 len0 cap0] w fun e w' => e = .returned (.bool true) ∧ Below w.heap.size w w' := by
 obtain ⟨l0, rfl, hr0, hm0, hw0, hc0⟩ := ReadsInt.ofRowC w0
 obtain ⟨k, h⟩ := P l0 hm0 y0 hw0
 refine (laws_FnSpotMatrix.calls k _ _ l0 true w (Kd.C_of_reads (d := (0 : Int)) (h1 := fun _ => rfl) hr0) hc0 h).mono ?_
 rintro e w' ⟨rfl, hd⟩
 exact ⟨rfl, hd⟩

end Go.Proofs.Ytkkcedkiohefmaa.PFnSpotMatrix
