/- Machine side of laws FnExactDiffusePicture: written for this claim by the kit's print program under this session's wip/tools/mp_setup.py (with contracts of the session's own, wip/ext). -/
import Derived.Test.YtnohdgbfgdnpfaaPFnExactDiffusePicturex0
import Derived.Test.YtnohdgbfgdnpfaaPFnExactDiffusePicturex6
import Derived.Test.YtnohdgbfgdnpfaaPFnExactDiffusePicturex7
import Derived.Test.YtnohdgbfgdnpfaaPFnExactDiffusePicturex8
namespace Go.Proofs.Ytnohdgbfgdnpfaa.PFnExactDiffusePicture
open Go.RowKit Go.Proofs.YtnohdgbfgdnpfaaW.PrintWords Go.Proofs.YtnohdgbfgdnpfaaW.PrintLast Go.Proofs.YtnohdgbfgdnpfaaW.PrintMore
attribute [local go_sem] max2_int min2_int max_two min_two max_three min_three max_four min_four   -- for this text's walks alone
set_option linter.unusedVariables false
set_option linter.unusedSimpArgs false
-- squeezed: words under short names
set_option linter.defProp false in
def z0j := @Aside0.mk
set_option linter.defProp false in
def z1j := @blk_drewN
set_option linter.defProp false in
def z2j := @blk_alloc
set_option linter.defProp false in
def z3j := @blk_drew
set_option linter.defProp false in
def z4j := @below_alloc
set_option linter.defProp false in
def z5j := @pw_below_drewN
set_option linter.defProp false in
def z6j := @below_drew1
set_option linter.defProp false in
def z7j := @below_set
set_option linter.defProp false in
def y2j := @Kd.C_alloc
set_option linter.defProp false in
def y3j := @Kd.C_drewN
set_option linter.defProp false in
def y4j := @Kd.C_drew
set_option linter.defProp false in
def y5j := @blk_below
set_option linter.defProp false in
def y6j := @below_step
set_option linter.defProp false in
def y7j := @below_size
set_option linter.defProp false in
def y9j := @Kd.C_below
set_option linter.defProp false in
def x2j := @blk_frozen
set_option linter.defProp false in
def x3j := @blk_cell
def bsj_ (n m : Nat) : Array Bool := ((List.range n).map fun i => m.testBit i).toArray
theorem s1j_ {α : Type} (l : List α) (i : Nat) (a : α) : l.toArray.setIfInBounds i a = (l.set i a).toArray := List.setIfInBounds_toArray l i a
theorem s2j_ {α : Type} (a b : α) (l : List α) : (a :: l).set 0 b = b :: l := rfl
theorem s3j_ {α : Type} (a b : α) (n : Nat) (l : List α) : (a :: l).set (n + 1) b = a :: l.set n b := rfl

/-! ### spec_DiffusePicture: function 35 -/
def spec_DiffusePicture.f (k : Nat) (l0 : List (S60)) (a1_0 : Int) (a1_1 : Int) (l1_2 : List Int) (a2 : Bool) : Option (Int × Int × List Int × Int × Bool) := (spec_IsKernel.f k l0).bind fun t283 => (if t283 = true then ((spec_IsPicture.f k a1_0 a1_1 l1_2).bind fun t284 => (if t284 = true then ((spec_l4Run.f k l0 a1_0 a1_1 l1_2 a2).bind fun bt285 => (some (a1_0, a1_1, bt285.1, bt285.2.2, true))) else (some (0, 0, ([] : List Int), 0, false)))) else (some (0, 0, ([] : List Int), 0, false)))
set_option maxHeartbeats 8000000 in
set_option maxRecDepth 100000 in
theorem spec_DiffusePicture.calls (k : Nat) (A0 : Option Addr) (c0 : Nat) (l0 : List (S60)) (a1_0 : Int) (a1_1 : Int) (A1_2 : Option Addr) (c1_2 : Nat) (l1_2 : List Int) (a2 : Bool) (r1 : Int) (r2 : Int) (r3 : List Int) (r4 : Int) (r5 : Bool) (w : World) (hr0 : Kd.C k60 w A0 l0.length l0) (hc0 : l0.length ≤ c0) (hr1_2 : Kd.C (Kd.int .i64) w A1_2 l1_2.length l1_2) (hc1_2 : l1_2.length ≤ c1_2) (h : spec_DiffusePicture.f k l0 a1_0 a1_1 l1_2 a2 = some (r1, r2, r3, r4, r5)) :
  Calls Try.prog 35 #[.slice A0 l0.length c0, .agg #[.int .i64 a1_0, .int .i64 a1_1, .slice A1_2 l1_2.length c1_2], .bool a2] w fun e w' => ∃ v2_ : Value, e = .returned (.tuple #[.agg #[.int .i64 r1, .int .i64 r2, v2_], .int .i64 r4, .bool r5]) ∧ Kd.R (Kd.int .i64) 3 w' w.heap.size (fun _ => True) v2_ r3 ∧ Below w.heap.size w w' := by
 have hu31 := Try.underlying31
 have HR0 := z0j hr0
 have HC0 := z0j hc0
 clear hr0 hc0
 have HR1_2 := z0j hr1_2
 have HC1_2 := z0j hc1_2
 clear hr1_2 hc1_2
 have HB := z0j (Below.refl w.heap.size w)
 have H : ((spec_IsKernel.f k l0).bind fun t283 => (if t283 = true then ((spec_IsPicture.f k a1_0 a1_1 l1_2).bind fun t284 => (if t284 = true then ((spec_l4Run.f k l0 a1_0 a1_1 l1_2 a2).bind fun bt285 => (some (a1_0, a1_1, bt285.1, bt285.2.2, true))) else (some (0, 0, ([] : List Int), 0, false)))) else (some (0, 0, ([] : List Int), 0, false)))) = some (r1, r2, r3, r4, r5) := h
 clear h
 replace H := Option.bind_eq_some_iff.mp H
 obtain ⟨t283, A40, H⟩ := H
 replace H : (if t283 = true then ((spec_IsPicture.f k a1_0 a1_1 l1_2).bind fun t284 => (if t284 = true then ((spec_l4Run.f k l0 a1_0 a1_1 l1_2 a2).bind fun bt285 => (some (a1_0, a1_1, bt285.1, bt285.2.2, true))) else (some (0, 0, ([] : List Int), 0, false)))) else (some (0, 0, ([] : List Int), 0, false))) = some (r1, r2, r3, r4, r5) := H
 have A4 := z0j A40
 clear A40
 by_cases c5 : t283 = true
 ·subst c5
  have H1 : ((spec_IsPicture.f k a1_0 a1_1 l1_2).bind fun t284 => (if t284 = true then ((spec_l4Run.f k l0 a1_0 a1_1 l1_2 a2).bind fun bt285 => (some (a1_0, a1_1, bt285.1, bt285.2.2, true))) else (some (0, 0, ([] : List Int), 0, false)))) = some (r1, r2, r3, r4, r5) := by rw [if_pos rfl] at H; first | exact H | (simp only [if_true] at H ⊢; exact H)
  clear H
  have H := H1
  clear H1
  replace H := Option.bind_eq_some_iff.mp H
  obtain ⟨t284, A60, H⟩ := H
  replace H : (if t284 = true then ((spec_l4Run.f k l0 a1_0 a1_1 l1_2 a2).bind fun bt285 => (some (a1_0, a1_1, bt285.1, bt285.2.2, true))) else (some (0, 0, ([] : List Int), 0, false))) = some (r1, r2, r3, r4, r5) := H
  have A6 := z0j A60
  clear A60
  by_cases c7 : t284 = true
  ·subst c7
   have H1 : ((spec_l4Run.f k l0 a1_0 a1_1 l1_2 a2).bind fun bt285 => (some (a1_0, a1_1, bt285.1, bt285.2.2, true))) = some (r1, r2, r3, r4, r5) := by rw [if_pos rfl] at H; first | exact H | (simp only [if_true] at H ⊢; exact H)
   clear H
   have H := H1
   clear H1
   replace H := Option.bind_eq_some_iff.mp H
   obtain ⟨⟨t285, t288, t291⟩, A80, H⟩ := H
   replace H : (some (a1_0, a1_1, t285, t291, true)) = some (r1, r2, r3, r4, r5) := H
   have A8 := z0j A80
   clear A80
   simp only [Option.some.injEq, Prod.mk.injEq] at H
   obtain ⟨rfl, rfl, rfl, rfl, rfl⟩ := H
   go_enter Try.func35, Try.ntmps35
   go_wp2_with (first | ((with_reducible refine gate_dst (N := 4) rfl ?_); refine box_event ?hg (N := 4) ?hd (cs := #[.int .i64 a1_0, .int .i64 a1_1, .slice A1_2 l1_2.length c1_2]) (t := 31) ?hr ?_; (case hd => rfl); (case hg => rfl); (case hr => first | (go_simp; done) | (go_simp; rfl)); intro gb281 hg w9 hbox hb; have n0_ := z0j (y6j (by repeat (first | (with_reducible first | exact HB.out | apply z4j | apply z5j | apply z6j) | exact HB.out)) hb); have n1_ := z0j (hbox); have n2_ := z0j ((by rw [hg]; exact (y7j (by repeat (first | (with_reducible first | exact HB.out | apply z4j | apply z5j | apply z6j) | exact HB.out))) : w.heap.size ≤ gb281)); have n3_ := z0j ((by rw [hg]; exact (y7j (by repeat (first | (with_reducible first | exact HB.out | apply z4j | apply z5j | apply z6j) | exact HB.out))) : w.heap.size ≤ gb281)); clear HB; have HB := n0_; have BK281 := n1_; have GW281 := n2_; have GE281 := n3_; clear n0_ n1_ n2_ n3_; clear hb hbox hg) | ((with_reducible refine gate_dst (N := 6) rfl ?_); refine box_event ?hg (N := 6) ?hd (cs := #[.int .i64 0, .int .i64 0, .slice none 0 0]) (t := 31) ?hr ?_; (case hd => rfl); (case hg => rfl); (case hr => first | (go_simp; done) | (go_simp; rfl)); intro gb282 hg w10 hbox hb; have n0_ := z0j (y5j (g := gb281) (o := .cells #[.int .i64 a1_0, .int .i64 a1_1, .slice A1_2 l1_2.length c1_2] 31 (0, 0)) (by (with_reducible repeat (first | refine z1j ?_ _ | refine z3j ?_ | refine z2j ?_ _)); exact BK281.out) hb); have n1_ := z0j (y6j (by repeat (first | (with_reducible first | exact HB.out | apply z4j | apply z5j | apply z6j | refine z7j ?_ GE281.out) | exact HB.out)) hb); have n2_ := z0j (hbox); have n3_ := z0j ((by rw [hg]; exact (y7j (by repeat (first | (with_reducible first | exact HB.out | apply z4j | apply z5j | apply z6j | refine z7j ?_ GE281.out) | exact HB.out))) : w.heap.size ≤ gb282)); have n4_ := z0j ((by rw [hg]; exact (y7j (by repeat (first | (with_reducible first | exact HB.out | apply z4j | apply z5j | apply z6j | refine z7j ?_ GE281.out) | exact HB.out))) : w.heap.size ≤ gb282)); have n5_ := z0j ((by rw [hg]; exact Nat.ne_of_lt (blk_lt (g := gb281) (o := .cells #[.int .i64 a1_0, .int .i64 a1_1, .slice A1_2 l1_2.length c1_2] 31 (0, 0)) (by (with_reducible repeat (first | refine z1j ?_ _ | refine z3j ?_ | refine z2j ?_ _)); exact BK281.out)) : gb281 ≠ gb282)); have n6_ := z0j ((by rw [hg]; exact Nat.ne_of_gt (blk_lt (g := gb281) (o := .cells #[.int .i64 a1_0, .int .i64 a1_1, .slice A1_2 l1_2.length c1_2] 31 (0, 0)) (by (with_reducible repeat (first | refine z1j ?_ _ | refine z3j ?_ | refine z2j ?_ _)); exact BK281.out)) : gb282 ≠ gb281)); clear BK281; clear HB; have BK281 := n0_; have HB := n1_; have BK282 := n2_; have GW282 := n3_; have GE282 := n4_; have NB281_282 := n5_; have NB282_281 := n6_; clear n0_ n1_ n2_ n3_ n4_ n5_ n6_; clear hb hbox hg) | ((with_reducible refine gate_callee (f := 39) rfl ?_); refine goesL_ (some 13) rfl rfl Try.func39 (by kernel_rfl) rfl #[.slice A0 l0.length c0] rfl (by (try simp only [List.map_toArray, List.map_cons, List.map_nil]); first | done | rfl | (simp only [List.length_drop, List.length_take]; rfl)) ?_; (with_reducible refine (spec_IsKernel.calls k _ _ l0 true _ ?side1 ?side2 A4.out).mono ?_); (case side1 => repeat (first | exact (y9j HR0.out HB.out) | (with_reducible refine y2j ?_ _) | (with_reducible refine y3j ?_ _) | (with_reducible refine y4j ?_))); (case side2 => exact HC0.out); rintro e w11 ⟨rfl, hb⟩; refine ⟨_, rfl, ?_⟩; have n0_ := z0j (y5j (g := gb281) (o := .cells #[.int .i64 a1_0, .int .i64 a1_1, .slice A1_2 l1_2.length c1_2] 31 (0, 0)) (by (with_reducible repeat (first | refine z1j ?_ _ | refine z3j ?_ | refine z2j ?_ _)); exact BK281.out) hb); have n1_ := z0j (y5j (g := gb282) (o := .cells #[.int .i64 0, .int .i64 0, .slice none 0 0] 31 (0, 0)) (by (with_reducible repeat (first | refine z1j ?_ _ | refine z3j ?_ | refine z2j ?_ _)); exact BK282.out) hb); have n2_ := z0j (y6j (by repeat (first | (with_reducible first | exact HB.out | apply z4j | apply z5j | apply z6j | refine z7j ?_ GE281.out | refine z7j ?_ GE282.out) | exact HB.out)) hb); clear BK281; clear BK282; clear HB; have BK281 := n0_; have BK282 := n1_; have HB := n2_; clear n0_ n1_ n2_; (try clear hb); have hnb12 := NB281_282.out; have hnc12 := NB282_281.out; have hcz13_0 : w11.cell? ⟨gb281, 0, none⟩ = some (.int .i64 a1_0) := (x3j BK281.out 0).trans rfl; have hcz13_1 : w11.cell? ⟨gb281, 1, none⟩ = some (.int .i64 a1_1) := (x3j BK281.out 1).trans rfl; have hcz13_2 : w11.cell? ⟨gb281, 2, none⟩ = some (.slice A1_2 l1_2.length c1_2) := (x3j BK281.out 2).trans rfl; have hfz13_0 := x2j BK281.out 0; have hfz13_1 := x2j BK281.out 1; have hfz13_2 := x2j BK281.out 2) | (go_at_call 44; (with_reducible refine (spec_IsPicture.calls k a1_0 a1_1 _ _ l1_2 true _ ?side1 ?side2 A6.out).mono ?_); (case side1 => repeat (first | exact HR1_2.out | exact (y9j HR1_2.out HB.out) | (with_reducible refine y2j ?_ _) | (with_reducible refine y3j ?_ _) | (with_reducible refine y4j ?_))); (case side2 => exact HC1_2.out); rintro e w14 ⟨rfl, hb⟩; have n0_ := z0j (y5j (g := gb281) (o := .cells #[.int .i64 a1_0, .int .i64 a1_1, .slice A1_2 l1_2.length c1_2] 31 (0, 0)) (by (with_reducible repeat (first | refine z1j ?_ _ | refine z3j ?_ | refine z2j ?_ _)); exact BK281.out) hb); have n1_ := z0j (y5j (g := gb282) (o := .cells #[.int .i64 0, .int .i64 0, .slice none 0 0] 31 (0, 0)) (by (with_reducible repeat (first | refine z1j ?_ _ | refine z3j ?_ | refine z2j ?_ _)); exact BK282.out) hb); have n2_ := z0j (y6j (by repeat (first | (with_reducible first | exact HB.out | apply z4j | apply z5j | apply z6j | refine z7j ?_ GE281.out | refine z7j ?_ GE282.out) | exact HB.out)) hb); clear BK281; clear BK282; clear HB; have BK281 := n0_; have BK282 := n1_; have HB := n2_; clear n0_ n1_ n2_; (try clear hb); have hcz15_0 : w14.cell? ⟨gb281, 0, none⟩ = some (.int .i64 a1_0) := (x3j BK281.out 0).trans rfl; have hcz15_1 : w14.cell? ⟨gb281, 1, none⟩ = some (.int .i64 a1_1) := (x3j BK281.out 1).trans rfl; have hcz15_2 : w14.cell? ⟨gb281, 2, none⟩ = some (.slice A1_2 l1_2.length c1_2) := (x3j BK281.out 2).trans rfl; have hfz15_0 := x2j BK281.out 0; have hfz15_1 := x2j BK281.out 1; have hfz15_2 := x2j BK281.out 2) | ((with_reducible refine gate_callee (f := 55) rfl ?_); refine goesL_ (some 25) rfl rfl Try.func55 (by kernel_rfl) rfl #[.slice A0 l0.length c0, .agg #[.int .i64 a1_0, .int .i64 a1_1, .slice A1_2 l1_2.length c1_2], .bool a2] rfl (by (try simp only [List.map_toArray, List.map_cons, List.map_nil]); first | done | rfl | (simp only [List.length_drop, List.length_take]; rfl)) ?_; (with_reducible refine (spec_l4Run.calls k _ _ l0 a1_0 a1_1 _ _ l1_2 a2 t285 t288 t291 _ ?side1 ?side2 ?side3 ?side4 A8.out).mono ?_); (case side1 => repeat (first | exact (y9j HR0.out HB.out) | (with_reducible refine y2j ?_ _) | (with_reducible refine y3j ?_ _) | (with_reducible refine y4j ?_))); (case side2 => exact HC0.out); (case side3 => repeat (first | exact HR1_2.out | exact (y9j HR1_2.out HB.out) | (with_reducible refine y2j ?_ _) | (with_reducible refine y3j ?_ _) | (with_reducible refine y4j ?_))); (case side4 => exact HC1_2.out); rintro e w16 ⟨v286, v289, rfl, ho0, ho1, hb⟩; refine ⟨_, rfl, ?_⟩; have n0_ := z0j (Kd.R_lower ho0 (y7j (by repeat (first | (with_reducible first | exact HB.out | apply z4j | apply z5j | apply z6j | refine z7j ?_ GE281.out | refine z7j ?_ GE282.out) | exact HB.out)))); have n1_ := z0j (Kd.R_lower ho1 (y7j (by repeat (first | (with_reducible first | exact HB.out | apply z4j | apply z5j | apply z6j | refine z7j ?_ GE281.out | refine z7j ?_ GE282.out) | exact HB.out)))); have n2_ := z0j (y5j (g := gb281) (o := .cells #[.int .i64 a1_0, .int .i64 a1_1, .slice A1_2 l1_2.length c1_2] 31 (0, 0)) (by (with_reducible repeat (first | refine z1j ?_ _ | refine z3j ?_ | refine z2j ?_ _)); exact BK281.out) hb); have n3_ := z0j (y5j (g := gb282) (o := .cells #[.int .i64 0, .int .i64 0, .slice none 0 0] 31 (0, 0)) (by (with_reducible repeat (first | refine z1j ?_ _ | refine z3j ?_ | refine z2j ?_ _)); exact BK282.out) hb); have n4_ := z0j (y6j (by repeat (first | (with_reducible first | exact HB.out | apply z4j | apply z5j | apply z6j | refine z7j ?_ GE281.out | refine z7j ?_ GE282.out) | exact HB.out)) hb); clear BK281; clear BK282; clear HB; have HO287 := n0_; have HO290 := n1_; have BK281 := n2_; have BK282 := n3_; have HB := n4_; clear n0_ n1_ n2_ n3_ n4_; (try clear hb); (try clear ho0); (try clear ho1); have hcz17_0 : w16.cell? ⟨gb281, 0, none⟩ = some (.int .i64 a1_0) := (x3j BK281.out 0).trans rfl; have hcz17_1 : w16.cell? ⟨gb281, 1, none⟩ = some (.int .i64 a1_1) := (x3j BK281.out 1).trans rfl; have hcz17_2 : w16.cell? ⟨gb281, 2, none⟩ = some (.slice A1_2 l1_2.length c1_2) := (x3j BK281.out 2).trans rfl; have hfz17_0 := x2j BK281.out 0; have hfz17_1 := x2j BK281.out 1; have hfz17_2 := x2j BK281.out 2; obtain ⟨Ao18, co18, eo18⟩ := Kd.R_slice HO287.out; subst eo18; have hcz19_0 : w16.cell? ⟨gb282, 0, none⟩ = some (.int .i64 0) := (x3j BK282.out 0).trans rfl; have hcz19_1 : w16.cell? ⟨gb282, 1, none⟩ = some (.int .i64 0) := (x3j BK282.out 1).trans rfl; have hcz19_2 : w16.cell? ⟨gb282, 2, none⟩ = some (.slice none 0 0) := (x3j BK282.out 2).trans rfl; have hfz19_0 := x2j BK282.out 0; have hfz19_1 := x2j BK282.out 1; have hfz19_2 := x2j BK282.out 2))
   refine bodyPost_ret (results_ctt rfl _ _ gb282 31 #[.int .i64 a1_0, .int .i64 a1_1, .slice Ao18 t285.length co18] (0, 0) _ rfl (by (with_reducible repeat (first | refine z1j ?_ _ | refine z3j ?_ | refine z2j ?_ _)); refine blk_put (cs := #[.int .i64 a1_0, .int .i64 a1_1, .slice none 0 0]) ?_ 2 _ rfl; (with_reducible repeat (first | refine z1j ?_ _ | refine z3j ?_ | refine z2j ?_ _)); refine blk_put (cs := #[.int .i64 a1_0, .int .i64 0, .slice none 0 0]) ?_ 1 _ rfl; (with_reducible repeat (first | refine z1j ?_ _ | refine z3j ?_ | refine z2j ?_ _)); refine blk_put (cs := #[.int .i64 0, .int .i64 0, .slice none 0 0]) ?_ 0 _ rfl; (with_reducible repeat (first | refine z1j ?_ _ | refine z3j ?_ | refine z2j ?_ _)); exact BK282.out) Try.underlying31 rfl (by kernel_rfl)) rfl ?_
   exact ⟨_, by first | rfl | (simp [errW_none, errW_some] <;> rfl) | (simp [*, errW_none, errW_some] <;> rfl), by (with_reducible repeat (first | apply Kd.R_alloc | apply Kd.R_drewN | apply Kd.R_drew)); exact Kd.R_mono (Kd.R_far (p := ⟨gb282, 2, none⟩) (Kd.R_far (p := ⟨gb282, 1, none⟩) (Kd.R_far (p := ⟨gb282, 0, none⟩) (Kd.R_types HO287.out BK282.out (by decide)) (fun _ hk => hk.2) (.int .i64 a1_0)) (fun _ hk => hk.2) (.int .i64 a1_1)) (fun _ hk => hk.2) (.slice Ao18 t285.length co18)) (fun _ hk => trivial), by repeat (first | (with_reducible first | exact HB.out | apply z4j | apply z5j | apply z6j | refine z7j ?_ GE281.out | refine z7j ?_ GE282.out) | exact HB.out)⟩
  ·replace c7 := Bool.eq_false_iff.mpr c7
   subst c7
   have H1 : (some (0, 0, ([] : List Int), 0, false)) = some (r1, r2, r3, r4, r5) := by rw [if_neg (show ¬ (false = true) by decide)] at H; first | exact H | (simp only [if_true] at H ⊢; exact H)
   clear H
   have H := H1
   clear H1
   simp only [Option.some.injEq, Prod.mk.injEq] at H
   obtain ⟨rfl, rfl, rfl, rfl, rfl⟩ := H
   go_enter Try.func35, Try.ntmps35
   go_wp2_with (first | ((with_reducible refine gate_dst (N := 4) rfl ?_); refine box_event ?hg (N := 4) ?hd (cs := #[.int .i64 a1_0, .int .i64 a1_1, .slice A1_2 l1_2.length c1_2]) (t := 31) ?hr ?_; (case hd => rfl); (case hg => rfl); (case hr => first | (go_simp; done) | (go_simp; rfl)); intro gb281 hg w20 hbox hb; have n0_ := z0j (y6j (by repeat (first | (with_reducible first | exact HB.out | apply z4j | apply z5j | apply z6j) | exact HB.out)) hb); have n1_ := z0j (hbox); have n2_ := z0j ((by rw [hg]; exact (y7j (by repeat (first | (with_reducible first | exact HB.out | apply z4j | apply z5j | apply z6j) | exact HB.out))) : w.heap.size ≤ gb281)); have n3_ := z0j ((by rw [hg]; exact (y7j (by repeat (first | (with_reducible first | exact HB.out | apply z4j | apply z5j | apply z6j) | exact HB.out))) : w.heap.size ≤ gb281)); clear HB; have HB := n0_; have BK281 := n1_; have GW281 := n2_; have GE281 := n3_; clear n0_ n1_ n2_ n3_; clear hb hbox hg) | ((with_reducible refine gate_dst (N := 6) rfl ?_); refine box_event ?hg (N := 6) ?hd (cs := #[.int .i64 0, .int .i64 0, .slice none 0 0]) (t := 31) ?hr ?_; (case hd => rfl); (case hg => rfl); (case hr => first | (go_simp; done) | (go_simp; rfl)); intro gb282 hg w21 hbox hb; have n0_ := z0j (y5j (g := gb281) (o := .cells #[.int .i64 a1_0, .int .i64 a1_1, .slice A1_2 l1_2.length c1_2] 31 (0, 0)) (by (with_reducible repeat (first | refine z1j ?_ _ | refine z3j ?_ | refine z2j ?_ _)); exact BK281.out) hb); have n1_ := z0j (y6j (by repeat (first | (with_reducible first | exact HB.out | apply z4j | apply z5j | apply z6j | refine z7j ?_ GE281.out) | exact HB.out)) hb); have n2_ := z0j (hbox); have n3_ := z0j ((by rw [hg]; exact (y7j (by repeat (first | (with_reducible first | exact HB.out | apply z4j | apply z5j | apply z6j | refine z7j ?_ GE281.out) | exact HB.out))) : w.heap.size ≤ gb282)); have n4_ := z0j ((by rw [hg]; exact (y7j (by repeat (first | (with_reducible first | exact HB.out | apply z4j | apply z5j | apply z6j | refine z7j ?_ GE281.out) | exact HB.out))) : w.heap.size ≤ gb282)); have n5_ := z0j ((by rw [hg]; exact Nat.ne_of_lt (blk_lt (g := gb281) (o := .cells #[.int .i64 a1_0, .int .i64 a1_1, .slice A1_2 l1_2.length c1_2] 31 (0, 0)) (by (with_reducible repeat (first | refine z1j ?_ _ | refine z3j ?_ | refine z2j ?_ _)); exact BK281.out)) : gb281 ≠ gb282)); have n6_ := z0j ((by rw [hg]; exact Nat.ne_of_gt (blk_lt (g := gb281) (o := .cells #[.int .i64 a1_0, .int .i64 a1_1, .slice A1_2 l1_2.length c1_2] 31 (0, 0)) (by (with_reducible repeat (first | refine z1j ?_ _ | refine z3j ?_ | refine z2j ?_ _)); exact BK281.out)) : gb282 ≠ gb281)); clear BK281; clear HB; have BK281 := n0_; have HB := n1_; have BK282 := n2_; have GW282 := n3_; have GE282 := n4_; have NB281_282 := n5_; have NB282_281 := n6_; clear n0_ n1_ n2_ n3_ n4_ n5_ n6_; clear hb hbox hg) | ((with_reducible refine gate_callee (f := 39) rfl ?_); refine goesL_ (some 13) rfl rfl Try.func39 (by kernel_rfl) rfl #[.slice A0 l0.length c0] rfl (by (try simp only [List.map_toArray, List.map_cons, List.map_nil]); first | done | rfl | (simp only [List.length_drop, List.length_take]; rfl)) ?_; (with_reducible refine (spec_IsKernel.calls k _ _ l0 true _ ?side1 ?side2 A4.out).mono ?_); (case side1 => repeat (first | exact (y9j HR0.out HB.out) | (with_reducible refine y2j ?_ _) | (with_reducible refine y3j ?_ _) | (with_reducible refine y4j ?_))); (case side2 => exact HC0.out); rintro e w22 ⟨rfl, hb⟩; refine ⟨_, rfl, ?_⟩; have n0_ := z0j (y5j (g := gb281) (o := .cells #[.int .i64 a1_0, .int .i64 a1_1, .slice A1_2 l1_2.length c1_2] 31 (0, 0)) (by (with_reducible repeat (first | refine z1j ?_ _ | refine z3j ?_ | refine z2j ?_ _)); exact BK281.out) hb); have n1_ := z0j (y5j (g := gb282) (o := .cells #[.int .i64 0, .int .i64 0, .slice none 0 0] 31 (0, 0)) (by (with_reducible repeat (first | refine z1j ?_ _ | refine z3j ?_ | refine z2j ?_ _)); exact BK282.out) hb); have n2_ := z0j (y6j (by repeat (first | (with_reducible first | exact HB.out | apply z4j | apply z5j | apply z6j | refine z7j ?_ GE281.out | refine z7j ?_ GE282.out) | exact HB.out)) hb); clear BK281; clear BK282; clear HB; have BK281 := n0_; have BK282 := n1_; have HB := n2_; clear n0_ n1_ n2_; (try clear hb); have hnb23 := NB281_282.out; have hnc23 := NB282_281.out; have hcz24_0 : w22.cell? ⟨gb281, 0, none⟩ = some (.int .i64 a1_0) := (x3j BK281.out 0).trans rfl; have hcz24_1 : w22.cell? ⟨gb281, 1, none⟩ = some (.int .i64 a1_1) := (x3j BK281.out 1).trans rfl; have hcz24_2 : w22.cell? ⟨gb281, 2, none⟩ = some (.slice A1_2 l1_2.length c1_2) := (x3j BK281.out 2).trans rfl; have hfz24_0 := x2j BK281.out 0; have hfz24_1 := x2j BK281.out 1; have hfz24_2 := x2j BK281.out 2) | (go_at_call 44; (with_reducible refine (spec_IsPicture.calls k a1_0 a1_1 _ _ l1_2 false _ ?side1 ?side2 A6.out).mono ?_); (case side1 => repeat (first | exact HR1_2.out | exact (y9j HR1_2.out HB.out) | (with_reducible refine y2j ?_ _) | (with_reducible refine y3j ?_ _) | (with_reducible refine y4j ?_))); (case side2 => exact HC1_2.out); rintro e w25 ⟨rfl, hb⟩; have n0_ := z0j (y5j (g := gb281) (o := .cells #[.int .i64 a1_0, .int .i64 a1_1, .slice A1_2 l1_2.length c1_2] 31 (0, 0)) (by (with_reducible repeat (first | refine z1j ?_ _ | refine z3j ?_ | refine z2j ?_ _)); exact BK281.out) hb); have n1_ := z0j (y5j (g := gb282) (o := .cells #[.int .i64 0, .int .i64 0, .slice none 0 0] 31 (0, 0)) (by (with_reducible repeat (first | refine z1j ?_ _ | refine z3j ?_ | refine z2j ?_ _)); exact BK282.out) hb); have n2_ := z0j (y6j (by repeat (first | (with_reducible first | exact HB.out | apply z4j | apply z5j | apply z6j | refine z7j ?_ GE281.out | refine z7j ?_ GE282.out) | exact HB.out)) hb); clear BK281; clear BK282; clear HB; have BK281 := n0_; have BK282 := n1_; have HB := n2_; clear n0_ n1_ n2_; (try clear hb); have hcz26_0 : w25.cell? ⟨gb282, 0, none⟩ = some (.int .i64 0) := (x3j BK282.out 0).trans rfl; have hcz26_1 : w25.cell? ⟨gb282, 1, none⟩ = some (.int .i64 0) := (x3j BK282.out 1).trans rfl; have hcz26_2 : w25.cell? ⟨gb282, 2, none⟩ = some (.slice none 0 0) := (x3j BK282.out 2).trans rfl; have hfz26_0 := x2j BK282.out 0; have hfz26_1 := x2j BK282.out 1; have hfz26_2 := x2j BK282.out 2))
   refine bodyPost_ret (results_ctt rfl _ _ gb282 31 #[.int .i64 0, .int .i64 0, .slice none 0 0] (0, 0) _ rfl (by (with_reducible repeat (first | refine z1j ?_ _ | refine z3j ?_ | refine z2j ?_ _)); refine blk_put (cs := #[.int .i64 0, .int .i64 0, .slice none 0 0]) ?_ 2 _ rfl; (with_reducible repeat (first | refine z1j ?_ _ | refine z3j ?_ | refine z2j ?_ _)); refine blk_put (cs := #[.int .i64 0, .int .i64 0, .slice none 0 0]) ?_ 1 _ rfl; (with_reducible repeat (first | refine z1j ?_ _ | refine z3j ?_ | refine z2j ?_ _)); refine blk_put (cs := #[.int .i64 0, .int .i64 0, .slice none 0 0]) ?_ 0 _ rfl; (with_reducible repeat (first | refine z1j ?_ _ | refine z3j ?_ | refine z2j ?_ _)); exact BK282.out) Try.underlying31 rfl (by kernel_rfl)) rfl ?_
   exact ⟨_, by first | rfl | (simp [errW_none, errW_some] <;> rfl) | (simp [*, errW_none, errW_some] <;> rfl), by first | exact Kd.R_nil _ _ _ _ _ | exact Kd.N_nil _ _ _ _ _ | exact Kd.V_nil _ _ _ _ _ | exact Kd.Q_nil _ _ _ _ _ | exact Kd.S_nil _ _ _ _ _, by repeat (first | (with_reducible first | exact HB.out | apply z4j | apply z5j | apply z6j | refine z7j ?_ GE281.out | refine z7j ?_ GE282.out) | exact HB.out)⟩
 ·replace c5 := Bool.eq_false_iff.mpr c5
  subst c5
  have H1 : (some (0, 0, ([] : List Int), 0, false)) = some (r1, r2, r3, r4, r5) := by rw [if_neg (show ¬ (false = true) by decide)] at H; first | exact H | (simp only [if_true] at H ⊢; exact H)
  clear H
  have H := H1
  clear H1
  simp only [Option.some.injEq, Prod.mk.injEq] at H
  obtain ⟨rfl, rfl, rfl, rfl, rfl⟩ := H
  go_enter Try.func35, Try.ntmps35
  go_wp2_with (first | ((with_reducible refine gate_dst (N := 4) rfl ?_); refine box_event ?hg (N := 4) ?hd (cs := #[.int .i64 a1_0, .int .i64 a1_1, .slice A1_2 l1_2.length c1_2]) (t := 31) ?hr ?_; (case hd => rfl); (case hg => rfl); (case hr => first | (go_simp; done) | (go_simp; rfl)); intro gb281 hg w27 hbox hb; have n0_ := z0j (y6j (by repeat (first | (with_reducible first | exact HB.out | apply z4j | apply z5j | apply z6j) | exact HB.out)) hb); have n1_ := z0j (hbox); have n2_ := z0j ((by rw [hg]; exact (y7j (by repeat (first | (with_reducible first | exact HB.out | apply z4j | apply z5j | apply z6j) | exact HB.out))) : w.heap.size ≤ gb281)); have n3_ := z0j ((by rw [hg]; exact (y7j (by repeat (first | (with_reducible first | exact HB.out | apply z4j | apply z5j | apply z6j) | exact HB.out))) : w.heap.size ≤ gb281)); clear HB; have HB := n0_; have BK281 := n1_; have GW281 := n2_; have GE281 := n3_; clear n0_ n1_ n2_ n3_; clear hb hbox hg) | ((with_reducible refine gate_dst (N := 6) rfl ?_); refine box_event ?hg (N := 6) ?hd (cs := #[.int .i64 0, .int .i64 0, .slice none 0 0]) (t := 31) ?hr ?_; (case hd => rfl); (case hg => rfl); (case hr => first | (go_simp; done) | (go_simp; rfl)); intro gb282 hg w28 hbox hb; have n0_ := z0j (y5j (g := gb281) (o := .cells #[.int .i64 a1_0, .int .i64 a1_1, .slice A1_2 l1_2.length c1_2] 31 (0, 0)) (by (with_reducible repeat (first | refine z1j ?_ _ | refine z3j ?_ | refine z2j ?_ _)); exact BK281.out) hb); have n1_ := z0j (y6j (by repeat (first | (with_reducible first | exact HB.out | apply z4j | apply z5j | apply z6j | refine z7j ?_ GE281.out) | exact HB.out)) hb); have n2_ := z0j (hbox); have n3_ := z0j ((by rw [hg]; exact (y7j (by repeat (first | (with_reducible first | exact HB.out | apply z4j | apply z5j | apply z6j | refine z7j ?_ GE281.out) | exact HB.out))) : w.heap.size ≤ gb282)); have n4_ := z0j ((by rw [hg]; exact (y7j (by repeat (first | (with_reducible first | exact HB.out | apply z4j | apply z5j | apply z6j | refine z7j ?_ GE281.out) | exact HB.out))) : w.heap.size ≤ gb282)); have n5_ := z0j ((by rw [hg]; exact Nat.ne_of_lt (blk_lt (g := gb281) (o := .cells #[.int .i64 a1_0, .int .i64 a1_1, .slice A1_2 l1_2.length c1_2] 31 (0, 0)) (by (with_reducible repeat (first | refine z1j ?_ _ | refine z3j ?_ | refine z2j ?_ _)); exact BK281.out)) : gb281 ≠ gb282)); have n6_ := z0j ((by rw [hg]; exact Nat.ne_of_gt (blk_lt (g := gb281) (o := .cells #[.int .i64 a1_0, .int .i64 a1_1, .slice A1_2 l1_2.length c1_2] 31 (0, 0)) (by (with_reducible repeat (first | refine z1j ?_ _ | refine z3j ?_ | refine z2j ?_ _)); exact BK281.out)) : gb282 ≠ gb281)); clear BK281; clear HB; have BK281 := n0_; have HB := n1_; have BK282 := n2_; have GW282 := n3_; have GE282 := n4_; have NB281_282 := n5_; have NB282_281 := n6_; clear n0_ n1_ n2_ n3_ n4_ n5_ n6_; clear hb hbox hg) | ((with_reducible refine gate_callee (f := 39) rfl ?_); refine goesL_ (some 13) rfl rfl Try.func39 (by kernel_rfl) rfl #[.slice A0 l0.length c0] rfl (by (try simp only [List.map_toArray, List.map_cons, List.map_nil]); first | done | rfl | (simp only [List.length_drop, List.length_take]; rfl)) ?_; (with_reducible refine (spec_IsKernel.calls k _ _ l0 false _ ?side1 ?side2 A4.out).mono ?_); (case side1 => repeat (first | exact (y9j HR0.out HB.out) | (with_reducible refine y2j ?_ _) | (with_reducible refine y3j ?_ _) | (with_reducible refine y4j ?_))); (case side2 => exact HC0.out); rintro e w29 ⟨rfl, hb⟩; refine ⟨_, rfl, ?_⟩; have n0_ := z0j (y5j (g := gb281) (o := .cells #[.int .i64 a1_0, .int .i64 a1_1, .slice A1_2 l1_2.length c1_2] 31 (0, 0)) (by (with_reducible repeat (first | refine z1j ?_ _ | refine z3j ?_ | refine z2j ?_ _)); exact BK281.out) hb); have n1_ := z0j (y5j (g := gb282) (o := .cells #[.int .i64 0, .int .i64 0, .slice none 0 0] 31 (0, 0)) (by (with_reducible repeat (first | refine z1j ?_ _ | refine z3j ?_ | refine z2j ?_ _)); exact BK282.out) hb); have n2_ := z0j (y6j (by repeat (first | (with_reducible first | exact HB.out | apply z4j | apply z5j | apply z6j | refine z7j ?_ GE281.out | refine z7j ?_ GE282.out) | exact HB.out)) hb); clear BK281; clear BK282; clear HB; have BK281 := n0_; have BK282 := n1_; have HB := n2_; clear n0_ n1_ n2_; (try clear hb); have hnb30 := NB282_281.out; have hnc30 := NB281_282.out; have hcz31_0 : w29.cell? ⟨gb282, 0, none⟩ = some (.int .i64 0) := (x3j BK282.out 0).trans rfl; have hcz31_1 : w29.cell? ⟨gb282, 1, none⟩ = some (.int .i64 0) := (x3j BK282.out 1).trans rfl; have hcz31_2 : w29.cell? ⟨gb282, 2, none⟩ = some (.slice none 0 0) := (x3j BK282.out 2).trans rfl; have hfz31_0 := x2j BK282.out 0; have hfz31_1 := x2j BK282.out 1; have hfz31_2 := x2j BK282.out 2))
  refine bodyPost_ret (results_ctt rfl _ _ gb282 31 #[.int .i64 0, .int .i64 0, .slice none 0 0] (0, 0) _ rfl (by (with_reducible repeat (first | refine z1j ?_ _ | refine z3j ?_ | refine z2j ?_ _)); refine blk_put (cs := #[.int .i64 0, .int .i64 0, .slice none 0 0]) ?_ 2 _ rfl; (with_reducible repeat (first | refine z1j ?_ _ | refine z3j ?_ | refine z2j ?_ _)); refine blk_put (cs := #[.int .i64 0, .int .i64 0, .slice none 0 0]) ?_ 1 _ rfl; (with_reducible repeat (first | refine z1j ?_ _ | refine z3j ?_ | refine z2j ?_ _)); refine blk_put (cs := #[.int .i64 0, .int .i64 0, .slice none 0 0]) ?_ 0 _ rfl; (with_reducible repeat (first | refine z1j ?_ _ | refine z3j ?_ | refine z2j ?_ _)); exact BK282.out) Try.underlying31 rfl (by kernel_rfl)) rfl ?_
  exact ⟨_, by first | rfl | (simp [errW_none, errW_some] <;> rfl) | (simp [*, errW_none, errW_some] <;> rfl), by first | exact Kd.R_nil _ _ _ _ _ | exact Kd.N_nil _ _ _ _ _ | exact Kd.V_nil _ _ _ _ _ | exact Kd.Q_nil _ _ _ _ _ | exact Kd.S_nil _ _ _ _ _, by repeat (first | (with_reducible first | exact HB.out | apply z4j | apply z5j | apply z6j | refine z7j ?_ GE281.out | refine z7j ?_ GE282.out) | exact HB.out)⟩

/-! ### laws_heldIntS: function 34 -/
def laws_heldIntS.l0 : Nat → List Int → Int → Int → Option (Int)
 | 0, _, _, _ => none
 | k + 1, x0, x1, x5 => if x5 < (x0.length : Int) then (if 0 ≤ x5 then (if (rd x0 x5) = x1 then (laws_heldIntS.l0 k x0 (wrap64 (x1 + 1)) (wrap64 (x5 + 1))) else (some (-1))) else (none)) else (some x1)
def laws_heldIntS.f (k : Nat) (l0 : List Int) (a1 : Int) : Option (Int) := laws_heldIntS.l0 k l0 a1 0
set_option maxHeartbeats 8000000 in
set_option maxRecDepth 100000 in
theorem laws_heldIntS.calls (k : Nat) (A0 : Option Addr) (c0 : Nat) (l0 : List Int) (a1 : Int) (r : Int) (w : World) (hr0 : Kd.C (Kd.int .i64) w A0 l0.length l0) (hc0 : l0.length ≤ c0) (h : laws_heldIntS.f k l0 a1 = some r) :
  Calls Try.prog 34 #[.slice A0 l0.length c0, .int .i64 a1] w fun e w' => e = .returned (.int .i64 r) ∧ Drawn0 w w' := by
 have HR0 := z0j hr0
 have HC0 := z0j hc0
 clear hr0 hc0
 have H : (laws_heldIntS.l0 k l0 a1 0) = some r := h
 clear h
 have H' := z0j H
 clear H
 go_enter Try.func34, Try.ntmps34
 go_wp2
 go_loopg [1, 5] k (fun kq v1 v5 w' => ∃ (x1_1 : Int) (x5_1 : Int), v1 = .int .i64 x1_1 ∧ v5 = .int .i64 x5_1 ∧ Aside0 (laws_heldIntS.l0 kq l0 x1_1 x5_1 = some r) ∧ Aside0 (kq ≤ k) ∧ Drawn0 w w')
 case atStart => exact ⟨(a1), (0), (by first | rfl | (simp; done) | (simp [*]; done)), (by first | rfl | (simp; done) | (simp [*]; done)), H', ⟨Nat.le_refl _⟩, by repeat (first | exact Drawn0.refl _ | apply Drawn0.step)⟩
 case round =>
  clear H'
  try clear p2
  obtain ⟨x1_1, x5_1, rfl, rfl, HA, HK1, ⟨m1, rfl⟩⟩ := hrel
  cases gk with
  | zero => exact absurd HA.out (by simp [laws_heldIntS.l0])
  | succ k1 =>
   have H := HA.out
   clear HA
   simp only [laws_heldIntS.l0] at H
   by_cases c3 : x5_1 < (l0.length : Int)
   ·rw [if_pos c3] at H
    have c3b0 : decide (x5_1 < (l0.length : Int)) = true := decide_eq_true c3
    clear c3
    by_cases c4 : 0 ≤ x5_1
    ·rw [if_pos c4] at H
     have c4b0 : decide (0 ≤ x5_1) = true := decide_eq_true c4
     clear c4
     by_cases c5 : (rd l0 x5_1) = x1_1
     ·rw [if_pos c5] at H
      have c5b0 : ((rd l0 x5_1) == x1_1) = true := beq_iff_eq.mpr c5
      have c5b1 : ((rd l0 x5_1) != x1_1) = false := bne_eq_false_iff_eq.mpr c5
      clear c5
      have H' := z0j H
      clear H
      have p292 : 0 ≤ (x5_1 : Int) := of_decide_eq_true (by first | (with_reducible assumption) | assumption)
      have q292 : x5_1 < (l0.length : Int) := of_decide_eq_true (by first | (with_reducible assumption) | assumption)
      obtain ⟨ad292, e292, hx292_0⟩ := Kd.at_int HR0.out x5_1 p292 q292
      cases e292
      replace p292 := eq_true p292
      replace q292 := eq_true q292
      go_wp2
      go_roundg k1
      case measure => have := HK1.out; omega
      case rel => exact ⟨(wrap64 (x1_1 + 1)), (wrap64 (x5_1 + 1)), (by first | rfl | (simp; done) | (simp [*]; done)), (by first | rfl | (simp; done) | (simp [*]; done)), H', ⟨by have := HK1.out; omega⟩, by repeat (first | exact Drawn0.refl _ | apply Drawn0.step)⟩
     ·rw [if_neg c5] at H
      have c5b0 : ((rd l0 x5_1) == x1_1) = false := beq_eq_false_iff_ne.mpr c5
      have c5b1 : ((rd l0 x5_1) != x1_1) = true := bne_iff_ne.mpr c5
      obtain rfl := Option.some.inj H
      have p292 : 0 ≤ (x5_1 : Int) := of_decide_eq_true (by first | (with_reducible assumption) | assumption)
      have q292 : x5_1 < (l0.length : Int) := of_decide_eq_true (by first | (with_reducible assumption) | assumption)
      obtain ⟨ad292, e292, hx292_0⟩ := Kd.at_int HR0.out x5_1 p292 q292
      cases e292
      replace p292 := eq_true p292
      replace q292 := eq_true q292
      go_wp2
      go_ret
      exact ⟨by first | rfl | (simp; done) | (simp [*]; done), by repeat (first | exact Drawn0.refl _ | apply Drawn0.step)⟩
    ·rw [if_neg c4] at H
     exact absurd H (by simp)
   ·rw [if_neg c3] at H
    have c3b0 : decide (x5_1 < (l0.length : Int)) = false := decide_eq_false c3
    clear c3
    obtain rfl := Option.some.inj H
    go_wp2
    go_ret
    exact ⟨by first | rfl | (simp; done) | (simp [*]; done), by repeat (first | exact Drawn0.refl _ | apply Drawn0.step)⟩

/-! ### laws_heldPicture: function 36 -/
def laws_heldPicture.f (k : Nat) (a0_0 : Int) (a0_1 : Int) (l0_2 : List Int) (a1 : Int) : Option (Int) := (laws_heldIntS.f k l0_2 a1).bind fun t294 => (if t294 < 0 then (some (-1)) else (some t294))
set_option maxHeartbeats 8000000 in
set_option maxRecDepth 100000 in
theorem laws_heldPicture.calls (k : Nat) (a0_0 : Int) (a0_1 : Int) (A0_2 : Option Addr) (c0_2 : Nat) (l0_2 : List Int) (a1 : Int) (r : Int) (w : World) (hr0_2 : Kd.C (Kd.int .i64) w A0_2 l0_2.length l0_2) (hc0_2 : l0_2.length ≤ c0_2) (h : laws_heldPicture.f k a0_0 a0_1 l0_2 a1 = some r) :
  Calls Try.prog 36 #[.agg #[.int .i64 a0_0, .int .i64 a0_1, .slice A0_2 l0_2.length c0_2], .int .i64 a1] w fun e w' => e = .returned (.int .i64 r) ∧ Below w.heap.size w w' := by
 have hu31 := Try.underlying31
 have HR0_2 := z0j hr0_2
 have HC0_2 := z0j hc0_2
 clear hr0_2 hc0_2
 have HB := z0j (Below.refl w.heap.size w)
 have H : ((laws_heldIntS.f k l0_2 a1).bind fun t294 => (if t294 < 0 then (some (-1)) else (some t294))) = some r := h
 clear h
 replace H := Option.bind_eq_some_iff.mp H
 obtain ⟨t294, A30, H⟩ := H
 replace H : (if t294 < 0 then (some (-1)) else (some t294)) = some r := H
 have A3 := z0j A30
 clear A30
 by_cases c4 : t294 < 0
 ·rw [if_pos c4] at H
  have c4b0 : decide (t294 < 0) = true := decide_eq_true c4
  clear c4
  obtain rfl := Option.some.inj H
  go_enter Try.func36, Try.ntmps36
  go_wp2_with (first | ((with_reducible refine gate_dst (N := 2) rfl ?_); refine box_event ?hg (N := 2) ?hd (cs := #[.int .i64 a0_0, .int .i64 a0_1, .slice A0_2 l0_2.length c0_2]) (t := 31) ?hr ?_; (case hd => rfl); (case hg => rfl); (case hr => first | (go_simp; done) | (go_simp; rfl)); intro gb293 hg w5 hbox hb; have n0_ := z0j (y6j (by repeat (first | (with_reducible first | exact HB.out | apply z4j | apply z5j | apply z6j) | exact HB.out)) hb); have n1_ := z0j (hbox); have n2_ := z0j ((by rw [hg]; exact (y7j (by repeat (first | (with_reducible first | exact HB.out | apply z4j | apply z5j | apply z6j) | exact HB.out))) : w.heap.size ≤ gb293)); have n3_ := z0j ((by rw [hg]; exact (y7j (by repeat (first | (with_reducible first | exact HB.out | apply z4j | apply z5j | apply z6j) | exact HB.out))) : w.heap.size ≤ gb293)); clear HB; have HB := n0_; have BK293 := n1_; have GW293 := n2_; have GE293 := n3_; clear n0_ n1_ n2_ n3_; clear hb hbox hg; have hcz6_0 : w5.cell? ⟨gb293, 0, none⟩ = some (.int .i64 a0_0) := (x3j BK293.out 0).trans rfl; have hcz6_1 : w5.cell? ⟨gb293, 1, none⟩ = some (.int .i64 a0_1) := (x3j BK293.out 1).trans rfl; have hcz6_2 : w5.cell? ⟨gb293, 2, none⟩ = some (.slice A0_2 l0_2.length c0_2) := (x3j BK293.out 2).trans rfl; have hfz6_0 := x2j BK293.out 0; have hfz6_1 := x2j BK293.out 1; have hfz6_2 := x2j BK293.out 2) | ((with_reducible refine gate_callee (f := 34) rfl ?_); refine goesL_ (some 8) rfl rfl Try.func34 (by kernel_rfl) rfl #[.slice A0_2 l0_2.length c0_2, .int .i64 a1] rfl (by (try simp only [List.map_toArray, List.map_cons, List.map_nil]); first | done | rfl | (simp only [List.length_drop, List.length_take]; rfl)) ?_; (with_reducible refine (laws_heldIntS.calls k _ _ l0_2 a1 t294 _ ?side1 ?side2 A3.out).mono ?_); (case side1 => repeat (first | exact HR0_2.out | exact (y9j HR0_2.out HB.out) | (with_reducible refine y2j ?_ _) | (with_reducible refine y3j ?_ _) | (with_reducible refine y4j ?_))); (case side2 => exact HC0_2.out); rintro e w' ⟨rfl, ⟨nd, rfl⟩⟩; refine ⟨_, rfl, ?_⟩))
  go_ret
  exact ⟨by first | rfl | (simp [errW_none, errW_some] <;> rfl) | (simp [*, errW_none, errW_some] <;> rfl), by repeat (first | (with_reducible first | exact HB.out | apply z4j | apply z5j | apply z6j | refine z7j ?_ GE293.out) | exact HB.out)⟩
 ·rw [if_neg c4] at H
  have c4b0 : decide (t294 < 0) = false := decide_eq_false c4
  clear c4
  obtain rfl := Option.some.inj H
  go_enter Try.func36, Try.ntmps36
  go_wp2_with (first | ((with_reducible refine gate_dst (N := 2) rfl ?_); refine box_event ?hg (N := 2) ?hd (cs := #[.int .i64 a0_0, .int .i64 a0_1, .slice A0_2 l0_2.length c0_2]) (t := 31) ?hr ?_; (case hd => rfl); (case hg => rfl); (case hr => first | (go_simp; done) | (go_simp; rfl)); intro gb293 hg w7 hbox hb; have n0_ := z0j (y6j (by repeat (first | (with_reducible first | exact HB.out | apply z4j | apply z5j | apply z6j) | exact HB.out)) hb); have n1_ := z0j (hbox); have n2_ := z0j ((by rw [hg]; exact (y7j (by repeat (first | (with_reducible first | exact HB.out | apply z4j | apply z5j | apply z6j) | exact HB.out))) : w.heap.size ≤ gb293)); have n3_ := z0j ((by rw [hg]; exact (y7j (by repeat (first | (with_reducible first | exact HB.out | apply z4j | apply z5j | apply z6j) | exact HB.out))) : w.heap.size ≤ gb293)); clear HB; have HB := n0_; have BK293 := n1_; have GW293 := n2_; have GE293 := n3_; clear n0_ n1_ n2_ n3_; clear hb hbox hg; have hcz8_0 : w7.cell? ⟨gb293, 0, none⟩ = some (.int .i64 a0_0) := (x3j BK293.out 0).trans rfl; have hcz8_1 : w7.cell? ⟨gb293, 1, none⟩ = some (.int .i64 a0_1) := (x3j BK293.out 1).trans rfl; have hcz8_2 : w7.cell? ⟨gb293, 2, none⟩ = some (.slice A0_2 l0_2.length c0_2) := (x3j BK293.out 2).trans rfl; have hfz8_0 := x2j BK293.out 0; have hfz8_1 := x2j BK293.out 1; have hfz8_2 := x2j BK293.out 2) | ((with_reducible refine gate_callee (f := 34) rfl ?_); refine goesL_ (some 8) rfl rfl Try.func34 (by kernel_rfl) rfl #[.slice A0_2 l0_2.length c0_2, .int .i64 a1] rfl (by (try simp only [List.map_toArray, List.map_cons, List.map_nil]); first | done | rfl | (simp only [List.length_drop, List.length_take]; rfl)) ?_; (with_reducible refine (laws_heldIntS.calls k _ _ l0_2 a1 t294 _ ?side1 ?side2 A3.out).mono ?_); (case side1 => repeat (first | exact HR0_2.out | exact (y9j HR0_2.out HB.out) | (with_reducible refine y2j ?_ _) | (with_reducible refine y3j ?_ _) | (with_reducible refine y4j ?_))); (case side2 => exact HC0_2.out); rintro e w' ⟨rfl, ⟨nd, rfl⟩⟩; refine ⟨_, rfl, ?_⟩))
  go_ret
  exact ⟨by first | rfl | (simp [errW_none, errW_some] <;> rfl) | (simp [*, errW_none, errW_some] <;> rfl), by repeat (first | (with_reducible first | exact HB.out | apply z4j | apply z5j | apply z6j | refine z7j ?_ GE293.out) | exact HB.out)⟩

end Go.Proofs.Ytnohdgbfgdnpfaa.PFnExactDiffusePicture
