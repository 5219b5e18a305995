/- Machine side of laws FnSpotMatrix: written for this claim by the kit's print program under this session's wip/tools/mp_setup.py (with contracts of the session's own, wip/ext). -/
import Derived.Test.YtkkcedkiohefmaaPFnSpotMatrixx0
import Derived.Test.YtkkcedkiohefmaaPFnSpotMatrixx1
import Derived.Test.YtkkcedkiohefmaaPFnSpotMatrixx5
namespace Go.Proofs.Ytkkcedkiohefmaa.PFnSpotMatrix
open Go.RowKit Go.Proofs.YtkkcedkiohefmaaW.PrintWords Go.Proofs.YtkkcedkiohefmaaW.PrintLast Go.Proofs.YtkkcedkiohefmaaW.PrintMore
attribute [local go_sem] max2_int min2_int max_two min_two max_three min_three max_four min_four   -- for this text's walks alone
set_option linter.unusedVariables false
set_option linter.unusedSimpArgs false
-- squeezed: words under short names
set_option linter.defProp false in
def z0g := @Aside0.mk
set_option linter.defProp false in
def z1g := @blk_drewN
set_option linter.defProp false in
def z2g := @blk_alloc
set_option linter.defProp false in
def z3g := @blk_drew
set_option linter.defProp false in
def z4g := @below_alloc
set_option linter.defProp false in
def z5g := @pw_below_drewN
set_option linter.defProp false in
def z6g := @below_drew1
set_option linter.defProp false in
def z7g := @below_set
set_option linter.defProp false in
def z8g := @Kd.R_alloc
set_option linter.defProp false in
def z9g := @Kd.R_drewN
set_option linter.defProp false in
def y1g := @Kd.R_drew
set_option linter.defProp false in
def y5g := @blk_below
set_option linter.defProp false in
def y6g := @below_step
set_option linter.defProp false in
def y7g := @below_size
set_option linter.defProp false in
def x2g := @blk_frozen
set_option linter.defProp false in
def x3g := @blk_cell
set_option linter.defProp false in
def x6g := @Kd.R_mono
set_option linter.defProp false in
def x9g := @Kd.R_ne
def bsg_ (n m : Nat) : Array Bool := ((List.range n).map fun i => m.testBit i).toArray
theorem s1g_ {α : Type} (l : List α) (i : Nat) (a : α) : l.toArray.setIfInBounds i a = (l.set i a).toArray := List.setIfInBounds_toArray l i a
theorem s2g_ {α : Type} (a b : α) (l : List α) : (a :: l).set 0 b = b :: l := rfl
theorem s3g_ {α : Type} (a b : α) (n : Nat) (l : List α) : (a :: l).set (n + 1) b = a :: l.set n b := rfl

def impl_down.f (a0 : Int) (a1 : Int) : Option (Int) := (impl_mod.f a0 a1).bind fun t197 => (if a1 = 0 then (none) else (some (wrap64 (Int.tdiv (wrap64 (a0 - t197)) a1))))
set_option maxHeartbeats 8000000 in
set_option maxRecDepth 100000 in
theorem impl_down.calls (a0 : Int) (a1 : Int) (r : Int) (w : World) (h : impl_down.f a0 a1 = some r) :
  Calls Try.prog 71 #[.int .i64 a0, .int .i64 a1] w fun e w' => e = .returned (.int .i64 r) ∧ Drawn0 w w' := by
 have H : ((impl_mod.f a0 a1).bind fun t197 => (if a1 = 0 then (none) else (some (wrap64 (Int.tdiv (wrap64 (a0 - t197)) a1))))) = some r := h
 clear h
 replace H := Option.bind_eq_some_iff.mp H
 obtain ⟨t197, A30, H⟩ := H
 replace H : (if a1 = 0 then (none) else (some (wrap64 (Int.tdiv (wrap64 (a0 - t197)) a1)))) = some r := H
 have A3 := z0g A30
 clear A30
 by_cases c4 : a1 = 0
 ·rw [if_pos c4] at H
  exact absurd H (by simp)
 ·rw [if_neg c4] at H
  have c4b0 : (a1 == 0) = false := beq_eq_false_iff_ne.mpr c4
  have c4b1 : (a1 != 0) = true := bne_iff_ne.mpr c4
  obtain rfl := Option.some.inj H
  go_enter Try.func71, Try.ntmps71
  go_wp2_with (first | ((with_reducible refine gate_callee (f := 69) rfl ?_); refine goesL_ (some 8) rfl rfl Try.func69 (by kernel_rfl) rfl #[.int .i64 a0, .int .i64 a1] rfl (by (try simp only [List.map_toArray, List.map_cons, List.map_nil]); first | done | rfl | (simp only [List.length_drop, List.length_take]; rfl)) ?_; (with_reducible refine (impl_mod.calls a0 a1 t197 _ A3.out).mono ?_); rintro e w' ⟨rfl, ⟨nd, rfl⟩⟩; refine ⟨_, rfl, ?_⟩))
  go_ret
  exact ⟨by first | rfl | (simp; done) | (simp [*]; done), by repeat (first | exact Drawn0.refl _ | apply Drawn0.step)⟩

mutual
def impl_NearOf.l0 : Nat → Int → Int → Int → Int → Int → Int → Int → Int → Option (Int)
 | 0, _, _, _, _, _, _, _, _ => none
 | k + 1, x5, x6, x9, x10, x11, x12, x199000, x199001 => if x12 ≤ (wrap64 (x9 + 3)) then (impl_NearOf.l1 k x5 x6 x9 x10 x11 x12 (wrap64 (x10 - 2)) x199000 x199001) else (some x11)
def impl_NearOf.l1 : Nat → Int → Int → Int → Int → Int → Int → Int → Int → Int → Option (Int)
 | 0, _, _, _, _, _, _, _, _, _ => none
 | k + 1, x5, x6, x9, x10, x11, x12, x13, x199000, x199001 => if x13 ≤ (wrap64 (x10 + 3)) then (if x11 < 0 then (impl_NearOf.l1 k x5 x6 x9 x10 (wrap64 ((wrap64 ((wrap64 (x5 - (wrap64 ((wrap64 (x12 * x199000)) - (wrap64 (x13 * x199001)))))) * (wrap64 (x5 - (wrap64 ((wrap64 (x12 * x199000)) - (wrap64 (x13 * x199001)))))))) + (wrap64 ((wrap64 (x6 - (wrap64 ((wrap64 (x12 * x199001)) + (wrap64 (x13 * x199000)))))) * (wrap64 (x6 - (wrap64 ((wrap64 (x12 * x199001)) + (wrap64 (x13 * x199000)))))))))) x12 (wrap64 (x13 + 1)) x199000 x199001) else (if (wrap64 ((wrap64 ((wrap64 (x5 - (wrap64 ((wrap64 (x12 * x199000)) - (wrap64 (x13 * x199001)))))) * (wrap64 (x5 - (wrap64 ((wrap64 (x12 * x199000)) - (wrap64 (x13 * x199001)))))))) + (wrap64 ((wrap64 (x6 - (wrap64 ((wrap64 (x12 * x199001)) + (wrap64 (x13 * x199000)))))) * (wrap64 (x6 - (wrap64 ((wrap64 (x12 * x199001)) + (wrap64 (x13 * x199000)))))))))) < x11 then (impl_NearOf.l1 k x5 x6 x9 x10 (wrap64 ((wrap64 ((wrap64 (x5 - (wrap64 ((wrap64 (x12 * x199000)) - (wrap64 (x13 * x199001)))))) * (wrap64 (x5 - (wrap64 ((wrap64 (x12 * x199000)) - (wrap64 (x13 * x199001)))))))) + (wrap64 ((wrap64 (x6 - (wrap64 ((wrap64 (x12 * x199001)) + (wrap64 (x13 * x199000)))))) * (wrap64 (x6 - (wrap64 ((wrap64 (x12 * x199001)) + (wrap64 (x13 * x199000)))))))))) x12 (wrap64 (x13 + 1)) x199000 x199001) else (impl_NearOf.l1 k x5 x6 x9 x10 x11 x12 (wrap64 (x13 + 1)) x199000 x199001))) else (impl_NearOf.l0 k x5 x6 x9 x10 x11 (wrap64 (x12 + 1)) x199000 x199001)
end
def impl_NearOf.f (k : Nat) (a0_0 : Int) (a0_1 : Int) (a1 : Int) : Option (Int) := (impl_PointOf.f k a0_0 a0_1 a1).bind fun bt199 => (if bt199.2.2 = true then ((impl_area.f a0_0 a0_1).bind fun t202 => ((impl_down.f (wrap64 ((wrap64 (bt199.1 * a0_0)) + (wrap64 (bt199.2.1 * a0_1)))) t202).bind fun t203 => ((impl_down.f (wrap64 ((wrap64 (bt199.2.1 * a0_0)) - (wrap64 (bt199.1 * a0_1)))) t202).bind fun t204 => (impl_NearOf.l0 k bt199.1 bt199.2.1 t203 t204 (-1) (wrap64 (t203 - 2)) a0_0 a0_1)))) else (some (-1)))
set_option maxHeartbeats 8000000 in
set_option maxRecDepth 100000 in
theorem impl_NearOf.calls (k : Nat) (a0_0 : Int) (a0_1 : Int) (a1 : Int) (r : Int) (w : World) (h : impl_NearOf.f k a0_0 a0_1 a1 = some r) :
  Calls Try.prog 56 #[.agg #[.int .i64 a0_0, .int .i64 a0_1], .int .i64 a1] w fun e w' => e = .returned (.int .i64 r) ∧ Below w.heap.size w w' := by
 have hu24 := Try.underlying24
 have HB := z0g (Below.refl w.heap.size w)
 have H : ((impl_PointOf.f k a0_0 a0_1 a1).bind fun bt199 => (if bt199.2.2 = true then ((impl_area.f a0_0 a0_1).bind fun t202 => ((impl_down.f (wrap64 ((wrap64 (bt199.1 * a0_0)) + (wrap64 (bt199.2.1 * a0_1)))) t202).bind fun t203 => ((impl_down.f (wrap64 ((wrap64 (bt199.2.1 * a0_0)) - (wrap64 (bt199.1 * a0_1)))) t202).bind fun t204 => (impl_NearOf.l0 k bt199.1 bt199.2.1 t203 t204 (-1) (wrap64 (t203 - 2)) a0_0 a0_1)))) else (some (-1)))) = some r := h
 clear h
 replace H := Option.bind_eq_some_iff.mp H
 obtain ⟨⟨t199, t200, t201⟩, A30, H⟩ := H
 replace H : (if t201 = true then ((impl_area.f a0_0 a0_1).bind fun t202 => ((impl_down.f (wrap64 ((wrap64 (t199 * a0_0)) + (wrap64 (t200 * a0_1)))) t202).bind fun t203 => ((impl_down.f (wrap64 ((wrap64 (t200 * a0_0)) - (wrap64 (t199 * a0_1)))) t202).bind fun t204 => (impl_NearOf.l0 k t199 t200 t203 t204 (-1) (wrap64 (t203 - 2)) a0_0 a0_1)))) else (some (-1))) = some r := H
 have A3 := z0g A30
 clear A30
 by_cases c4 : t201 = true
 ·subst c4
  have H1 : ((impl_area.f a0_0 a0_1).bind fun t202 => ((impl_down.f (wrap64 ((wrap64 (t199 * a0_0)) + (wrap64 (t200 * a0_1)))) t202).bind fun t203 => ((impl_down.f (wrap64 ((wrap64 (t200 * a0_0)) - (wrap64 (t199 * a0_1)))) t202).bind fun t204 => (impl_NearOf.l0 k t199 t200 t203 t204 (-1) (wrap64 (t203 - 2)) a0_0 a0_1)))) = some r := by rw [if_pos rfl] at H; first | exact H | (simp only [if_true] at H ⊢; exact H)
  clear H
  have H := H1
  clear H1
  replace H := Option.bind_eq_some_iff.mp H
  obtain ⟨t202, A50, H⟩ := H
  replace H : ((impl_down.f (wrap64 ((wrap64 (t199 * a0_0)) + (wrap64 (t200 * a0_1)))) t202).bind fun t203 => ((impl_down.f (wrap64 ((wrap64 (t200 * a0_0)) - (wrap64 (t199 * a0_1)))) t202).bind fun t204 => (impl_NearOf.l0 k t199 t200 t203 t204 (-1) (wrap64 (t203 - 2)) a0_0 a0_1))) = some r := H
  have A5 := z0g A50
  clear A50
  replace H := Option.bind_eq_some_iff.mp H
  obtain ⟨t203, A60, H⟩ := H
  replace H : ((impl_down.f (wrap64 ((wrap64 (t200 * a0_0)) - (wrap64 (t199 * a0_1)))) t202).bind fun t204 => (impl_NearOf.l0 k t199 t200 t203 t204 (-1) (wrap64 (t203 - 2)) a0_0 a0_1)) = some r := H
  have A6 := z0g A60
  clear A60
  replace H := Option.bind_eq_some_iff.mp H
  obtain ⟨t204, A70, H⟩ := H
  replace H : (impl_NearOf.l0 k t199 t200 t203 t204 (-1) (wrap64 (t203 - 2)) a0_0 a0_1) = some r := H
  have A7 := z0g A70
  clear A70
  have H' := z0g H
  clear H
  go_enter Try.func56, Try.ntmps56
  go_wp2_with (first | ((with_reducible refine gate_dst (N := 2) rfl ?_); refine box_event ?hg (N := 2) ?hd (cs := #[.int .i64 a0_0, .int .i64 a0_1]) (t := 24) ?hr ?_; (case hd => rfl); (case hg => rfl); (case hr => first | (go_simp; done) | (go_simp; rfl)); intro gb198 hg w8 hbox hb; have n0_ := z0g (y6g (by repeat (first | (with_reducible first | exact HB.out | apply z4g | apply z5g | apply z6g) | exact HB.out)) hb); have n1_ := z0g (hbox); have n2_ := z0g ((by rw [hg]; exact (y7g (by repeat (first | (with_reducible first | exact HB.out | apply z4g | apply z5g | apply z6g) | exact HB.out))) : w.heap.size ≤ gb198)); have n3_ := z0g ((by rw [hg]; exact (y7g (by repeat (first | (with_reducible first | exact HB.out | apply z4g | apply z5g | apply z6g) | exact HB.out))) : w.heap.size ≤ gb198)); clear HB; have HB := n0_; have BK198 := n1_; have GW198 := n2_; have GE198 := n3_; clear n0_ n1_ n2_ n3_; clear hb hbox hg; have hcz9_0 : w8.cell? ⟨gb198, 0, none⟩ = some (.int .i64 a0_0) := (x3g BK198.out 0).trans rfl; have hcz9_1 : w8.cell? ⟨gb198, 1, none⟩ = some (.int .i64 a0_1) := (x3g BK198.out 1).trans rfl; have hfz9_0 := x2g BK198.out 0; have hfz9_1 := x2g BK198.out 1) | (go_at_call 70; (with_reducible refine (impl_PointOf.calls k a0_0 a0_1 a1 t199 t200 true _ A3.out).mono ?_); rintro e w10 ⟨rfl, hb⟩; have n0_ := z0g (y5g (g := gb198) (o := .cells #[.int .i64 a0_0, .int .i64 a0_1] 24 (0, 0)) (by (with_reducible repeat (first | refine z1g ?_ _ | refine z3g ?_ | refine z2g ?_ _)); exact BK198.out) hb); have n1_ := z0g (y6g (by repeat (first | (with_reducible first | exact HB.out | apply z4g | apply z5g | apply z6g | refine z7g ?_ GE198.out) | exact HB.out)) hb); clear BK198; clear HB; have BK198 := n0_; have HB := n1_; clear n0_ n1_; (try clear hb); have hcz11_0 : w10.cell? ⟨gb198, 0, none⟩ = some (.int .i64 a0_0) := (x3g BK198.out 0).trans rfl; have hcz11_1 : w10.cell? ⟨gb198, 1, none⟩ = some (.int .i64 a0_1) := (x3g BK198.out 1).trans rfl; have hfz11_0 := x2g BK198.out 0; have hfz11_1 := x2g BK198.out 1) | (go_at_call 39; (with_reducible refine (impl_area.calls a0_0 a0_1 t202 _ A5.out).mono ?_); rintro e w12 ⟨rfl, hb⟩; have n0_ := z0g (y5g (g := gb198) (o := .cells #[.int .i64 a0_0, .int .i64 a0_1] 24 (0, 0)) (by (with_reducible repeat (first | refine z1g ?_ _ | refine z3g ?_ | refine z2g ?_ _)); exact BK198.out) hb); have n1_ := z0g (y6g (by repeat (first | (with_reducible first | exact HB.out | apply z4g | apply z5g | apply z6g | refine z7g ?_ GE198.out) | exact HB.out)) hb); clear BK198; clear HB; have BK198 := n0_; have HB := n1_; clear n0_ n1_; (try clear hb); have hcz13_0 : w12.cell? ⟨gb198, 0, none⟩ = some (.int .i64 a0_0) := (x3g BK198.out 0).trans rfl; have hcz13_1 : w12.cell? ⟨gb198, 1, none⟩ = some (.int .i64 a0_1) := (x3g BK198.out 1).trans rfl; have hfz13_0 := x2g BK198.out 0; have hfz13_1 := x2g BK198.out 1) | (go_at_call 71; (with_reducible refine (impl_down.calls (wrap64 ((wrap64 (t199 * a0_0)) + (wrap64 (t200 * a0_1)))) t202 t203 _ A6.out).mono ?_); rintro e w' ⟨rfl, ⟨nd, rfl⟩⟩; (try first | exact ⟨rfl, _, World.drewN_drewN _ _ _⟩ | exact ⟨rfl, _, Eq.trans (World.drewN_drewN _ _ _) (congrArg (World.drewN _) (Nat.add_assoc _ _ _))⟩)) | (go_at_call 71; (with_reducible refine (impl_down.calls (wrap64 ((wrap64 (t200 * a0_0)) - (wrap64 (t199 * a0_1)))) t202 t204 _ A7.out).mono ?_); rintro e w' ⟨rfl, ⟨nd, rfl⟩⟩; (try first | exact ⟨rfl, _, World.drewN_drewN _ _ _⟩ | exact ⟨rfl, _, Eq.trans (World.drewN_drewN _ _ _) (congrArg (World.drewN _) (Nat.add_assoc _ _ _))⟩)))
  repeat (go_quiet (first | (go_at_call 71; (with_reducible refine (impl_down.calls (wrap64 ((wrap64 (t199 * a0_0)) + (wrap64 (t200 * a0_1)))) t202 t203 _ A6.out).mono ?_); rintro e w' ⟨rfl, ⟨nd, rfl⟩⟩; (try first | exact ⟨rfl, _, World.drewN_drewN _ _ _⟩ | exact ⟨rfl, _, Eq.trans (World.drewN_drewN _ _ _) (congrArg (World.drewN _) (Nat.add_assoc _ _ _))⟩)) | (go_at_call 71; (with_reducible refine (impl_down.calls (wrap64 ((wrap64 (t200 * a0_0)) - (wrap64 (t199 * a0_1)))) t202 t204 _ A7.out).mono ?_); rintro e w' ⟨rfl, ⟨nd, rfl⟩⟩; (try first | exact ⟨rfl, _, World.drewN_drewN _ _ _⟩ | exact ⟨rfl, _, Eq.trans (World.drewN_drewN _ _ _) (congrArg (World.drewN _) (Nat.add_assoc _ _ _))⟩))); try go_wp2_with (first | ((with_reducible refine gate_dst (N := 2) rfl ?_); refine box_event ?hg (N := 2) ?hd (cs := #[.int .i64 a0_0, .int .i64 a0_1]) (t := 24) ?hr ?_; (case hd => rfl); (case hg => rfl); (case hr => first | (go_simp; done) | (go_simp; rfl)); intro gb198 hg w8 hbox hb; have n0_ := z0g (y6g (by repeat (first | (with_reducible first | exact HB.out | apply z4g | apply z5g | apply z6g) | exact HB.out)) hb); have n1_ := z0g (hbox); have n2_ := z0g ((by rw [hg]; exact (y7g (by repeat (first | (with_reducible first | exact HB.out | apply z4g | apply z5g | apply z6g) | exact HB.out))) : w.heap.size ≤ gb198)); have n3_ := z0g ((by rw [hg]; exact (y7g (by repeat (first | (with_reducible first | exact HB.out | apply z4g | apply z5g | apply z6g) | exact HB.out))) : w.heap.size ≤ gb198)); clear HB; have HB := n0_; have BK198 := n1_; have GW198 := n2_; have GE198 := n3_; clear n0_ n1_ n2_ n3_; clear hb hbox hg; have hcz9_0 : w8.cell? ⟨gb198, 0, none⟩ = some (.int .i64 a0_0) := (x3g BK198.out 0).trans rfl; have hcz9_1 : w8.cell? ⟨gb198, 1, none⟩ = some (.int .i64 a0_1) := (x3g BK198.out 1).trans rfl; have hfz9_0 := x2g BK198.out 0; have hfz9_1 := x2g BK198.out 1) | (go_at_call 70; (with_reducible refine (impl_PointOf.calls k a0_0 a0_1 a1 t199 t200 true _ A3.out).mono ?_); rintro e w10 ⟨rfl, hb⟩; have n0_ := z0g (y5g (g := gb198) (o := .cells #[.int .i64 a0_0, .int .i64 a0_1] 24 (0, 0)) (by (with_reducible repeat (first | refine z1g ?_ _ | refine z3g ?_ | refine z2g ?_ _)); exact BK198.out) hb); have n1_ := z0g (y6g (by repeat (first | (with_reducible first | exact HB.out | apply z4g | apply z5g | apply z6g | refine z7g ?_ GE198.out) | exact HB.out)) hb); clear BK198; clear HB; have BK198 := n0_; have HB := n1_; clear n0_ n1_; (try clear hb); have hcz11_0 : w10.cell? ⟨gb198, 0, none⟩ = some (.int .i64 a0_0) := (x3g BK198.out 0).trans rfl; have hcz11_1 : w10.cell? ⟨gb198, 1, none⟩ = some (.int .i64 a0_1) := (x3g BK198.out 1).trans rfl; have hfz11_0 := x2g BK198.out 0; have hfz11_1 := x2g BK198.out 1) | (go_at_call 39; (with_reducible refine (impl_area.calls a0_0 a0_1 t202 _ A5.out).mono ?_); rintro e w12 ⟨rfl, hb⟩; have n0_ := z0g (y5g (g := gb198) (o := .cells #[.int .i64 a0_0, .int .i64 a0_1] 24 (0, 0)) (by (with_reducible repeat (first | refine z1g ?_ _ | refine z3g ?_ | refine z2g ?_ _)); exact BK198.out) hb); have n1_ := z0g (y6g (by repeat (first | (with_reducible first | exact HB.out | apply z4g | apply z5g | apply z6g | refine z7g ?_ GE198.out) | exact HB.out)) hb); clear BK198; clear HB; have BK198 := n0_; have HB := n1_; clear n0_ n1_; (try clear hb); have hcz13_0 : w12.cell? ⟨gb198, 0, none⟩ = some (.int .i64 a0_0) := (x3g BK198.out 0).trans rfl; have hcz13_1 : w12.cell? ⟨gb198, 1, none⟩ = some (.int .i64 a0_1) := (x3g BK198.out 1).trans rfl; have hfz13_0 := x2g BK198.out 0; have hfz13_1 := x2g BK198.out 1) | (go_at_call 71; (with_reducible refine (impl_down.calls (wrap64 ((wrap64 (t199 * a0_0)) + (wrap64 (t200 * a0_1)))) t202 t203 _ A6.out).mono ?_); rintro e w' ⟨rfl, ⟨nd, rfl⟩⟩; (try first | exact ⟨rfl, _, World.drewN_drewN _ _ _⟩ | exact ⟨rfl, _, Eq.trans (World.drewN_drewN _ _ _) (congrArg (World.drewN _) (Nat.add_assoc _ _ _))⟩)) | (go_at_call 71; (with_reducible refine (impl_down.calls (wrap64 ((wrap64 (t200 * a0_0)) - (wrap64 (t199 * a0_1)))) t202 t204 _ A7.out).mono ?_); rintro e w' ⟨rfl, ⟨nd, rfl⟩⟩; (try first | exact ⟨rfl, _, World.drewN_drewN _ _ _⟩ | exact ⟨rfl, _, Eq.trans (World.drewN_drewN _ _ _) (congrArg (World.drewN _) (Nat.add_assoc _ _ _))⟩))))
  go_loopg [11, 12] k (fun kq v11 v12 w' => ∃ (x11_1 : Int) (x12_1 : Int), v11 = .int .i64 x11_1 ∧ v12 = .int .i64 x12_1 ∧ Aside0 (impl_NearOf.l0 kq t199 t200 t203 t204 x11_1 x12_1 a0_0 a0_1 = some r) ∧ Aside0 (kq ≤ k) ∧ Aside0 (w'.heap[gb198]? = some (.cells #[.int .i64 a0_0, .int .i64 a0_1] 24 (0, 0))) ∧ Aside0 (Below w.heap.size w w'))
  case atStart => exact ⟨((-1)), (wrap64 (t203 - 2)), (by first | rfl | (simp; done) | (simp [*]; done)), (by first | rfl | (simp; done) | (simp [*]; done)), H', ⟨Nat.le_refl _⟩, ⟨by (with_reducible repeat (first | refine z1g ?_ _ | refine z3g ?_ | refine z2g ?_ _)); exact BK198.out⟩, ⟨by repeat (first | (with_reducible first | exact HB.out | apply z4g | apply z5g | apply z6g | refine z7g ?_ GE198.out) | exact HB.out)⟩⟩
  case round =>
   clear H'
   try clear p2
   try clear c4
   try clear c5
   try clear p6
   try clear hcz11_0
   try clear hcz11_1
   try clear hcz13_0
   try clear hcz13_1
   try clear hcz9_0
   try clear hcz9_1
   try clear hfz11_0
   try clear hfz11_1
   try clear hfz13_0
   try clear hfz13_1
   try clear hfz9_0
   try clear hfz9_1
   obtain ⟨x11_1, x12_1, rfl, rfl, HA, HK1, BK198, HB⟩ := hrel
   cases gk with
   | zero => exact absurd HA.out (by simp [impl_NearOf.l0])
   | succ k1 =>
    have H := HA.out
    clear HA
    simp only [impl_NearOf.l0] at H
    by_cases c14 : x12_1 ≤ (wrap64 (t203 + 3))
    ·rw [if_pos c14] at H
     have c14b0 : decide (x12_1 ≤ (wrap64 (t203 + 3))) = true := decide_eq_true c14
     clear c14
     have H' := z0g H
     clear H
     go_wp2
     repeat (go_quiet (fail); try go_wp2)
     go_loopg [11, 13] k1 (fun kq v11 v13 w' => ∃ (x11_2 : Int) (x13_2 : Int), v11 = .int .i64 x11_2 ∧ v13 = .int .i64 x13_2 ∧ Aside0 (impl_NearOf.l1 kq t199 t200 t203 t204 x11_2 x12_1 x13_2 a0_0 a0_1 = some r) ∧ Aside0 (kq ≤ k1) ∧ Aside0 (w'.heap[gb198]? = some (.cells #[.int .i64 a0_0, .int .i64 a0_1] 24 (0, 0))) ∧ Aside0 (Below w.heap.size w w'))
     case atStart => exact ⟨(x11_1), (wrap64 (t204 - 2)), (by first | rfl | (simp; done) | (simp [*]; done)), (by first | rfl | (simp; done) | (simp [*]; done)), H', ⟨Nat.le_refl _⟩, ⟨by (with_reducible repeat (first | refine z1g ?_ _ | refine z3g ?_ | refine z2g ?_ _)); exact BK198.out⟩, ⟨by repeat (first | (with_reducible first | exact HB.out | apply z4g | apply z5g | apply z6g | refine z7g ?_ GE198.out) | exact HB.out)⟩⟩
     case round =>
      clear H'
      try clear c1
      try clear p2
      try clear c4
      try clear c5
      try clear p6
      try clear c14
      try clear c14b0
      try clear hcz11_0
      try clear hcz11_1
      try clear hcz13_0
      try clear hcz13_1
      try clear hcz9_0
      try clear hcz9_1
      try clear hfz11_0
      try clear hfz11_1
      try clear hfz13_0
      try clear hfz13_1
      try clear hfz9_0
      try clear hfz9_1
      try clear p2
      try clear p6
      obtain ⟨x11_2, x13_2, rfl, rfl, HA, HK2, BK198, HB⟩ := hrel
      cases gk with
      | zero => exact absurd HA.out (by simp [impl_NearOf.l1])
      | succ k2 =>
       have H := HA.out
       clear HA
       simp only [impl_NearOf.l1] at H
       by_cases c15 : x13_2 ≤ (wrap64 (t204 + 3))
       ·rw [if_pos c15] at H
        have c15b0 : decide (x13_2 ≤ (wrap64 (t204 + 3))) = true := decide_eq_true c15
        clear c15
        by_cases c16 : x11_2 < 0
        ·rw [if_pos c16] at H
         have c16b0 : decide (x11_2 < 0) = true := decide_eq_true c16
         clear c16
         have H' := z0g H
         clear H
         have hcz17_0 : wr.cell? ⟨gb198, 0, none⟩ = some (.int .i64 a0_0) := (x3g BK198.out 0).trans rfl
         have hcz17_1 : wr.cell? ⟨gb198, 1, none⟩ = some (.int .i64 a0_1) := (x3g BK198.out 1).trans rfl
         have hfz17_0 := x2g BK198.out 0
         have hfz17_1 := x2g BK198.out 1
         go_wp2
         repeat (go_quiet (fail); try go_wp2)
         go_roundg k2
         case measure => have := HK1.out; have := HK2.out; omega
         case rel => exact ⟨(wrap64 ((wrap64 ((wrap64 (t199 - (wrap64 ((wrap64 (x12_1 * a0_0)) - (wrap64 (x13_2 * a0_1)))))) * (wrap64 (t199 - (wrap64 ((wrap64 (x12_1 * a0_0)) - (wrap64 (x13_2 * a0_1)))))))) + (wrap64 ((wrap64 (t200 - (wrap64 ((wrap64 (x12_1 * a0_1)) + (wrap64 (x13_2 * a0_0)))))) * (wrap64 (t200 - (wrap64 ((wrap64 (x12_1 * a0_1)) + (wrap64 (x13_2 * a0_0)))))))))), (wrap64 (x13_2 + 1)), (by first | rfl | (simp; done) | (simp [*]; done)), (by first | rfl | (simp; done) | (simp [*]; done)), H', ⟨by have := HK1.out; have := HK2.out; omega⟩, ⟨by (with_reducible repeat (first | refine z1g ?_ _ | refine z3g ?_ | refine z2g ?_ _)); exact BK198.out⟩, ⟨by repeat (first | (with_reducible first | exact HB.out | apply z4g | apply z5g | apply z6g | refine z7g ?_ GE198.out) | exact HB.out)⟩⟩
        ·rw [if_neg c16] at H
         have c16b0 : decide (x11_2 < 0) = false := decide_eq_false c16
         clear c16
         by_cases c18 : (wrap64 ((wrap64 ((wrap64 (t199 - (wrap64 ((wrap64 (x12_1 * a0_0)) - (wrap64 (x13_2 * a0_1)))))) * (wrap64 (t199 - (wrap64 ((wrap64 (x12_1 * a0_0)) - (wrap64 (x13_2 * a0_1)))))))) + (wrap64 ((wrap64 (t200 - (wrap64 ((wrap64 (x12_1 * a0_1)) + (wrap64 (x13_2 * a0_0)))))) * (wrap64 (t200 - (wrap64 ((wrap64 (x12_1 * a0_1)) + (wrap64 (x13_2 * a0_0)))))))))) < x11_2
         ·rw [if_pos c18] at H
          have c18b0 : decide ((wrap64 ((wrap64 ((wrap64 (t199 - (wrap64 ((wrap64 (x12_1 * a0_0)) - (wrap64 (x13_2 * a0_1)))))) * (wrap64 (t199 - (wrap64 ((wrap64 (x12_1 * a0_0)) - (wrap64 (x13_2 * a0_1)))))))) + (wrap64 ((wrap64 (t200 - (wrap64 ((wrap64 (x12_1 * a0_1)) + (wrap64 (x13_2 * a0_0)))))) * (wrap64 (t200 - (wrap64 ((wrap64 (x12_1 * a0_1)) + (wrap64 (x13_2 * a0_0)))))))))) < x11_2) = true := decide_eq_true c18
          clear c18
          have H' := z0g H
          clear H
          have hcz19_0 : wr.cell? ⟨gb198, 0, none⟩ = some (.int .i64 a0_0) := (x3g BK198.out 0).trans rfl
          have hcz19_1 : wr.cell? ⟨gb198, 1, none⟩ = some (.int .i64 a0_1) := (x3g BK198.out 1).trans rfl
          have hfz19_0 := x2g BK198.out 0
          have hfz19_1 := x2g BK198.out 1
          go_wp2
          repeat (go_quiet (fail); try go_wp2)
          go_roundg k2
          case measure => have := HK1.out; have := HK2.out; omega
          case rel => exact ⟨(wrap64 ((wrap64 ((wrap64 (t199 - (wrap64 ((wrap64 (x12_1 * a0_0)) - (wrap64 (x13_2 * a0_1)))))) * (wrap64 (t199 - (wrap64 ((wrap64 (x12_1 * a0_0)) - (wrap64 (x13_2 * a0_1)))))))) + (wrap64 ((wrap64 (t200 - (wrap64 ((wrap64 (x12_1 * a0_1)) + (wrap64 (x13_2 * a0_0)))))) * (wrap64 (t200 - (wrap64 ((wrap64 (x12_1 * a0_1)) + (wrap64 (x13_2 * a0_0)))))))))), (wrap64 (x13_2 + 1)), (by first | rfl | (simp; done) | (simp [*]; done)), (by first | rfl | (simp; done) | (simp [*]; done)), H', ⟨by have := HK1.out; have := HK2.out; omega⟩, ⟨by (with_reducible repeat (first | refine z1g ?_ _ | refine z3g ?_ | refine z2g ?_ _)); exact BK198.out⟩, ⟨by repeat (first | (with_reducible first | exact HB.out | apply z4g | apply z5g | apply z6g | refine z7g ?_ GE198.out) | exact HB.out)⟩⟩
         ·rw [if_neg c18] at H
          have c18b0 : decide ((wrap64 ((wrap64 ((wrap64 (t199 - (wrap64 ((wrap64 (x12_1 * a0_0)) - (wrap64 (x13_2 * a0_1)))))) * (wrap64 (t199 - (wrap64 ((wrap64 (x12_1 * a0_0)) - (wrap64 (x13_2 * a0_1)))))))) + (wrap64 ((wrap64 (t200 - (wrap64 ((wrap64 (x12_1 * a0_1)) + (wrap64 (x13_2 * a0_0)))))) * (wrap64 (t200 - (wrap64 ((wrap64 (x12_1 * a0_1)) + (wrap64 (x13_2 * a0_0)))))))))) < x11_2) = false := decide_eq_false c18
          clear c18
          have H' := z0g H
          clear H
          have hcz20_0 : wr.cell? ⟨gb198, 0, none⟩ = some (.int .i64 a0_0) := (x3g BK198.out 0).trans rfl
          have hcz20_1 : wr.cell? ⟨gb198, 1, none⟩ = some (.int .i64 a0_1) := (x3g BK198.out 1).trans rfl
          have hfz20_0 := x2g BK198.out 0
          have hfz20_1 := x2g BK198.out 1
          go_wp2
          repeat (go_quiet (fail); try go_wp2)
          go_roundg k2
          case measure => have := HK1.out; have := HK2.out; omega
          case rel => exact ⟨(x11_2), (wrap64 (x13_2 + 1)), (by first | rfl | (simp; done) | (simp [*]; done)), (by first | rfl | (simp; done) | (simp [*]; done)), H', ⟨by have := HK1.out; have := HK2.out; omega⟩, ⟨by (with_reducible repeat (first | refine z1g ?_ _ | refine z3g ?_ | refine z2g ?_ _)); exact BK198.out⟩, ⟨by repeat (first | (with_reducible first | exact HB.out | apply z4g | apply z5g | apply z6g | refine z7g ?_ GE198.out) | exact HB.out)⟩⟩
       ·rw [if_neg c15] at H
        have c15b0 : decide (x13_2 ≤ (wrap64 (t204 + 3))) = false := decide_eq_false c15
        clear c15
        have H' := z0g H
        clear H
        go_wp2
        repeat (go_quiet (fail); try go_wp2)
        go_roundg k2
        case measure => have := HK1.out; have := HK2.out; omega
        case rel => exact ⟨(x11_2), (wrap64 (x12_1 + 1)), (by first | rfl | (simp; done) | (simp [*]; done)), (by first | rfl | (simp; done) | (simp [*]; done)), H', ⟨by have := HK1.out; have := HK2.out; omega⟩, ⟨by (with_reducible repeat (first | refine z1g ?_ _ | refine z3g ?_ | refine z2g ?_ _)); exact BK198.out⟩, ⟨by repeat (first | (with_reducible first | exact HB.out | apply z4g | apply z5g | apply z6g | refine z7g ?_ GE198.out) | exact HB.out)⟩⟩
    ·rw [if_neg c14] at H
     have c14b0 : decide (x12_1 ≤ (wrap64 (t203 + 3))) = false := decide_eq_false c14
     clear c14
     obtain rfl := Option.some.inj H
     go_wp2
     repeat (go_quiet (fail); try go_wp2)
     go_ret
     exact ⟨by first | rfl | (simp [errW_none, errW_some] <;> rfl) | (simp [*, errW_none, errW_some] <;> rfl), by repeat (first | (with_reducible first | exact HB.out | apply z4g | apply z5g | apply z6g | refine z7g ?_ GE198.out) | exact HB.out)⟩
 ·replace c4 := Bool.eq_false_iff.mpr c4
  subst c4
  have H1 : (some (-1)) = some r := by rw [if_neg (show ¬ (false = true) by decide)] at H; first | exact H | (simp only [if_true] at H ⊢; exact H)
  clear H
  have H := H1
  clear H1
  obtain rfl := Option.some.inj H
  go_enter Try.func56, Try.ntmps56
  go_wp2_with (first | ((with_reducible refine gate_dst (N := 2) rfl ?_); refine box_event ?hg (N := 2) ?hd (cs := #[.int .i64 a0_0, .int .i64 a0_1]) (t := 24) ?hr ?_; (case hd => rfl); (case hg => rfl); (case hr => first | (go_simp; done) | (go_simp; rfl)); intro gb198 hg w21 hbox hb; have n0_ := z0g (y6g (by repeat (first | (with_reducible first | exact HB.out | apply z4g | apply z5g | apply z6g) | exact HB.out)) hb); have n1_ := z0g (hbox); have n2_ := z0g ((by rw [hg]; exact (y7g (by repeat (first | (with_reducible first | exact HB.out | apply z4g | apply z5g | apply z6g) | exact HB.out))) : w.heap.size ≤ gb198)); have n3_ := z0g ((by rw [hg]; exact (y7g (by repeat (first | (with_reducible first | exact HB.out | apply z4g | apply z5g | apply z6g) | exact HB.out))) : w.heap.size ≤ gb198)); clear HB; have HB := n0_; have BK198 := n1_; have GW198 := n2_; have GE198 := n3_; clear n0_ n1_ n2_ n3_; clear hb hbox hg; have hcz22_0 : w21.cell? ⟨gb198, 0, none⟩ = some (.int .i64 a0_0) := (x3g BK198.out 0).trans rfl; have hcz22_1 : w21.cell? ⟨gb198, 1, none⟩ = some (.int .i64 a0_1) := (x3g BK198.out 1).trans rfl; have hfz22_0 := x2g BK198.out 0; have hfz22_1 := x2g BK198.out 1) | (go_at_call 70; (with_reducible refine (impl_PointOf.calls k a0_0 a0_1 a1 t199 t200 false _ A3.out).mono ?_); rintro e w23 ⟨rfl, hb⟩; have n0_ := z0g (y5g (g := gb198) (o := .cells #[.int .i64 a0_0, .int .i64 a0_1] 24 (0, 0)) (by (with_reducible repeat (first | refine z1g ?_ _ | refine z3g ?_ | refine z2g ?_ _)); exact BK198.out) hb); have n1_ := z0g (y6g (by repeat (first | (with_reducible first | exact HB.out | apply z4g | apply z5g | apply z6g | refine z7g ?_ GE198.out) | exact HB.out)) hb); clear BK198; clear HB; have BK198 := n0_; have HB := n1_; clear n0_ n1_; (try clear hb)))
  repeat (go_quiet (fail); try go_wp2_with (first | ((with_reducible refine gate_dst (N := 2) rfl ?_); refine box_event ?hg (N := 2) ?hd (cs := #[.int .i64 a0_0, .int .i64 a0_1]) (t := 24) ?hr ?_; (case hd => rfl); (case hg => rfl); (case hr => first | (go_simp; done) | (go_simp; rfl)); intro gb198 hg w21 hbox hb; have n0_ := z0g (y6g (by repeat (first | (with_reducible first | exact HB.out | apply z4g | apply z5g | apply z6g) | exact HB.out)) hb); have n1_ := z0g (hbox); have n2_ := z0g ((by rw [hg]; exact (y7g (by repeat (first | (with_reducible first | exact HB.out | apply z4g | apply z5g | apply z6g) | exact HB.out))) : w.heap.size ≤ gb198)); have n3_ := z0g ((by rw [hg]; exact (y7g (by repeat (first | (with_reducible first | exact HB.out | apply z4g | apply z5g | apply z6g) | exact HB.out))) : w.heap.size ≤ gb198)); clear HB; have HB := n0_; have BK198 := n1_; have GW198 := n2_; have GE198 := n3_; clear n0_ n1_ n2_ n3_; clear hb hbox hg; have hcz22_0 : w21.cell? ⟨gb198, 0, none⟩ = some (.int .i64 a0_0) := (x3g BK198.out 0).trans rfl; have hcz22_1 : w21.cell? ⟨gb198, 1, none⟩ = some (.int .i64 a0_1) := (x3g BK198.out 1).trans rfl; have hfz22_0 := x2g BK198.out 0; have hfz22_1 := x2g BK198.out 1) | (go_at_call 70; (with_reducible refine (impl_PointOf.calls k a0_0 a0_1 a1 t199 t200 false _ A3.out).mono ?_); rintro e w23 ⟨rfl, hb⟩; have n0_ := z0g (y5g (g := gb198) (o := .cells #[.int .i64 a0_0, .int .i64 a0_1] 24 (0, 0)) (by (with_reducible repeat (first | refine z1g ?_ _ | refine z3g ?_ | refine z2g ?_ _)); exact BK198.out) hb); have n1_ := z0g (y6g (by repeat (first | (with_reducible first | exact HB.out | apply z4g | apply z5g | apply z6g | refine z7g ?_ GE198.out) | exact HB.out)) hb); clear BK198; clear HB; have BK198 := n0_; have HB := n1_; clear n0_ n1_; (try clear hb))))
  go_ret
  exact ⟨by first | rfl | (simp [errW_none, errW_some] <;> rfl) | (simp [*, errW_none, errW_some] <;> rfl), by repeat (first | (with_reducible first | exact HB.out | apply z4g | apply z5g | apply z6g | refine z7g ?_ GE198.out) | exact HB.out)⟩

def impl_SpotRanks_1.f (a0 : Int) (a1 : Int) (l2 : List Int) : Option (Int) := if 0 ≤ a0 then (if a0 < (l2.length : Int) then (if 0 ≤ a1 then (if a1 < (l2.length : Int) then (some (wrap64 ((rd l2 a0) - (rd l2 a1)))) else (none)) else (none)) else (none)) else (none)
set_option maxHeartbeats 8000000 in
set_option maxRecDepth 100000 in
theorem impl_SpotRanks_1.calls {g2_ : Nat} (a0 : Int) (a1 : Int) (A2 : Option Addr) (c2 : Nat) (l2 : List Int) (r : Int) (w : World) (hr2 : Kd.C (Kd.int .i64) w A2 l2.length l2) (hc2 : l2.length ≤ c2) (hb2_ : w.heap[g2_]? = some (.cells #[.slice A2 l2.length c2] 28 (0, 0))) (h : impl_SpotRanks_1.f a0 a1 l2 = some r) :
  Calls Try.prog 57 #[.int .i64 a0, .int .i64 a1, .pointer (some ⟨g2_, 0, none⟩)] w fun e w' => e = .returned (.int .i64 r) ∧ Drawn0 w w' := by
 have hzc2_0 : w.cell? ⟨g2_, 0, none⟩ = some (.slice A2 l2.length c2) := (x3g hb2_ 0).trans rfl
 clear hb2_
 have HR2 := z0g hr2
 have HC2 := z0g hc2
 clear hr2 hc2
 have H : (if 0 ≤ a0 then (if a0 < (l2.length : Int) then (if 0 ≤ a1 then (if a1 < (l2.length : Int) then (some (wrap64 ((rd l2 a0) - (rd l2 a1)))) else (none)) else (none)) else (none)) else (none)) = some r := h
 clear h
 by_cases c4 : 0 ≤ a0
 ·rw [if_pos c4] at H
  have c4b0 : decide (0 ≤ a0) = true := decide_eq_true c4
  clear c4
  by_cases c5 : a0 < (l2.length : Int)
  ·rw [if_pos c5] at H
   have c5b0 : decide (a0 < (l2.length : Int)) = true := decide_eq_true c5
   clear c5
   by_cases c6 : 0 ≤ a1
   ·rw [if_pos c6] at H
    have c6b0 : decide (0 ≤ a1) = true := decide_eq_true c6
    clear c6
    by_cases c7 : a1 < (l2.length : Int)
    ·rw [if_pos c7] at H
     have c7b0 : decide (a1 < (l2.length : Int)) = true := decide_eq_true c7
     clear c7
     obtain rfl := Option.some.inj H
     have p205 : 0 ≤ (a0 : Int) := of_decide_eq_true (by first | (with_reducible assumption) | assumption)
     have q205 : a0 < (l2.length : Int) := of_decide_eq_true (by first | (with_reducible assumption) | assumption)
     obtain ⟨ad205, e205, hx205_0⟩ := Kd.at_int HR2.out a0 p205 q205
     cases e205
     replace p205 := eq_true p205
     replace q205 := eq_true q205
     have p206 : 0 ≤ (a1 : Int) := of_decide_eq_true (by first | (with_reducible assumption) | assumption)
     have q206 : a1 < (l2.length : Int) := of_decide_eq_true (by first | (with_reducible assumption) | assumption)
     obtain ⟨ad206, e206, hx206_0⟩ := Kd.at_int HR2.out a1 p206 q206
     obtain rfl : ad205 = ad206 := (by injection e206)
     replace p206 := eq_true p206
     replace q206 := eq_true q206
     go_enter Try.func57, Try.ntmps57
     go_wp2
     repeat (go_quiet (fail); try go_wp2)
     go_ret
     exact ⟨by first | rfl | (simp; done) | (simp [*]; done), by repeat (first | exact Drawn0.refl _ | apply Drawn0.step)⟩
    ·rw [if_neg c7] at H
     exact absurd H (by simp)
   ·rw [if_neg c6] at H
    exact absurd H (by simp)
  ·rw [if_neg c5] at H
   exact absurd H (by simp)
 ·rw [if_neg c4] at H
  exact absurd H (by simp)

def impl_SpotRanks_1.sort.f (k : Nat) (l0 : List Int) (l2 : List Int) : Option (List Int) := slices_SortStableFunc_int_int.f (fun x y => impl_SpotRanks_1.f x y l2) k l0 0
theorem impl_SpotRanks_1.sort.calls {g2_ : Nat} (k : Nat) (P0_ : Nat → Prop) (u9000_ : Value) (l0 : List Int) (A2 : Option Addr) (c2 : Nat) (l2 : List Int) (r : List Int) (w0 w : World) (hB : Below w0.heap.size w0 w) (ho0 : Kd.R (Kd.int .i64) 3 w w0.heap.size P0_ u9000_ l0) (hr2 : ∀ W_, Kept w W_ (fun k_ => P0_ k_) → Kd.C (Kd.int .i64) W_ A2 l2.length l2) (hc2 : l2.length ≤ c2) (hb2_ : w.heap[g2_]? = some (.cells #[.slice A2 l2.length c2] 28 (0, 0))) (h : impl_SpotRanks_1.sort.f k l0 l2 = some r) :
  Calls Try.prog 49 #[u9000_, .func (.func 57) #[] #[.pointer (some ⟨g2_, 0, none⟩)]] w fun e w' => e = .returned (.tuple #[]) ∧ Kd.R (Kd.int .i64) 3 w' w0.heap.size (fun k_ => (P0_ k_ ∨ w.heap.size ≤ k_)) u9000_ r ∧ Below w0.heap.size w0 w' ∧ Kept w w' (fun k_ => P0_ k_) := by
 have hne := x9g ho0 hb2_ (by decide)
 have own : ∀ k_, some k_ = u9000_.ownBlock → P0_ k_ := fun k_ e_ => ho0.1 k_ e_.symm
 have ho1 : Kd.R (Kd.int .i64) 3 w w0.heap.size (fun k_ => some k_ = u9000_.ownBlock) u9000_ l0 := Kd.R_tight rfl ho0
 refine (slices_SortStableFunc_int_int.calls (fun x y => impl_SpotRanks_1.f x y l2) 57 #[.pointer (some ⟨g2_, 0, none⟩)] k (fun k_ => some k_ = u9000_.ownBlock) u9000_ l0 0 r w0 w hB ho1 (enters_ Try.func57 (by kernel_rfl) rfl) (fun x y q W hk hq => Ext.calls_app (by simp) ((impl_SpotRanks_1.calls x y A2 c2 l2 q W (hr2 W (Kept.mono hk own)) hc2 ((hk.2 g2_ (blk_lt hb2_) hne).trans hb2_) hq).mono fun e w' he => ⟨he.1, he.2.below⟩)) h).mono ?_
 rintro e w' ⟨he, hR, hB', hK⟩
 exact ⟨he, x6g hR (fun k_ hk => Or.imp_left (own k_) hk), hB', Kept.mono hK own⟩

abbrev impl_SpotRanks_1.V.f := @impl_SpotRanks_1.f
set_option linter.defProp false in
def impl_SpotRanks_1.V.calls := @impl_SpotRanks_1.calls

mutual
def impl_SpotRanks.l0 : Nat → List Int → Int → Int → Int → Int → List Int → Option (List Int)
 | 0, _, _, _, _, _, _ => none
 | k + 1, x3, x15, x16, x208000, x208001, x216000 => if x16 < x15 then (if x3.length < 17592186044416 then ((impl_NearOf.f k x208000 x208001 x16).bind fun t220 => (if x216000.length < 17592186044416 then (impl_SpotRanks.l0 k (x3 ++ [x16]) x15 (wrap64 (x16 + 1)) x208000 x208001 (x216000 ++ [t220])) else (none))) else (none)) else ((impl_SpotRanks_1.sort.f k x3 x216000).bind fun t224 => (if 0 ≤ (x3.length : Int) then (if ((x3.length : Int) : Int).toNat ≤ 35184372088832 then (impl_SpotRanks.l1 k (List.replicate ((x3.length : Int) : Int).toNat 0) t224 (x3.length : Int) 0) else (none)) else (none)))
def impl_SpotRanks.l1 : Nat → List Int → List Int → Int → Int → Option (List Int)
 | 0, _, _, _, _ => none
 | k + 1, x6, x36, x37, x38 => if x38 < x37 then (if 0 ≤ x38 then (if x38 < (x36.length : Int) then (if 0 ≤ (rd x36 x38) then (if (rd x36 x38) < (x6.length : Int) then (impl_SpotRanks.l1 k (x6.set ((rd x36 x38) : Int).toNat x38) x36 x37 (wrap64 (x38 + 1))) else (none)) else (none)) else (none)) else (none)) else (some x6)
end
def impl_SpotRanks.f (k : Nat) (a0_0 : Int) (a0_1 : Int) : Option (List Int) := (impl_IsLattice.f a0_0 a0_1).bind fun t208 => (if t208 = true then ((impl_area.f a0_0 a0_1).bind fun t216 => (impl_SpotRanks.l0 k (([] : List Int)) t216 0 a0_0 a0_1 (([] : List Int)))) else (some ([] : List Int)))
def impl_SpotRanks.T7 : Bool × List (List Nat × List Nat) := (true, [([], []), ([], []), ([1], [1]), ([0, 2], [0, 2]), ([], []), ([], []), ([], []), ([5, 6, 3], [5, 6]), ([7], [7]), ([4, 8, 7], [4, 8]), ([3, 9, 0, 1, 2, 3], [0, 3]), ([9, 10, 0, 1, 2, 3, 4, 5, 6, 7, 8, 9, 10], [9])])
def impl_SpotRanks.B7 : List Nat := [0, 0, 2, 7, 0, 0, 0, 111, 239, 511, 1023, 2047]
theorem impl_SpotRanks.tab7 : rtab .any (opsOf Try.f21 7) = impl_SpotRanks.T7 := by kernel_rfl
theorem impl_SpotRanks.bits7 : waitsOk impl_SpotRanks.T7.2 impl_SpotRanks.B7 = true := by kernel_rfl
set_option maxHeartbeats 8000000 in
set_option maxRecDepth 100000 in
theorem impl_SpotRanks.calls (k : Nat) (a0_0 : Int) (a0_1 : Int) (r : List Int) (w : World) (h : impl_SpotRanks.f k a0_0 a0_1 = some r) :
  Calls Try.prog 21 #[.agg #[.int .i64 a0_0, .int .i64 a0_1]] w fun e w' => ∃ v0_ : Value, e = .returned (v0_) ∧ Kd.R (Kd.int .i64) 3 w' w.heap.size (fun _ => True) v0_ r ∧ Below w.heap.size w w' := by
 have hu24 := Try.underlying24
 have HB := z0g (Below.refl w.heap.size w)
 have H : ((impl_IsLattice.f a0_0 a0_1).bind fun t208 => (if t208 = true then ((impl_area.f a0_0 a0_1).bind fun t216 => (impl_SpotRanks.l0 k (([] : List Int)) t216 0 a0_0 a0_1 (([] : List Int)))) else (some ([] : List Int)))) = some r := h
 clear h
 replace H := Option.bind_eq_some_iff.mp H
 obtain ⟨t208, A20, H⟩ := H
 replace H : (if t208 = true then ((impl_area.f a0_0 a0_1).bind fun t216 => (impl_SpotRanks.l0 k (([] : List Int)) t216 0 a0_0 a0_1 (([] : List Int)))) else (some ([] : List Int))) = some r := H
 have A2 := z0g A20
 clear A20
 by_cases c3 : t208 = true
 ·subst c3
  have H1 : ((impl_area.f a0_0 a0_1).bind fun t216 => (impl_SpotRanks.l0 k (([] : List Int)) t216 0 a0_0 a0_1 (([] : List Int)))) = some r := by rw [if_pos rfl] at H; first | exact H | (simp only [if_true] at H ⊢; exact H)
  clear H
  have H := H1
  clear H1
  obtain ⟨y209, hy209⟩ : ∃ y_ : List Int, y_ = (([] : List Int)) := ⟨_, rfl⟩
  replace H : ((impl_area.f a0_0 a0_1).bind fun t216 => (impl_SpotRanks.l0 k y209 t216 0 a0_0 a0_1 (([] : List Int)))) = some r := by first | (rw [hy209]; with_reducible exact H) | (have H2_ := (Option.bind_some _ _).symm.trans H; rw [hy209]; with_reducible exact H2_) | (have H2_ := (Option.bind_some _ _).symm.trans H; with_reducible exact H2_) | with_reducible exact H | (rw [hy209]; exact H) | exact H
  have Ny209 := z0g hy209
  clear hy209
  obtain ⟨y212, hy212⟩ : ∃ y_ : List Int, y_ = (([] : List Int)) := ⟨_, rfl⟩
  replace H : ((impl_area.f a0_0 a0_1).bind fun t216 => (impl_SpotRanks.l0 k y209 t216 0 a0_0 a0_1 y212)) = some r := by first | (rw [hy212]; with_reducible exact H) | (have H2_ := (Option.bind_some _ _).symm.trans H; rw [hy212]; with_reducible exact H2_) | (have H2_ := (Option.bind_some _ _).symm.trans H; with_reducible exact H2_) | with_reducible exact H | (rw [hy212]; exact H) | exact H
  have Ny212 := z0g hy212
  clear hy212
  replace H := Option.bind_eq_some_iff.mp H
  obtain ⟨t216, A40, H⟩ := H
  replace H : (impl_SpotRanks.l0 k y209 t216 0 a0_0 a0_1 y212) = some r := H
  have A4 := z0g A40
  clear A40
  have H' := z0g H
  clear H
  go_enter Try.func21, Try.ntmps21
  go_wp2_with (first | ((with_reducible refine gate_dst (N := 1) rfl ?_); refine box_event ?hg (N := 1) ?hd (cs := #[.int .i64 a0_0, .int .i64 a0_1]) (t := 24) ?hr ?_; (case hd => rfl); (case hg => rfl); (case hr => first | (go_simp; done) | (go_simp; rfl)); intro gb207 hg w5 hbox hb; have n0_ := z0g (y6g (by repeat (first | (with_reducible first | exact HB.out | apply z4g | apply z5g | apply z6g) | exact HB.out)) hb); have n1_ := z0g (hbox); have n2_ := z0g ((by rw [hg]; exact (y7g (by repeat (first | (with_reducible first | exact HB.out | apply z4g | apply z5g | apply z6g) | exact HB.out))) : w.heap.size ≤ gb207)); have n3_ := z0g ((by rw [hg]; exact (y7g (by repeat (first | (with_reducible first | exact HB.out | apply z4g | apply z5g | apply z6g) | exact HB.out))) : w.heap.size ≤ gb207)); clear HB; have HB := n0_; have BK207 := n1_; have GW207 := n2_; have GE207 := n3_; clear n0_ n1_ n2_ n3_; clear hb hbox hg; have hcz6_0 : w5.cell? ⟨gb207, 0, none⟩ = some (.int .i64 a0_0) := (x3g BK207.out 0).trans rfl; have hcz6_1 : w5.cell? ⟨gb207, 1, none⟩ = some (.int .i64 a0_1) := (x3g BK207.out 1).trans rfl; have hfz6_0 := x2g BK207.out 0; have hfz6_1 := x2g BK207.out 1) | ((with_reducible refine gate_callee (f := 38) rfl ?_); refine goesL_ (some 10) rfl rfl Try.func38 (by kernel_rfl) rfl #[.agg #[.int .i64 a0_0, .int .i64 a0_1]] rfl (by (try simp only [List.map_toArray, List.map_cons, List.map_nil]); first | done | rfl | (simp only [List.length_drop, List.length_take]; rfl)) ?_; (with_reducible refine (impl_IsLattice.calls a0_0 a0_1 true _ A2.out).mono ?_); rintro e w7 ⟨rfl, hb⟩; refine ⟨_, rfl, ?_⟩; have n0_ := z0g (y5g (g := gb207) (o := .cells #[.int .i64 a0_0, .int .i64 a0_1] 24 (0, 0)) (by (with_reducible repeat (first | refine z1g ?_ _ | refine z3g ?_ | refine z2g ?_ _)); exact BK207.out) hb); have n1_ := z0g (y6g (by repeat (first | (with_reducible first | exact HB.out | apply z4g | apply z5g | apply z6g | refine z7g ?_ GE207.out) | exact HB.out)) hb); clear BK207; clear HB; have BK207 := n0_; have HB := n1_; clear n0_ n1_; (try clear hb)) | ((with_reducible refine gate_dst (N := 12) rfl ?_); refine Kd.R_lit (Kd.int .i64) _ 3 ?hg (N := 12) ?hd (xs := ([] : List Int)) (inner := []) (ok := fun _ => True) (okp := fun _ => True) ?hr ?hp (fun _ hk => hk) trivial (Below.refl _ _) (Nat.le_refl _) (by simp) ?_; (case hd => rfl); (case hg => rfl); (case hr => first | (go_simp; done) | (go_simp; rfl)); (case hp => exact (Reps.none _ _)); intro v210 w8 ho9 hb hg_ hnew_; clear hg_ hnew_; (first | rw [← Ny209.out] at ho9 | (simp only [Int.reduceToNat] at ho9; rw [← Ny209.out] at ho9)); have n0_ := z0g (Kd.R_lower ho9 (y7g (by repeat (first | (with_reducible first | exact HB.out | apply z4g | apply z5g | apply z6g | refine z7g ?_ GE207.out) | exact HB.out)))); have n1_ := z0g (y5g (g := gb207) (o := .cells #[.int .i64 a0_0, .int .i64 a0_1] 24 (0, 0)) (by (with_reducible repeat (first | refine z1g ?_ _ | refine z3g ?_ | refine z2g ?_ _)); exact BK207.out) hb); have n2_ := z0g (y6g (by repeat (first | (with_reducible first | exact HB.out | apply z4g | apply z5g | apply z6g | refine z7g ?_ GE207.out) | exact HB.out)) hb); clear BK207; clear HB; have HO211 := n0_; have BK207 := n1_; have HB := n2_; clear n0_ n1_ n2_; clear hb ho9) | ((with_reducible refine gate_dst (N := 13) rfl ?_); refine Kd.R_lit (Kd.int .i64) _ 3 ?hg (N := 13) ?hd (xs := ([] : List Int)) (inner := []) (ok := fun _ => True) (okp := fun _ => True) ?hr ?hp (fun _ hk => hk) trivial (Below.refl _ _) (Nat.le_refl _) (by simp) ?_; (case hd => rfl); (case hg => rfl); (case hr => first | (go_simp; done) | (go_simp; rfl)); (case hp => exact (Reps.none _ _)); intro v213 w10 ho11 hb hg_ hnew_; clear hg_ hnew_; (first | rw [← Ny212.out] at ho11 | (simp only [Int.reduceToNat] at ho11; rw [← Ny212.out] at ho11)); have n0_ := z0g (Kd.R_elder' (by (with_reducible repeat (first | apply z8g | apply z9g | apply y1g)); exact HO211.out) (Kd.R_base ho11) hb); have n1_ := z0g (Kd.R_lower (Kd.R_new' ho11 (Kd.R_lt (by (with_reducible repeat (first | apply z8g | apply z9g | apply y1g)); exact HO211.out))) (y7g (by repeat (first | (with_reducible first | exact HB.out | apply z4g | apply z5g | apply z6g | refine z7g ?_ GE207.out) | exact HB.out)))); have n2_ := z0g (y5g (g := gb207) (o := .cells #[.int .i64 a0_0, .int .i64 a0_1] 24 (0, 0)) (by (with_reducible repeat (first | refine z1g ?_ _ | refine z3g ?_ | refine z2g ?_ _)); exact BK207.out) hb); have n3_ := z0g (y6g (by repeat (first | (with_reducible first | exact HB.out | apply z4g | apply z5g | apply z6g | refine z7g ?_ GE207.out) | exact HB.out)) hb); clear HO211; clear BK207; clear HB; have HO211 := n0_; have HO214 := n1_; have BK207 := n2_; have HB := n3_; clear n0_ n1_ n2_ n3_; clear hb ho11) | ((with_reducible refine gate_dst (N := 4) rfl ?_); refine box_event ?hg (N := 4) ?hd (cs := #[.slice none 0 0]) (t := 28) ?hr ?_; (case hd => rfl); (case hg => rfl); (case hr => first | (go_simp; done) | (go_simp; rfl)); intro gb215 hg w12 hbox hb; have n0_ := z0g (Kd.R_below (by (with_reducible repeat (first | apply z8g | apply z9g | apply y1g)); exact HO211.out) hb); have n1_ := z0g (Kd.R_below (by (with_reducible repeat (first | apply z8g | apply z9g | apply y1g)); exact HO214.out) hb); have n2_ := z0g (y5g (g := gb207) (o := .cells #[.int .i64 a0_0, .int .i64 a0_1] 24 (0, 0)) (by (with_reducible repeat (first | refine z1g ?_ _ | refine z3g ?_ | refine z2g ?_ _)); exact BK207.out) hb); have n3_ := z0g (y6g (by repeat (first | (with_reducible first | exact HB.out | apply z4g | apply z5g | apply z6g | refine z7g ?_ GE207.out) | exact HB.out)) hb); have n4_ := z0g (hbox); have n5_ := z0g ((by rw [hg]; exact (y7g (by repeat (first | (with_reducible first | exact HB.out | apply z4g | apply z5g | apply z6g | refine z7g ?_ GE207.out) | exact HB.out))) : w.heap.size ≤ gb215)); have n6_ := z0g ((by rw [hg]; exact (y7g (by repeat (first | (with_reducible first | exact HB.out | apply z4g | apply z5g | apply z6g | refine z7g ?_ GE207.out) | exact HB.out))) : w.heap.size ≤ gb215)); have n7_ := z0g ((by rw [hg]; exact Nat.ne_of_lt (blk_lt (g := gb207) (o := .cells #[.int .i64 a0_0, .int .i64 a0_1] 24 (0, 0)) (by (with_reducible repeat (first | refine z1g ?_ _ | refine z3g ?_ | refine z2g ?_ _)); exact BK207.out)) : gb207 ≠ gb215)); have n8_ := z0g ((by rw [hg]; exact Nat.ne_of_gt (blk_lt (g := gb207) (o := .cells #[.int .i64 a0_0, .int .i64 a0_1] 24 (0, 0)) (by (with_reducible repeat (first | refine z1g ?_ _ | refine z3g ?_ | refine z2g ?_ _)); exact BK207.out)) : gb215 ≠ gb207)); clear HO211; clear HO214; clear BK207; clear HB; have HO211 := n0_; have HO214 := n1_; have BK207 := n2_; have HB := n3_; have BK215 := n4_; have GW215 := n5_; have GE215 := n6_; have NB207_215 := n7_; have NB215_207 := n8_; clear n0_ n1_ n2_ n3_ n4_ n5_ n6_ n7_ n8_; clear hb hbox hg; obtain ⟨Ao13, co13, eo13⟩ := Kd.R_slice HO214.out; subst eo13; have hnb14 := NB215_207.out; have hnc14 := NB207_215.out; have hcz15_0 : w12.cell? ⟨gb215, 0, none⟩ = some (.slice none 0 0) := (x3g BK215.out 0).trans rfl; have hfz15_0 := x2g BK215.out 0; have hcz16_0 : w12.cell? ⟨gb207, 0, none⟩ = some (.int .i64 a0_0) := (x3g BK207.out 0).trans rfl; have hcz16_1 : w12.cell? ⟨gb207, 1, none⟩ = some (.int .i64 a0_1) := (x3g BK207.out 1).trans rfl; have hfz16_0 := x2g BK207.out 0; have hfz16_1 := x2g BK207.out 1) | ((with_reducible refine gate_callee (f := 39) rfl ?_); refine goesL_ (some 15) rfl rfl Try.func39 (by kernel_rfl) rfl #[.agg #[.int .i64 a0_0, .int .i64 a0_1]] rfl (by (try simp only [List.map_toArray, List.map_cons, List.map_nil]); first | done | rfl | (simp only [List.length_drop, List.length_take]; rfl)) ?_; (with_reducible refine (impl_area.calls a0_0 a0_1 t216 _ A4.out).mono ?_); rintro e w17 ⟨rfl, hb⟩; refine ⟨_, rfl, ?_⟩; have n0_ := z0g (Kd.R_below (by (with_reducible repeat (first | apply z8g | apply z9g | apply y1g)); exact (x6g (Kd.R_far (p := ⟨gb215, 0, none⟩) (Kd.R_types HO211.out BK215.out (by decide)) (fun _ hk => hk.2) (.slice Ao13 y212.length co13)) (fun _ h_ => h_.1))) hb); have n1_ := z0g (Kd.R_below (by (with_reducible repeat (first | apply z8g | apply z9g | apply y1g)); exact (x6g (Kd.R_far (p := ⟨gb215, 0, none⟩) (Kd.R_types HO214.out BK215.out (by decide)) (fun _ hk => hk.2) (.slice Ao13 y212.length co13)) (fun _ h_ => h_.1))) hb); have n2_ := z0g (y5g (g := gb207) (o := .cells #[.int .i64 a0_0, .int .i64 a0_1] 24 (0, 0)) (by (with_reducible repeat (first | refine z1g ?_ _ | refine z3g ?_ | refine z2g ?_ _)); refine blk_far ?_ NB207_215.out _; (with_reducible repeat (first | refine z1g ?_ _ | refine z3g ?_ | refine z2g ?_ _)); exact BK207.out) hb); have n3_ := z0g (y5g (g := gb215) (o := .cells #[.slice Ao13 y212.length co13] 28 (0, 0)) (by (with_reducible repeat (first | refine z1g ?_ _ | refine z3g ?_ | refine z2g ?_ _)); refine blk_put (cs := #[.slice none 0 0]) ?_ 0 _ rfl; (with_reducible repeat (first | refine z1g ?_ _ | refine z3g ?_ | refine z2g ?_ _)); exact BK215.out) hb); have n4_ := z0g (y6g (by repeat (first | (with_reducible first | exact HB.out | apply z4g | apply z5g | apply z6g | refine z7g ?_ GE207.out | refine z7g ?_ GE215.out) | exact HB.out)) hb); clear HO211; clear HO214; clear BK207; clear BK215; clear HB; have HO211 := n0_; have HO214 := n1_; have BK207 := n2_; have BK215 := n3_; have HB := n4_; clear n0_ n1_ n2_ n3_ n4_; (try clear hb)))
  (try simp only [Act.put, s1g_, s2g_, s3g_])
  go_loopg [3, 16] k (fun kq v3 v16 w' => ∃ (x3_1 : List Int) (x16_1 : Int) (y212 : List Int) (Ao13 : Option Addr) (co13 : Nat), v16 = .int .i64 x16_1 ∧ Aside0 (impl_SpotRanks.l0 kq x3_1 t216 x16_1 a0_0 a0_1 y212 = some r) ∧ Aside0 (kq ≤ k) ∧ Aside0 (Kd.R (Kd.int .i64) 3 w' w.heap.size (fun k_ => some k_ ≠ ((.slice Ao13 y212.length co13) : Value).ownBlock) v3 x3_1) ∧ Aside0 (Kd.R (Kd.int .i64) 3 w' w.heap.size (fun k_ => some k_ ≠ (v3 : Value).ownBlock) (.slice Ao13 y212.length co13) y212) ∧ Aside0 (w'.heap[gb207]? = some (.cells #[.int .i64 a0_0, .int .i64 a0_1] 24 (0, 0))) ∧ Aside0 (w'.heap[gb215]? = some (.cells #[(.slice Ao13 y212.length co13)] 28 (0, 0))) ∧ Aside0 (Below w.heap.size w w'))
  case atStart => exact ⟨(y209), (0), y212, Ao13, co13, (by first | rfl | (simp; done) | (simp [*]; done)), H', ⟨Nat.le_refl _⟩, ⟨by (with_reducible repeat (first | apply z8g | apply z9g | apply y1g)); exact x6g HO211.out (fun _ hk => hk.2)⟩, ⟨by (with_reducible repeat (first | apply z8g | apply z9g | apply y1g)); exact x6g HO214.out (fun _ hk => hk.2)⟩, ⟨by (with_reducible repeat (first | refine z1g ?_ _ | refine z3g ?_ | refine z2g ?_ _)); exact BK207.out⟩, ⟨by (with_reducible repeat (first | refine z1g ?_ _ | refine z3g ?_ | refine z2g ?_ _)); exact BK215.out⟩, ⟨by repeat (first | (with_reducible first | exact HB.out | apply z4g | apply z5g | apply z6g | refine z7g ?_ GE207.out | refine z7g ?_ GE215.out) | exact HB.out)⟩⟩
  case round =>
   clear H'
   try clear c1
   try clear c2
   try clear p2
   try clear c3
   try clear c14
   try clear hcz15_0
   try clear hcz16_0
   try clear hcz16_1
   try clear hcz6_0
   try clear hcz6_1
   try clear hfz15_0
   try clear hfz16_0
   try clear hfz16_1
   try clear hfz6_0
   try clear hfz6_1
   obtain ⟨x3_1, x16_1, y212, Ao13, co13, rfl, HA, HK1, HO_3, Ha_, BK207, BK215, HB⟩ := hrel
   cases gk with
   | zero => exact absurd HA.out (by simp [impl_SpotRanks.l0])
   | succ k1 =>
    have H := HA.out
    clear HA
    simp only [impl_SpotRanks.l0] at H
    by_cases c18 : x16_1 < t216
    ·rw [if_pos c18] at H
     have c18b0 : decide (x16_1 < t216) = true := decide_eq_true c18
     clear c18
     by_cases c19 : x3_1.length < 17592186044416
     ·rw [if_pos c19] at H
      have LMc19 := z0g c19
      clear c19
      obtain ⟨y217, hy217⟩ : ∃ y_ : List Int, y_ = (x3_1 ++ [x16_1]) := ⟨_, rfl⟩
      replace H : ((impl_NearOf.f k1 a0_0 a0_1 x16_1).bind fun t220 => (if y212.length < 17592186044416 then (impl_SpotRanks.l0 k1 y217 t216 (wrap64 (x16_1 + 1)) a0_0 a0_1 (y212 ++ [t220])) else (none))) = some r := by first | (rw [hy217]; with_reducible exact H) | (have H2_ := (Option.bind_some _ _).symm.trans H; rw [hy217]; with_reducible exact H2_) | (have H2_ := (Option.bind_some _ _).symm.trans H; with_reducible exact H2_) | with_reducible exact H | (rw [hy217]; exact H) | exact H
      have Ny217 := z0g hy217
      clear hy217
      replace H := Option.bind_eq_some_iff.mp H
      obtain ⟨t220, A200, H⟩ := H
      replace H : (if y212.length < 17592186044416 then (impl_SpotRanks.l0 k1 y217 t216 (wrap64 (x16_1 + 1)) a0_0 a0_1 (y212 ++ [t220])) else (none)) = some r := H
      have A20 := z0g A200
      clear A200
      by_cases c21 : y212.length < 17592186044416
      ·rw [if_pos c21] at H
       have LMc21 := z0g c21
       clear c21
       obtain ⟨y221, hy221⟩ : ∃ y_ : List Int, y_ = (y212 ++ [t220]) := ⟨_, rfl⟩
       replace H : (impl_SpotRanks.l0 k1 y217 t216 (wrap64 (x16_1 + 1)) a0_0 a0_1 y221) = some r := by first | (rw [hy221]; with_reducible exact H) | (have H2_ := (Option.bind_some _ _).symm.trans H; rw [hy221]; with_reducible exact H2_) | (have H2_ := (Option.bind_some _ _).symm.trans H; with_reducible exact H2_) | with_reducible exact H | (rw [hy221]; exact H) | exact H
       have Ny221 := z0g hy221
       clear hy221
       have H' := z0g H
       clear H
       try go_wp2
       have n0_ := z0g (y1g HO_3.out)
       have n1_ := z0g (y1g Ha_.out)
       have n2_ := z0g (z3g BK207.out)
       have n3_ := z0g (z3g BK215.out)
       have n4_ := z0g (z6g HB.out)
       clear HO_3
       clear Ha_
       clear BK207
       clear BK215
       clear HB
       have HO_3 := n0_
       have Ha_ := n1_
       have BK207 := n2_
       have BK215 := n3_
       have HB := n4_
       clear n0_ n1_ n2_ n3_ n4_
       refine start_ (n := 12) (S := fun w' => w'.cell? ⟨gb215, 0, none⟩ = some (.slice Ao13 y212.length co13) ∧ w'.cell? ⟨gb207, 0, none⟩ = some (.int .i64 a0_0) ∧ w'.cell? ⟨gb207, 1, none⟩ = some (.int .i64 a0_1)) (ds := [11]) (bsg_ 12 0) (by kernel_rfl) rfl rfl ⟨(x3g BK215.out 0).trans rfl, (x3g BK207.out 0).trans rfl, (x3g BK207.out 1).trans rfl⟩ (fun hHeld => ?_); refine with_tabW impl_SpotRanks.tab7 impl_SpotRanks.bits7 (fun HT_ HW_ => ?_)
       generalize wr.drew = w22 at HO_3 Ha_ BK207 BK215 HB hHeld ⊢
       refine pure_ (i := 0) (N := some 19) (v := ?_) (a' := ?_) (bsg_ 12 1) rfl rfl (any_of HT_.out (by kernel_rfl)) (fun _ _ _ h => h) (Or.inl ⟨by rfl, ?_⟩) ?_ ?_
       rotate_left
       ·intro w'
        go_simp
        with_reducible rfl
       rotate_left
       ·simp only [Act.put, s1g_, s2g_, s3g_, i64_w, i32_w]
        rfl
       refine pure_ (i := 1) (N := some 20) (v := ?_) (a' := ?_) (bsg_ 12 3) rfl rfl (any_of HT_.out (by kernel_rfl)) (fun _ _ _ h => h) (Or.inl ⟨by rfl, ?_⟩) ?_ ?_
       rotate_left
       ·intro w'
        go_simp
        with_reducible rfl
       rotate_left
       ·simp only [Act.put, s1g_, s2g_, s3g_, i64_w, i32_w]
        rfl
       refine pure_ (i := 6) (N := some 25) (v := ?_) (a' := ?_) (bsg_ 12 67) rfl rfl (any_of HT_.out (by kernel_rfl)) (fun _ _ _ h => h) (Or.inl ⟨by rfl, ?_⟩) ?_ ?_
       rotate_left
       ·intro w'
        go_simp
        with_reducible rfl
       rotate_left
       ·simp only [Act.put, s1g_, s2g_, s3g_, i64_w, i32_w]
        rfl
       refine take_ (i := 4) (N := some 23) (v := ?_) (a' := ?_) (bsg_ 12 83) rfl rfl (take_ofW HT_.out HW_.out (by kernel_rfl)) (fun _ _ _ h => h) (Or.inl ⟨by rfl, ?_⟩) hHeld ?_ ?_
       rotate_left
       ·rintro w' ⟨s0, s1, s2⟩
        go_simp
        with_reducible rfl
       rotate_left
       ·simp only [Act.put, s1g_, s2g_, s3g_, i64_w, i32_w]
        rfl
       refine take_ (i := 5) (N := some 24) (v := ?_) (a' := ?_) (bsg_ 12 115) rfl rfl (take_ofW HT_.out HW_.out (by kernel_rfl)) (fun _ _ _ h => h) (Or.inl ⟨by rfl, ?_⟩) hHeld ?_ ?_
       rotate_left
       ·rintro w' ⟨s0, s1, s2⟩
        go_simp
        with_reducible rfl
       rotate_left
       ·simp only [Act.put, s1g_, s2g_, s3g_, i64_w, i32_w]
        rfl
       refine one_ (i := 2) (N := some 21) (bsg_ 12 119) rfl rfl (one_of HT_.out (by kernel_rfl)) (by decide) (fun K hK => ?_)
       refine value_ (w1 := ?_) (v := ?_) (by rfl) rfl ?_ ?_
       rotate_left 2
       ·go_simp
        constructor
        ·rfl
        ·rfl
       refine hK.out _ _ ⟨(x3g (z2g BK215.out _) 0).trans rfl, (x3g (z2g BK207.out _) 0).trans rfl, (x3g (z2g BK207.out _) 1).trans rfl⟩ (fun hHeld => ?_)
       clear hK K
       refine norm_ (a' := ?_) ?_ ?_
       rotate_left
       ·show Act.put _ (some 21) _ = _
        simp only [Act.put, s1g_, s2g_, s3g_, i64_w, i32_w]
        rfl
       refine one_ (i := 3) (N := some 22) (bsg_ 12 127) rfl rfl (one_of HT_.out (by kernel_rfl)) (by decide) (fun K hK => ?_)
       refine Kd.R_append_step (Kd.int .i64) (w0 := w) w.heap.size (by rfl) (.tmp 19) (.tmp 21) 28 3 (.int .i64 0) 8 rfl Try.underlying28 info3 rfl (by decide) (by omega) u3 x3_1 x16_1 [.int .i64 x16_1] (fun k_ => some k_ ≠ (.slice Ao13 y212.length co13 : Value).ownBlock) (fun _ => False) rfl rfl ?aP (fun _ hk => hk.elim) ?aF ?aO ?aB ?aS ?aL ?_
       (case aP => exact rfl)
       (case aB => exact (by repeat (first | (with_reducible first | exact HB.out | apply z4g | apply z5g | apply z6g | refine z7g ?_ GE207.out | refine z7g ?_ GE215.out) | exact HB.out)))
       (case aF => exact (fun k_ hk => Kd.fresh' (Kd.R_lt (by (with_reducible repeat (first | apply z8g | apply z9g | apply y1g)); exact Ha_.out)) k_ hk))
       (case aO => exact (by (with_reducible repeat (first | apply z8g | apply z9g | apply y1g)); exact HO_3.out))
       (case aS => exact (y7g (by repeat (first | (with_reducible first | exact HB.out | apply z4g | apply z5g | apply z6g | refine z7g ?_ GE207.out | refine z7g ?_ GE215.out) | exact HB.out))))
       (case aL => have := LMc19.out; omega)
       intro v218 w23 ho hb hg hat
       rw [← Ny217.out] at ho
       have n0_ := z0g (Kd.R_after (ok := (fun _ => True)) (by (with_reducible repeat (first | apply z8g | apply z9g | apply y1g)); exact x6g Ha_.out (fun _ hk => ⟨trivial, hk⟩)) hg hat)
       have n1_ := z0g (blk_grown (g := gb207) (o := .cells #[.int .i64 a0_0, .int .i64 a0_1] 24 (0, 0)) (by (with_reducible repeat (first | refine z1g ?_ _ | refine z3g ?_ | refine z2g ?_ _)); exact BK207.out) hg (x9g HO_3.out BK207.out (by decide)))
       have n2_ := z0g (blk_grown (g := gb215) (o := .cells #[.slice Ao13 y212.length co13] 28 (0, 0)) (by (with_reducible repeat (first | refine z1g ?_ _ | refine z3g ?_ | refine z2g ?_ _)); exact BK215.out) hg (x9g HO_3.out BK215.out (by decide)))
       have n3_ := z0g (hb)
       have n4_ := z0g (ho)
       clear Ha_
       clear BK207
       clear BK215
       clear HB
       clear HO_3
       have Ha_ := n0_
       have BK207 := n1_
       have BK215 := n2_
       have HB := n3_
       have HO219 := n4_
       clear n0_ n1_ n2_ n3_ n4_
       clear ho hb hg hat
       refine hK.out _ _ ⟨(x3g BK215.out 0).trans rfl, (x3g BK207.out 0).trans rfl, (x3g BK207.out 1).trans rfl⟩ (fun hHeld => ?_)
       clear hK K
       refine norm_ (a' := ?_) ?_ ?_
       rotate_left
       ·show Act.put _ (some 22) _ = _
        simp only [Act.put, s1g_, s2g_, s3g_, i64_w, i32_w]
        rfl
       refine one_ (i := 7) (N := some 26) (bsg_ 12 255) rfl rfl (one_of HT_.out (by kernel_rfl)) (by decide) (fun K hK => ?_)
       refine goes_ Try.func56 (by kernel_rfl) rfl #[.agg #[.int .i64 a0_0, .int .i64 a0_1], .int .i64 x16_1] (by rfl) rfl rfl (by (try simp only [List.map_toArray, List.map_cons, List.map_nil]); first | done | rfl | (simp only [List.length_drop, List.length_take]; rfl)) ?_
       with_reducible refine (impl_NearOf.calls k1 a0_0 a0_1 x16_1 t220 _ A20.out).mono ?_
       rintro e w24 ⟨rfl, hb⟩
       refine ⟨_, rfl, ?_⟩
       have n0_ := z0g (Kd.R_below (by (with_reducible repeat (first | apply z8g | apply z9g | apply y1g)); exact Ha_.out) hb)
       have n1_ := z0g (Kd.R_below (by (with_reducible repeat (first | apply z8g | apply z9g | apply y1g)); exact HO219.out) hb)
       have n2_ := z0g (y5g (g := gb207) (o := .cells #[.int .i64 a0_0, .int .i64 a0_1] 24 (0, 0)) (by (with_reducible repeat (first | refine z1g ?_ _ | refine z3g ?_ | refine z2g ?_ _)); exact BK207.out) hb)
       have n3_ := z0g (y5g (g := gb215) (o := .cells #[.slice Ao13 y212.length co13] 28 (0, 0)) (by (with_reducible repeat (first | refine z1g ?_ _ | refine z3g ?_ | refine z2g ?_ _)); exact BK215.out) hb)
       have n4_ := z0g (y6g (by repeat (first | (with_reducible first | exact HB.out | apply z4g | apply z5g | apply z6g | refine z7g ?_ GE207.out | refine z7g ?_ GE215.out) | exact HB.out)) hb)
       clear Ha_
       clear HO219
       clear BK207
       clear BK215
       clear HB
       have Ha_ := n0_
       have HO219 := n1_
       have BK207 := n2_
       have BK215 := n3_
       have HB := n4_
       clear n0_ n1_ n2_ n3_ n4_
       (try clear hb)
       (try clear hb2)
       (try clear hk)
       (try clear hi)
       refine hK.out _ _ ⟨(x3g BK215.out 0).trans rfl, (x3g BK207.out 0).trans rfl, (x3g BK207.out 1).trans rfl⟩ (fun hHeld => ?_)
       clear hK K
       refine norm_ (a' := ?_) ?_ ?_
       rotate_left
       ·show Act.put _ (some 26) _ = _
        simp only [Act.put, s1g_, s2g_, s3g_, i64_w, i32_w]
        rfl
       refine one_ (i := 8) (N := some 27) (bsg_ 12 511) rfl rfl (one_of HT_.out (by kernel_rfl)) (by decide) (fun K hK => ?_)
       refine value_ (w1 := ?_) (v := ?_) (by rfl) rfl ?_ ?_
       rotate_left 2
       ·go_simp
        constructor
        ·rfl
        ·rfl
       refine hK.out _ _ ⟨(x3g (z2g BK215.out _) 0).trans rfl, (x3g (z2g BK207.out _) 0).trans rfl, (x3g (z2g BK207.out _) 1).trans rfl⟩ (fun hHeld => ?_)
       clear hK K
       refine norm_ (a' := ?_) ?_ ?_
       rotate_left
       ·show Act.put _ (some 27) _ = _
        simp only [Act.put, s1g_, s2g_, s3g_, i64_w, i32_w]
        rfl
       refine one_ (i := 9) (N := some 28) (bsg_ 12 1023) rfl rfl (one_of HT_.out (by kernel_rfl)) (by decide) (fun K hK => ?_)
       refine Kd.R_append_step (Kd.int .i64) (w0 := w) w.heap.size (by rfl) (.tmp 23) (.tmp 27) 28 3 (.int .i64 0) 8 rfl Try.underlying28 info3 rfl (by decide) (by omega) (.slice Ao13 y212.length co13) y212 t220 [.int .i64 t220] (fun k_ => some k_ ≠ (v218 : Value).ownBlock) (fun _ => False) rfl rfl ?aP (fun _ hk => hk.elim) ?aF ?aO ?aB ?aS ?aL ?_
       (case aP => exact rfl)
       (case aB => exact (by repeat (first | (with_reducible first | exact HB.out | apply z4g | apply z5g | apply z6g | refine z7g ?_ GE207.out | refine z7g ?_ GE215.out) | exact HB.out)))
       (case aF => exact (fun k_ hk => Kd.fresh' (Kd.R_lt (by (with_reducible repeat (first | apply z8g | apply z9g | apply y1g)); exact HO219.out)) k_ hk))
       (case aO => exact (by (with_reducible repeat (first | apply z8g | apply z9g | apply y1g)); exact x6g Ha_.out (fun _ hk => hk.2)))
       (case aS => exact (y7g (by repeat (first | (with_reducible first | exact HB.out | apply z4g | apply z5g | apply z6g | refine z7g ?_ GE207.out | refine z7g ?_ GE215.out) | exact HB.out))))
       (case aL => have := LMc21.out; omega)
       intro v222 w25 ho hb hg hat
       rw [← Ny221.out] at ho
       have n0_ := z0g (blk_grown (g := gb207) (o := .cells #[.int .i64 a0_0, .int .i64 a0_1] 24 (0, 0)) (by (with_reducible repeat (first | refine z1g ?_ _ | refine z3g ?_ | refine z2g ?_ _)); exact BK207.out) hg (x9g Ha_.out BK207.out (by decide)))
       have n1_ := z0g (blk_grown (g := gb215) (o := .cells #[.slice Ao13 y212.length co13] 28 (0, 0)) (by (with_reducible repeat (first | refine z1g ?_ _ | refine z3g ?_ | refine z2g ?_ _)); exact BK215.out) hg (x9g Ha_.out BK215.out (by decide)))
       have n2_ := z0g (Kd.R_after (ok := (fun _ => True)) (by (with_reducible repeat (first | apply z8g | apply z9g | apply y1g)); exact x6g HO219.out (fun _ hk => ⟨trivial, hk⟩)) hg hat)
       have n3_ := z0g (hb)
       have n4_ := z0g (ho)
       clear BK207
       clear BK215
       clear HO219
       clear HB
       clear Ha_
       have BK207 := n0_
       have BK215 := n1_
       have HO219 := n2_
       have HB := n3_
       have HO223 := n4_
       clear n0_ n1_ n2_ n3_ n4_
       clear ho hb hg hat
       obtain ⟨Ao26, co26, eo26⟩ := Kd.R_slice HO223.out
       (first | subst eo26 | (injection eo26 with f1_ f2_ f3_; have f4_ := f1_.symm; have f5_ := f3_.symm; clear f1_ f2_ f3_; subst f4_; subst f5_))
       refine hK.out _ _ ⟨(x3g BK215.out 0).trans rfl, (x3g BK207.out 0).trans rfl, (x3g BK207.out 1).trans rfl⟩ (fun hHeld => ?_)
       clear hK K
       refine norm_ (a' := ?_) ?_ ?_
       rotate_left
       ·show Act.put _ (some 28) _ = _
        simp only [Act.put, s1g_, s2g_, s3g_, i64_w, i32_w]
        rfl
       refine pure_ (i := 10) (N := some 3) (v := ?_) (a' := ?_) (bsg_ 12 2047) rfl rfl (any_of HT_.out (by kernel_rfl)) (fun _ _ _ h => h) (Or.inl ⟨by rfl, ?_⟩) ?_ ?_
       rotate_left
       ·intro w'
        go_simp
        with_reducible rfl
       rotate_left
       ·simp only [Act.put, s1g_, s2g_, s3g_, i64_w, i32_w]
        rfl
       refine last_ (i := 11) (N := none) (bsg_ 12 4095) rfl rfl (one_of HT_.out (by kernel_rfl)) (by decide) (fun K hK => ?_)
       have hs27 : w25.cell? ⟨gb215, 0, none⟩ = some (.slice Ao13 y212.length co13) := (x3g BK215.out 0).trans rfl
       have hfs27 := x2g BK215.out 0
       have hns27_0 := NB207_215.out
       have hms27_0 := NB215_207.out
       refine skip_ (w1 := ?_) (by rfl) rfl ?_ ?_
       rotate_left
       ·go_simp
        rfl
       refine hK.out _ _ ?_
       clear hK K
       refine done_ (done_of HT_.out (by kernel_rfl)) ?_
       try go_wp2
       go_roundg k1
       case measure => have := HK1.out; omega
       case rel => exact ⟨(y217), (wrap64 (x16_1 + 1)), y221, Ao26, co26, (by first | rfl | (simp; done) | (simp [*]; done)), H', ⟨by have := HK1.out; omega⟩, ⟨by (with_reducible repeat (first | apply z8g | apply z9g | apply y1g)); exact x6g (Kd.R_far (p := ⟨gb215, 0, none⟩) (Kd.R_types HO219.out BK215.out (by decide)) (fun _ hk => hk.2) (.slice Ao26 y221.length co26)) (fun _ hk => hk.1.2)⟩, ⟨by (with_reducible repeat (first | apply z8g | apply z9g | apply y1g)); exact x6g (Kd.R_far (p := ⟨gb215, 0, none⟩) (Kd.R_types HO223.out BK215.out (by decide)) (fun _ hk => hk.2) (.slice Ao26 y221.length co26)) (fun _ hk => hk.1)⟩, ⟨by (with_reducible repeat (first | refine z1g ?_ _ | refine z3g ?_ | refine z2g ?_ _)); refine blk_far ?_ NB207_215.out _; (with_reducible repeat (first | refine z1g ?_ _ | refine z3g ?_ | refine z2g ?_ _)); exact BK207.out⟩, ⟨by (with_reducible repeat (first | refine z1g ?_ _ | refine z3g ?_ | refine z2g ?_ _)); refine blk_put (cs := #[.slice Ao13 y212.length co13]) ?_ 0 _ rfl; (with_reducible repeat (first | refine z1g ?_ _ | refine z3g ?_ | refine z2g ?_ _)); exact BK215.out⟩, ⟨by repeat (first | (with_reducible first | exact HB.out | apply z4g | apply z5g | apply z6g | refine z7g ?_ GE207.out | refine z7g ?_ GE215.out) | exact HB.out)⟩⟩
      ·rw [if_neg c21] at H
       exact absurd H (by simp)
     ·rw [if_neg c19] at H
      exact absurd H (by simp)
    ·rw [if_neg c18] at H
     have c18b0 : decide (x16_1 < t216) = false := decide_eq_false c18
     clear c18
     replace H := Option.bind_eq_some_iff.mp H
     obtain ⟨t224, A280, H⟩ := H
     replace H : (if 0 ≤ (x3_1.length : Int) then (if ((x3_1.length : Int) : Int).toNat ≤ 35184372088832 then (impl_SpotRanks.l1 k1 (List.replicate ((x3_1.length : Int) : Int).toNat 0) t224 (x3_1.length : Int) 0) else (none)) else (none)) = some r := H
     have A28 := z0g A280
     clear A280
     by_cases c29 : 0 ≤ (x3_1.length : Int)
     ·rw [if_pos c29] at H
      have c29b0 := eq_true c29
      have c29b1 : decide (0 ≤ (x3_1.length : Int)) = true := decide_eq_true c29
      clear c29
      by_cases c30 : ((x3_1.length : Int) : Int).toNat ≤ 35184372088832
      ·rw [if_pos c30] at H
       have c30b0 := eq_true c30
       have c30b1 : decide (((x3_1.length : Int) : Int).toNat ≤ 35184372088832) = true := decide_eq_true c30
       clear c30
       obtain ⟨y225, hy225⟩ : ∃ y_ : List Int, y_ = (List.replicate ((x3_1.length : Int) : Int).toNat 0) := ⟨_, rfl⟩
       replace H : (impl_SpotRanks.l1 k1 y225 t224 (x3_1.length : Int) 0) = some r := by first | (rw [hy225]; with_reducible exact H) | (have H2_ := (Option.bind_some _ _).symm.trans H; rw [hy225]; with_reducible exact H2_) | (have H2_ := (Option.bind_some _ _).symm.trans H; with_reducible exact H2_) | with_reducible exact H | (rw [hy225]; exact H) | exact H
       have Ny225 := z0g hy225
       clear hy225
       have H' := z0g H
       clear H
       obtain ⟨Ao31, co31, eo31⟩ := Kd.R_slice HO_3.out
       subst eo31
       go_wp2_with (first | ((with_reducible refine gate_callee (f := 49) rfl ?_); refine goesL_ (some 32) rfl rfl Try.func49 (by kernel_rfl) rfl #[.slice Ao31 x3_1.length co31, .func (.func 57) #[] #[.pointer (some ⟨gb215, 0, none⟩)]] rfl (by (try simp only [List.map_toArray, List.map_cons, List.map_nil]); first | done | rfl | (simp only [List.length_drop, List.length_take]; rfl)) ?_; (with_reducible refine (impl_SpotRanks_1.sort.calls k1 (fun k_ => some k_ = (.slice Ao31 x3_1.length co31 : Value).ownBlock) (.slice Ao31 x3_1.length co31) x3_1 Ao13 co13 y212 t224 w _ ?side1 ?side2 ?side3 ?side4 ?side5 A28.out).mono ?_); (case side1 => repeat (first | (with_reducible first | exact HB.out | apply z4g | apply z5g | apply z6g | refine z7g ?_ GE207.out | refine z7g ?_ GE215.out) | exact HB.out)); (case side2 => exact Kd.R_tight rfl HO_3.out); (case side3 => exact Kd.C_kept_own (Ha_.out) (fun k_ hk_ hs_ => (hk_) hs_)); (case side4 => exact (Kd.R_reads' Ha_.out).2.1); (case side5 => exact by (with_reducible repeat (first | refine z1g ?_ _ | refine z3g ?_ | refine z2g ?_ _)); exact BK215.out); rintro e w32 ⟨rfl, hy0, hb, hkp⟩; refine ⟨_, rfl, ?_⟩; have n0_ := z0g (Kd.R_reok rfl hy0 (fun k_ e_ => HO_3.out.1 k_ e_)); have n1_ := z0g (x6g (ok' := fun k_ => some k_ ≠ (.slice Ao31 x3_1.length co31 : Value).ownBlock) (Kd.R_keptB (Ha_.out) hkp (fun k_ hk_ hs_ => (hk_) hs_)) (fun k_ hk_ => hk_.1)); have n2_ := z0g (blk_kept (by (with_reducible repeat (first | refine z1g ?_ _ | refine z3g ?_ | refine z2g ?_ _)); exact BK207.out) hkp (fun hs_ => (fun e_ => (x9g HO_3.out BK207.out (by decide)) e_) hs_)); have n3_ := z0g (blk_kept (by (with_reducible repeat (first | refine z1g ?_ _ | refine z3g ?_ | refine z2g ?_ _)); exact BK215.out) hkp (fun hs_ => (fun e_ => (x9g HO_3.out BK215.out (by decide)) e_) hs_)); have n4_ := z0g (hb); clear HO_3; clear Ha_; clear BK207; clear BK215; clear HB; have HO_3 := n0_; have Ha_ := n1_; have BK207 := n2_; have BK215 := n3_; have HB := n4_; clear n0_ n1_ n2_ n3_ n4_; (try clear hb); (try clear hkp); (try clear hy0)) | ((with_reducible refine gate_dst (N := 35) rfl ?_); refine Kd.R_make (Kd.int .i64) _ 3 rfl (N := 35) rfl 28 _ _ rfl (x3_1.length : Int) rfl rfl Try.underlying28 (.int .i64 0) 8 info3 rfl (by decide) (by omega) 0 (ok := fun _ => True) (okp := fun _ => True) rfl (fun _ hk => hk) trivial (of_decide_eq_true (by first | (with_reducible assumption) | assumption)) (Nat.le_trans (Nat.mul_le_mul_right _ (of_decide_eq_true (by first | (with_reducible assumption) | assumption) : (x3_1.length : Int).toNat ≤ 35184372088832)) (by omega)) (Below.refl _ _) (Nat.le_refl _) ?_; intro v226 w33 ho34 hb hg_ hnew_; clear hg_ hnew_; (first | rw [← Ny225.out] at ho34 | (simp only [Int.reduceToNat] at ho34; rw [← Ny225.out] at ho34)); have n0_ := z0g (Kd.R_elder' (by (with_reducible repeat (first | apply z8g | apply z9g | apply y1g)); exact HO_3.out) (Kd.R_base ho34) hb); have n1_ := z0g (Kd.R_elder' (by (with_reducible repeat (first | apply z8g | apply z9g | apply y1g)); exact Ha_.out) (Kd.R_base ho34) hb); have n2_ := z0g (Kd.R_lower (Kd.R_new' (Kd.R_new' ho34 (Kd.R_lt (by (with_reducible repeat (first | apply z8g | apply z9g | apply y1g)); exact HO_3.out))) (Kd.R_lt (by (with_reducible repeat (first | apply z8g | apply z9g | apply y1g)); exact Ha_.out))) (y7g (by repeat (first | (with_reducible first | exact HB.out | apply z4g | apply z5g | apply z6g | refine z7g ?_ GE207.out | refine z7g ?_ GE215.out) | exact HB.out)))); have n3_ := z0g (y5g (g := gb207) (o := .cells #[.int .i64 a0_0, .int .i64 a0_1] 24 (0, 0)) (by (with_reducible repeat (first | refine z1g ?_ _ | refine z3g ?_ | refine z2g ?_ _)); exact BK207.out) hb); have n4_ := z0g (y5g (g := gb215) (o := .cells #[.slice Ao13 y212.length co13] 28 (0, 0)) (by (with_reducible repeat (first | refine z1g ?_ _ | refine z3g ?_ | refine z2g ?_ _)); exact BK215.out) hb); have n5_ := z0g (y6g (by repeat (first | (with_reducible first | exact HB.out | apply z4g | apply z5g | apply z6g | refine z7g ?_ GE207.out | refine z7g ?_ GE215.out) | exact HB.out)) hb); clear HO_3; clear Ha_; clear BK207; clear BK215; clear HB; have HO_3 := n0_; have Ha_ := n1_; have HO227 := n2_; have BK207 := n3_; have BK215 := n4_; have HB := n5_; clear n0_ n1_ n2_ n3_ n4_ n5_; clear hb ho34))
       (try simp only [Act.put, s1g_, s2g_, s3g_])
       go_loopg [38] k1 (fun kq v38 w' => ∃ (x6_2 : List Int) (x38_2 : Int), v38 = .int .i64 x38_2 ∧ Aside0 (impl_SpotRanks.l1 kq x6_2 t224 (x3_1.length : Int) x38_2 = some r) ∧ Aside0 (kq ≤ k1) ∧ Aside0 (Kd.R (Kd.int .i64) 3 w' w.heap.size (fun k_ => some k_ ≠ ((.slice Ao31 x3_1.length co31) : Value).ownBlock ∧ some k_ ≠ ((.slice Ao13 y212.length co13) : Value).ownBlock) v226 x6_2) ∧ Aside0 (Kd.R (Kd.int .i64) 3 w' w.heap.size (fun k_ => some k_ ≠ (v226 : Value).ownBlock ∧ some k_ ≠ ((.slice Ao13 y212.length co13) : Value).ownBlock) (.slice Ao31 x3_1.length co31) t224) ∧ Aside0 (Kd.R (Kd.int .i64) 3 w' w.heap.size (fun k_ => some k_ ≠ (v226 : Value).ownBlock ∧ some k_ ≠ ((.slice Ao31 x3_1.length co31) : Value).ownBlock) (.slice Ao13 y212.length co13) y212) ∧ Aside0 (w'.heap[gb207]? = some (.cells #[.int .i64 a0_0, .int .i64 a0_1] 24 (0, 0))) ∧ Aside0 (w'.heap[gb215]? = some (.cells #[(.slice Ao13 y212.length co13)] 28 (0, 0))) ∧ Aside0 (Below w.heap.size w w'))
       case atStart => exact ⟨(y225), (0), (by first | rfl | (simp; done) | (simp [*]; done)), H', ⟨Nat.le_refl _⟩, ⟨by (with_reducible repeat (first | apply z8g | apply z9g | apply y1g)); exact x6g HO227.out (fun _ hk => ⟨hk.1.2, hk.2⟩)⟩, ⟨by (with_reducible repeat (first | apply z8g | apply z9g | apply y1g)); exact x6g HO_3.out (fun _ hk => ⟨hk.2, hk.1⟩)⟩, ⟨by (with_reducible repeat (first | apply z8g | apply z9g | apply y1g)); exact x6g Ha_.out (fun _ hk => ⟨hk.2, hk.1⟩)⟩, ⟨by (with_reducible repeat (first | refine z1g ?_ _ | refine z3g ?_ | refine z2g ?_ _)); exact BK207.out⟩, ⟨by (with_reducible repeat (first | refine z1g ?_ _ | refine z3g ?_ | refine z2g ?_ _)); exact BK215.out⟩, ⟨by repeat (first | (with_reducible first | exact HB.out | apply z4g | apply z5g | apply z6g | refine z7g ?_ GE207.out | refine z7g ?_ GE215.out) | exact HB.out)⟩⟩
       case round =>
        clear H'
        try clear c1
        try clear c2
        try clear p2
        try clear c3
        try clear c4
        try clear c5
        try clear p6
        try clear c14
        try clear c18
        try clear c18b0
        try clear c19
        try clear c21
        try clear c29
        try clear c29b0
        try clear c29b1
        try clear c30
        try clear c30b0
        try clear c30b1
        try clear hcz15_0
        try clear hcz16_0
        try clear hcz16_1
        try clear hcz6_0
        try clear hcz6_1
        try clear hfz15_0
        try clear hfz16_0
        try clear hfz16_1
        try clear hfz6_0
        try clear hfz6_1
        try clear p2
        obtain ⟨x6_2, x38_2, rfl, HA, HK2, HO_6, HO_36, Ha_, BK207, BK215, HB⟩ := hrel
        have hl36_2 := (Kd.R_reads' HO_36.out).1
        rw [hl36_2] at HO_36
        (try simp only [hl36_2])
        (try simp only [hl36_2] at BK207)
        (try simp only [hl36_2] at BK215)
        (try simp only [hl36_2] at HO_6)
        (try simp only [hl36_2] at Ha_)
        cases gk with
        | zero => exact absurd HA.out (by simp [impl_SpotRanks.l1])
        | succ k2 =>
         have H := HA.out
         clear HA
         simp only [impl_SpotRanks.l1] at H
         by_cases c35 : x38_2 < (x3_1.length : Int)
         ·rw [if_pos c35] at H
          have c35b0 : decide (x38_2 < (x3_1.length : Int)) = true := decide_eq_true c35
          try (have c35h_ := c35b0; rw [hl36_2] at c35h_)
          clear c35
          by_cases c36 : 0 ≤ x38_2
          ·rw [if_pos c36] at H
           have c36b0 : decide (0 ≤ x38_2) = true := decide_eq_true c36
           clear c36
           by_cases c37 : x38_2 < (t224.length : Int)
           ·rw [if_pos c37] at H
            have c37b0 : decide (x38_2 < (t224.length : Int)) = true := decide_eq_true c37
            clear c37
            by_cases c38 : 0 ≤ (rd t224 x38_2)
            ·rw [if_pos c38] at H
             have c38b0 : decide (0 ≤ (rd t224 x38_2)) = true := decide_eq_true c38
             clear c38
             by_cases c39 : (rd t224 x38_2) < (x6_2.length : Int)
             ·rw [if_pos c39] at H
              have c39b0 : decide ((rd t224 x38_2) < (x6_2.length : Int)) = true := decide_eq_true c39
              clear c39
              obtain ⟨y229, hy229⟩ : ∃ y_ : List Int, y_ = (x6_2.set ((rd t224 x38_2) : Int).toNat x38_2) := ⟨_, rfl⟩
              replace H : (impl_SpotRanks.l1 k2 y229 t224 (x3_1.length : Int) (wrap64 (x38_2 + 1))) = some r := by first | (rw [hy229]; with_reducible exact H) | (have H2_ := (Option.bind_some _ _).symm.trans H; rw [hy229]; with_reducible exact H2_) | (have H2_ := (Option.bind_some _ _).symm.trans H; with_reducible exact H2_) | with_reducible exact H | (rw [hy229]; exact H) | exact H
              have Ny229 := z0g hy229
              clear hy229
              have H' := z0g H
              clear H
              have p228 : 0 ≤ (x38_2 : Int) := of_decide_eq_true (by first | (with_reducible assumption) | assumption)
              have q228 : x38_2 < (t224.length : Int) := of_decide_eq_true (by first | (with_reducible assumption) | assumption)
              obtain ⟨ad228, e228, hx228_0⟩ := Kd.at_int (Kd.R_reads' HO_36.out).2.2 x38_2 p228 q228
              cases e228
              replace p228 := eq_true p228
              replace q228 := eq_true q228
              have p40 : 0 ≤ ((rd t224 x38_2) : Int) := of_decide_eq_true (by first | (with_reducible assumption) | assumption)
              have q40 : ((rd t224 x38_2) : Int) < ((x6_2.length : Int) : Int) := of_decide_eq_true (by first | (with_reducible assumption) | assumption)
              obtain ⟨go40, co40, eo40, gb40, gl40, cl40, HG40⟩ := Kd.R_form HO_6.out (by omega)
              (first | cases eo40 | (injection eo40 with ea_ en_ ec_; (first | subst ea_ | (injection ea_ with ea_; subst ea_)); subst ec_; clear en_))
              have GB40 := z0g gb40
              have GG40 := z0g HG40
              clear gb40 gl40 HG40
              obtain ⟨hx40_0, hf40_0⟩ := Kd.R_celln 0 HO_6.out ((rd t224 x38_2) : Int) p40 q40
              replace p40 := eq_true p40
              replace q40 := eq_true q40
              have HP41 := Kd.R_putg HO_6.out ((rd t224 x38_2) : Int) x38_2
              go_wp2_with (first | ((with_reducible refine gate_store (t := 3) (p := 46) rfl ?_); refine store_event (t := 3) (p := 46) (v := ?vo_w42) (w1 := (wr.setCell ⟨go40, ((rd t224 x38_2) : Int).toNat, none⟩ (.int .i64 x38_2))) ?hg ?ho ?hn ?hr ?_; (case ho => rfl); (case hg => rfl); (case hn => rfl); (case hr => first | (go_simp; done) | (go_simp; rfl)); intro w42 hw; have hg : wr.grownBy w42 (some go40) := (by rw [hw]; exact HP41.2); have hp_ : Kd.R (Kd.int .i64) 3 w42 w.heap.size (fun k_ => some k_ ≠ (.slice (some ad228) t224.length co31 : Value).ownBlock ∧ some k_ ≠ (.slice Ao13 y212.length co13 : Value).ownBlock) (.slice (some ⟨go40, 0, none⟩) x6_2.length co40) y229 := (by rw [hw, Ny229.out]; exact HP41.1); clear HP41; have n0_ := z0g (hp_); have n1_ := z0g (Kd.R_after (v := (.slice (some ⟨go40, 0, none⟩) x6_2.length co40)) (v1 := (.slice (some ⟨go40, 0, none⟩) x6_2.length co40)) (ok := (fun k_ => some k_ ≠ (.slice Ao13 y212.length co13 : Value).ownBlock)) (by (with_reducible repeat (first | apply z8g | apply z9g | apply y1g)); exact x6g HO_36.out (fun _ hk => ⟨hk.2, hk.1⟩)) hg (.inl rfl)); have n2_ := z0g (Kd.R_after (v := (.slice (some ⟨go40, 0, none⟩) x6_2.length co40)) (v1 := (.slice (some ⟨go40, 0, none⟩) x6_2.length co40)) (ok := (fun k_ => some k_ ≠ (.slice (some ad228) t224.length co31 : Value).ownBlock)) (by (with_reducible repeat (first | apply z8g | apply z9g | apply y1g)); exact x6g Ha_.out (fun _ hk => ⟨hk.2, hk.1⟩)) hg (.inl rfl)); have n3_ := z0g (blk_grown (g := gb207) (o := .cells #[.int .i64 a0_0, .int .i64 a0_1] 24 (0, 0)) (by (with_reducible repeat (first | refine z1g ?_ _ | refine z3g ?_ | refine z2g ?_ _)); exact BK207.out) hg (x9g HO_6.out BK207.out (by decide))); have n4_ := z0g (blk_grown (g := gb215) (o := .cells #[.slice Ao13 y212.length co13] 28 (0, 0)) (by (with_reducible repeat (first | refine z1g ?_ _ | refine z3g ?_ | refine z2g ?_ _)); exact BK215.out) hg (x9g HO_6.out BK215.out (by decide))); have n5_ := z0g ((by rw [hw]; exact z7g (HB.out) GB40.out : Below w.heap.size w w42)); clear HO_6; clear HO_36; clear Ha_; clear BK207; clear BK215; clear HB; have HO_6 := n0_; have HO_36 := n1_; have Ha_ := n2_; have BK207 := n3_; have BK215 := n4_; have HB := n5_; clear n0_ n1_ n2_ n3_ n4_ n5_; clear hg hw hp_))
              (try simp only [← hl36_2])
              go_roundg k2
              case measure => have := HK1.out; have := HK2.out; omega
              case rel => exact ⟨(y229), (wrap64 (x38_2 + 1)), (by first | rfl | (simp; done) | (simp [*]; done)), H', ⟨by have := HK1.out; have := HK2.out; omega⟩, ⟨by (try simp only [hl36_2]); (with_reducible repeat (first | apply z8g | apply z9g | apply y1g)); exact HO_6.out⟩, ⟨by (try simp only [hl36_2]); (with_reducible repeat (first | apply z8g | apply z9g | apply y1g)); exact x6g HO_36.out (fun _ hk => ⟨hk.2, hk.1⟩)⟩, ⟨by (try simp only [hl36_2]); (with_reducible repeat (first | apply z8g | apply z9g | apply y1g)); exact x6g Ha_.out (fun _ hk => ⟨hk.2, hk.1⟩)⟩, ⟨by (try simp only [hl36_2]); (with_reducible repeat (first | refine z1g ?_ _ | refine z3g ?_ | refine z2g ?_ _)); exact BK207.out⟩, ⟨by (try simp only [hl36_2]); (with_reducible repeat (first | refine z1g ?_ _ | refine z3g ?_ | refine z2g ?_ _)); exact BK215.out⟩, ⟨by repeat (first | (with_reducible first | exact HB.out | apply z4g | apply z5g | apply z6g | refine z7g ?_ GE207.out | refine z7g ?_ GE215.out) | exact HB.out)⟩⟩
             ·rw [if_neg c39] at H
              exact absurd H (by simp)
            ·rw [if_neg c38] at H
             exact absurd H (by simp)
           ·rw [if_neg c37] at H
            exact absurd H (by simp)
          ·rw [if_neg c36] at H
           exact absurd H (by simp)
         ·rw [if_neg c35] at H
          have c35b0 : decide (x38_2 < (x3_1.length : Int)) = false := decide_eq_false c35
          try (have c35h_ := c35b0; rw [hl36_2] at c35h_)
          clear c35
          obtain rfl := Option.some.inj H
          go_wp2
          go_ret
          exact ⟨_, by first | rfl | (simp [errW_none, errW_some] <;> rfl) | (simp [*, errW_none, errW_some] <;> rfl), by (with_reducible repeat (first | apply z8g | apply z9g | apply y1g)); exact x6g HO_6.out (fun _ hk => trivial), by repeat (first | (with_reducible first | exact HB.out | apply z4g | apply z5g | apply z6g | refine z7g ?_ GE207.out | refine z7g ?_ GE215.out) | exact HB.out)⟩
      ·rw [if_neg c30] at H
       exact absurd H (by simp)
     ·rw [if_neg c29] at H
      exact absurd H (by simp)
 ·replace c3 := Bool.eq_false_iff.mpr c3
  subst c3
  have H1 : (some ([] : List Int)) = some r := by rw [if_neg (show ¬ (false = true) by decide)] at H; first | exact H | (simp only [if_true] at H ⊢; exact H)
  clear H
  have H := H1
  clear H1
  obtain rfl := Option.some.inj H
  go_enter Try.func21, Try.ntmps21
  go_wp2_with (first | ((with_reducible refine gate_dst (N := 1) rfl ?_); refine box_event ?hg (N := 1) ?hd (cs := #[.int .i64 a0_0, .int .i64 a0_1]) (t := 24) ?hr ?_; (case hd => rfl); (case hg => rfl); (case hr => first | (go_simp; done) | (go_simp; rfl)); intro gb207 hg w43 hbox hb; have n0_ := z0g (y6g (by repeat (first | (with_reducible first | exact HB.out | apply z4g | apply z5g | apply z6g) | exact HB.out)) hb); have n1_ := z0g (hbox); have n2_ := z0g ((by rw [hg]; exact (y7g (by repeat (first | (with_reducible first | exact HB.out | apply z4g | apply z5g | apply z6g) | exact HB.out))) : w.heap.size ≤ gb207)); have n3_ := z0g ((by rw [hg]; exact (y7g (by repeat (first | (with_reducible first | exact HB.out | apply z4g | apply z5g | apply z6g) | exact HB.out))) : w.heap.size ≤ gb207)); clear HB; have HB := n0_; have BK207 := n1_; have GW207 := n2_; have GE207 := n3_; clear n0_ n1_ n2_ n3_; clear hb hbox hg; have hcz44_0 : w43.cell? ⟨gb207, 0, none⟩ = some (.int .i64 a0_0) := (x3g BK207.out 0).trans rfl; have hcz44_1 : w43.cell? ⟨gb207, 1, none⟩ = some (.int .i64 a0_1) := (x3g BK207.out 1).trans rfl; have hfz44_0 := x2g BK207.out 0; have hfz44_1 := x2g BK207.out 1) | ((with_reducible refine gate_callee (f := 38) rfl ?_); refine goesL_ (some 10) rfl rfl Try.func38 (by kernel_rfl) rfl #[.agg #[.int .i64 a0_0, .int .i64 a0_1]] rfl (by (try simp only [List.map_toArray, List.map_cons, List.map_nil]); first | done | rfl | (simp only [List.length_drop, List.length_take]; rfl)) ?_; (with_reducible refine (impl_IsLattice.calls a0_0 a0_1 false _ A2.out).mono ?_); rintro e w45 ⟨rfl, hb⟩; refine ⟨_, rfl, ?_⟩; have n0_ := z0g (y5g (g := gb207) (o := .cells #[.int .i64 a0_0, .int .i64 a0_1] 24 (0, 0)) (by (with_reducible repeat (first | refine z1g ?_ _ | refine z3g ?_ | refine z2g ?_ _)); exact BK207.out) hb); have n1_ := z0g (y6g (by repeat (first | (with_reducible first | exact HB.out | apply z4g | apply z5g | apply z6g | refine z7g ?_ GE207.out) | exact HB.out)) hb); clear BK207; clear HB; have BK207 := n0_; have HB := n1_; clear n0_ n1_; (try clear hb)))
  go_ret
  exact ⟨_, by first | rfl | (simp [errW_none, errW_some] <;> rfl) | (simp [*, errW_none, errW_some] <;> rfl), by first | exact Kd.R_nil _ _ _ _ _ | exact Kd.N_nil _ _ _ _ _ | exact Kd.V_nil _ _ _ _ _ | exact Kd.Q_nil _ _ _ _ _ | exact Kd.S_nil _ _ _ _ _, by repeat (first | (with_reducible first | exact HB.out | apply z4g | apply z5g | apply z6g | refine z7g ?_ GE207.out) | exact HB.out)⟩

end Go.Proofs.Ytkkcedkiohefmaa.PFnSpotMatrix
