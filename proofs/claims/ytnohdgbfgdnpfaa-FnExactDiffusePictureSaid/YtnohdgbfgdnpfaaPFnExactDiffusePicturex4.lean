/- Machine side of laws FnExactDiffusePicture: written for this claim by the kit's print program under this session's wip/tools/mp_setup.py (with contracts of the session's own, wip/ext). -/
import Derived.Test.YtnohdgbfgdnpfaaPFnExactDiffusePicturex0
import Derived.Test.YtnohdgbfgdnpfaaPFnExactDiffusePicturex1
import Derived.Test.YtnohdgbfgdnpfaaPFnExactDiffusePicturex2
import Derived.Test.YtnohdgbfgdnpfaaPFnExactDiffusePicturex3
namespace Go.Proofs.Ytnohdgbfgdnpfaa.PFnExactDiffusePicture
open Go.RowKit Go.Proofs.YtnohdgbfgdnpfaaW.PrintWords Go.Proofs.YtnohdgbfgdnpfaaW.PrintLast Go.Proofs.YtnohdgbfgdnpfaaW.PrintMore
attribute [local go_sem] max2_int min2_int max_two min_two max_three min_three max_four min_four   -- for this text's walks alone
set_option linter.unusedVariables false
set_option linter.unusedSimpArgs false
-- squeezed: words under short names
set_option linter.defProp false in
def z0e := @Aside0.mk
set_option linter.defProp false in
def z1e := @blk_drewN
set_option linter.defProp false in
def z2e := @blk_alloc
set_option linter.defProp false in
def z3e := @blk_drew
set_option linter.defProp false in
def z4e := @below_alloc
set_option linter.defProp false in
def z5e := @pw_below_drewN
set_option linter.defProp false in
def z6e := @below_drew1
set_option linter.defProp false in
def z7e := @below_set
set_option linter.defProp false in
def z8e := @Kd.R_alloc
set_option linter.defProp false in
def z9e := @Kd.R_drewN
set_option linter.defProp false in
def y1e := @Kd.R_drew
set_option linter.defProp false in
def y2e := @Kd.C_alloc
set_option linter.defProp false in
def y3e := @Kd.C_drewN
set_option linter.defProp false in
def y4e := @Kd.C_drew
set_option linter.defProp false in
def y5e := @blk_below
set_option linter.defProp false in
def y6e := @below_step
set_option linter.defProp false in
def y7e := @below_size
set_option linter.defProp false in
def y9e := @Kd.C_below
set_option linter.defProp false in
def x1e := @Kd.R_far
set_option linter.defProp false in
def x2e := @blk_frozen
set_option linter.defProp false in
def x3e := @blk_cell
set_option linter.defProp false in
def x8e := @blk_far
def bse_ (n m : Nat) : Array Bool := ((List.range n).map fun i => m.testBit i).toArray
theorem s1e_ {α : Type} (l : List α) (i : Nat) (a : α) : l.toArray.setIfInBounds i a = (l.set i a).toArray := List.setIfInBounds_toArray l i a
theorem s2e_ {α : Type} (a b : α) (l : List α) : (a :: l).set 0 b = b :: l := rfl
theorem s3e_ {α : Type} (a b : α) (n : Nat) (l : List α) : (a :: l).set (n + 1) b = a :: l.set n b := rfl

/-! ### impl_DiffusePicture: function 13 -/
def impl_DiffusePicture.f (k : Nat) (l0 : List (S60)) (a1_0 : Int) (a1_1 : Int) (l1_2 : List Int) (a2 : Bool) : Option (Int × Int × List Int × Int × Bool) := (impl_IsKernel.f k l0).bind fun t167 => (if t167 = true then ((impl_IsPicture.f a1_0 a1_1 l1_2).bind fun t168 => (if t168 = true then ((impl_diffused.f k l0 a1_0 a1_1 l1_2 a2).bind fun bt169 => (some (bt169.1, bt169.2.1, bt169.2.2.1, bt169.2.2.2.2, true))) else (some (0, 0, ([] : List Int), 0, false)))) else (some (0, 0, ([] : List Int), 0, false)))
set_option maxHeartbeats 8000000 in
set_option maxRecDepth 100000 in
theorem impl_DiffusePicture.calls (k : Nat) (A0 : Option Addr) (c0 : Nat) (l0 : List (S60)) (a1_0 : Int) (a1_1 : Int) (A1_2 : Option Addr) (c1_2 : Nat) (l1_2 : List Int) (a2 : Bool) (r1 : Int) (r2 : Int) (r3 : List Int) (r4 : Int) (r5 : Bool) (w : World) (hr0 : Kd.C k60 w A0 l0.length l0) (hc0 : l0.length ≤ c0) (hr1_2 : Kd.C (Kd.int .i64) w A1_2 l1_2.length l1_2) (hc1_2 : l1_2.length ≤ c1_2) (h : impl_DiffusePicture.f k l0 a1_0 a1_1 l1_2 a2 = some (r1, r2, r3, r4, r5)) :
  Calls Try.prog 13 #[.slice A0 l0.length c0, .agg #[.int .i64 a1_0, .int .i64 a1_1, .slice A1_2 l1_2.length c1_2], .bool a2] w fun e w' => ∃ v2_ : Value, e = .returned (.tuple #[.agg #[.int .i64 r1, .int .i64 r2, v2_], .int .i64 r4, .bool r5]) ∧ Kd.R (Kd.int .i64) 3 w' w.heap.size (fun _ => True) v2_ r3 ∧ Below w.heap.size w w' := by
 have hu31 := Try.underlying31
 have HR0 := z0e hr0
 have HC0 := z0e hc0
 clear hr0 hc0
 have HR1_2 := z0e hr1_2
 have HC1_2 := z0e hc1_2
 clear hr1_2 hc1_2
 have HB := z0e (Below.refl w.heap.size w)
 have H : ((impl_IsKernel.f k l0).bind fun t167 => (if t167 = true then ((impl_IsPicture.f a1_0 a1_1 l1_2).bind fun t168 => (if t168 = true then ((impl_diffused.f k l0 a1_0 a1_1 l1_2 a2).bind fun bt169 => (some (bt169.1, bt169.2.1, bt169.2.2.1, bt169.2.2.2.2, true))) else (some (0, 0, ([] : List Int), 0, false)))) else (some (0, 0, ([] : List Int), 0, false)))) = some (r1, r2, r3, r4, r5) := h
 clear h
 replace H := Option.bind_eq_some_iff.mp H
 obtain ⟨t167, A40, H⟩ := H
 replace H : (if t167 = true then ((impl_IsPicture.f a1_0 a1_1 l1_2).bind fun t168 => (if t168 = true then ((impl_diffused.f k l0 a1_0 a1_1 l1_2 a2).bind fun bt169 => (some (bt169.1, bt169.2.1, bt169.2.2.1, bt169.2.2.2.2, true))) else (some (0, 0, ([] : List Int), 0, false)))) else (some (0, 0, ([] : List Int), 0, false))) = some (r1, r2, r3, r4, r5) := H
 have A4 := z0e A40
 clear A40
 by_cases c5 : t167 = true
 ·subst c5
  have H1 : ((impl_IsPicture.f a1_0 a1_1 l1_2).bind fun t168 => (if t168 = true then ((impl_diffused.f k l0 a1_0 a1_1 l1_2 a2).bind fun bt169 => (some (bt169.1, bt169.2.1, bt169.2.2.1, bt169.2.2.2.2, true))) else (some (0, 0, ([] : List Int), 0, false)))) = some (r1, r2, r3, r4, r5) := by rw [if_pos rfl] at H; first | exact H | (simp only [if_true] at H ⊢; exact H)
  clear H
  have H := H1
  clear H1
  replace H := Option.bind_eq_some_iff.mp H
  obtain ⟨t168, A60, H⟩ := H
  replace H : (if t168 = true then ((impl_diffused.f k l0 a1_0 a1_1 l1_2 a2).bind fun bt169 => (some (bt169.1, bt169.2.1, bt169.2.2.1, bt169.2.2.2.2, true))) else (some (0, 0, ([] : List Int), 0, false))) = some (r1, r2, r3, r4, r5) := H
  have A6 := z0e A60
  clear A60
  by_cases c7 : t168 = true
  ·subst c7
   have H1 : ((impl_diffused.f k l0 a1_0 a1_1 l1_2 a2).bind fun bt169 => (some (bt169.1, bt169.2.1, bt169.2.2.1, bt169.2.2.2.2, true))) = some (r1, r2, r3, r4, r5) := by rw [if_pos rfl] at H; first | exact H | (simp only [if_true] at H ⊢; exact H)
   clear H
   have H := H1
   clear H1
   replace H := Option.bind_eq_some_iff.mp H
   obtain ⟨⟨t169, t170, t171, t174, t177⟩, A80, H⟩ := H
   replace H : (some (t169, t170, t171, t177, true)) = some (r1, r2, r3, r4, r5) := H
   have A8 := z0e A80
   clear A80
   simp only [Option.some.injEq, Prod.mk.injEq] at H
   obtain ⟨rfl, rfl, rfl, rfl, rfl⟩ := H
   go_enter Try.func13, Try.ntmps13
   go_wp2_with (first | ((with_reducible refine gate_dst (N := 4) rfl ?_); refine box_event ?hg (N := 4) ?hd (cs := #[.int .i64 a1_0, .int .i64 a1_1, .slice A1_2 l1_2.length c1_2]) (t := 31) ?hr ?_; (case hd => rfl); (case hg => rfl); (case hr => first | (go_simp; done) | (go_simp; rfl)); intro gb165 hg w9 hbox hb; have n0_ := z0e (y6e (by repeat (first | (with_reducible first | exact HB.out | apply z4e | apply z5e | apply z6e) | exact HB.out)) hb); have n1_ := z0e (hbox); have n2_ := z0e ((by rw [hg]; exact (y7e (by repeat (first | (with_reducible first | exact HB.out | apply z4e | apply z5e | apply z6e) | exact HB.out))) : w.heap.size ≤ gb165)); have n3_ := z0e ((by rw [hg]; exact (y7e (by repeat (first | (with_reducible first | exact HB.out | apply z4e | apply z5e | apply z6e) | exact HB.out))) : w.heap.size ≤ gb165)); clear HB; have HB := n0_; have BK165 := n1_; have GW165 := n2_; have GE165 := n3_; clear n0_ n1_ n2_ n3_; clear hb hbox hg) | ((with_reducible refine gate_dst (N := 6) rfl ?_); refine box_event ?hg (N := 6) ?hd (cs := #[.int .i64 0, .int .i64 0, .slice none 0 0]) (t := 31) ?hr ?_; (case hd => rfl); (case hg => rfl); (case hr => first | (go_simp; done) | (go_simp; rfl)); intro gb166 hg w10 hbox hb; have n0_ := z0e (y5e (g := gb165) (o := .cells #[.int .i64 a1_0, .int .i64 a1_1, .slice A1_2 l1_2.length c1_2] 31 (0, 0)) (by (with_reducible repeat (first | refine z1e ?_ _ | refine z3e ?_ | refine z2e ?_ _)); exact BK165.out) hb); have n1_ := z0e (y6e (by repeat (first | (with_reducible first | exact HB.out | apply z4e | apply z5e | apply z6e | refine z7e ?_ GE165.out) | exact HB.out)) hb); have n2_ := z0e (hbox); have n3_ := z0e ((by rw [hg]; exact (y7e (by repeat (first | (with_reducible first | exact HB.out | apply z4e | apply z5e | apply z6e | refine z7e ?_ GE165.out) | exact HB.out))) : w.heap.size ≤ gb166)); have n4_ := z0e ((by rw [hg]; exact (y7e (by repeat (first | (with_reducible first | exact HB.out | apply z4e | apply z5e | apply z6e | refine z7e ?_ GE165.out) | exact HB.out))) : w.heap.size ≤ gb166)); have n5_ := z0e ((by rw [hg]; exact Nat.ne_of_lt (blk_lt (g := gb165) (o := .cells #[.int .i64 a1_0, .int .i64 a1_1, .slice A1_2 l1_2.length c1_2] 31 (0, 0)) (by (with_reducible repeat (first | refine z1e ?_ _ | refine z3e ?_ | refine z2e ?_ _)); exact BK165.out)) : gb165 ≠ gb166)); have n6_ := z0e ((by rw [hg]; exact Nat.ne_of_gt (blk_lt (g := gb165) (o := .cells #[.int .i64 a1_0, .int .i64 a1_1, .slice A1_2 l1_2.length c1_2] 31 (0, 0)) (by (with_reducible repeat (first | refine z1e ?_ _ | refine z3e ?_ | refine z2e ?_ _)); exact BK165.out)) : gb166 ≠ gb165)); clear BK165; clear HB; have BK165 := n0_; have HB := n1_; have BK166 := n2_; have GW166 := n3_; have GE166 := n4_; have NB165_166 := n5_; have NB166_165 := n6_; clear n0_ n1_ n2_ n3_ n4_ n5_ n6_; clear hb hbox hg) | ((with_reducible refine gate_callee (f := 9) rfl ?_); refine goesL_ (some 13) rfl rfl Try.func9 (by kernel_rfl) rfl #[.slice A0 l0.length c0] rfl (by (try simp only [List.map_toArray, List.map_cons, List.map_nil]); first | done | rfl | (simp only [List.length_drop, List.length_take]; rfl)) ?_; (with_reducible refine (impl_IsKernel.calls k _ _ l0 true _ ?side1 ?side2 A4.out).mono ?_); (case side1 => repeat (first | exact (y9e HR0.out HB.out) | (with_reducible refine y2e ?_ _) | (with_reducible refine y3e ?_ _) | (with_reducible refine y4e ?_))); (case side2 => exact HC0.out); rintro e w11 ⟨rfl, hb⟩; refine ⟨_, rfl, ?_⟩; have n0_ := z0e (y5e (g := gb165) (o := .cells #[.int .i64 a1_0, .int .i64 a1_1, .slice A1_2 l1_2.length c1_2] 31 (0, 0)) (by (with_reducible repeat (first | refine z1e ?_ _ | refine z3e ?_ | refine z2e ?_ _)); exact BK165.out) hb); have n1_ := z0e (y5e (g := gb166) (o := .cells #[.int .i64 0, .int .i64 0, .slice none 0 0] 31 (0, 0)) (by (with_reducible repeat (first | refine z1e ?_ _ | refine z3e ?_ | refine z2e ?_ _)); exact BK166.out) hb); have n2_ := z0e (y6e (by repeat (first | (with_reducible first | exact HB.out | apply z4e | apply z5e | apply z6e | refine z7e ?_ GE165.out | refine z7e ?_ GE166.out) | exact HB.out)) hb); clear BK165; clear BK166; clear HB; have BK165 := n0_; have BK166 := n1_; have HB := n2_; clear n0_ n1_ n2_; (try clear hb); have hnb12 := NB165_166.out; have hnc12 := NB166_165.out; have hcz13_0 : w11.cell? ⟨gb165, 0, none⟩ = some (.int .i64 a1_0) := (x3e BK165.out 0).trans rfl; have hcz13_1 : w11.cell? ⟨gb165, 1, none⟩ = some (.int .i64 a1_1) := (x3e BK165.out 1).trans rfl; have hcz13_2 : w11.cell? ⟨gb165, 2, none⟩ = some (.slice A1_2 l1_2.length c1_2) := (x3e BK165.out 2).trans rfl; have hfz13_0 := x2e BK165.out 0; have hfz13_1 := x2e BK165.out 1; have hfz13_2 := x2e BK165.out 2) | (go_at_call 42; (with_reducible refine (impl_IsPicture.calls a1_0 a1_1 _ _ l1_2 true _ ?side1 ?side2 A6.out).mono ?_); (case side1 => repeat (first | exact HR1_2.out | exact (y9e HR1_2.out HB.out) | (with_reducible refine y2e ?_ _) | (with_reducible refine y3e ?_ _) | (with_reducible refine y4e ?_))); (case side2 => exact HC1_2.out); rintro e w14 ⟨rfl, hb⟩; have n0_ := z0e (y5e (g := gb165) (o := .cells #[.int .i64 a1_0, .int .i64 a1_1, .slice A1_2 l1_2.length c1_2] 31 (0, 0)) (by (with_reducible repeat (first | refine z1e ?_ _ | refine z3e ?_ | refine z2e ?_ _)); exact BK165.out) hb); have n1_ := z0e (y5e (g := gb166) (o := .cells #[.int .i64 0, .int .i64 0, .slice none 0 0] 31 (0, 0)) (by (with_reducible repeat (first | refine z1e ?_ _ | refine z3e ?_ | refine z2e ?_ _)); exact BK166.out) hb); have n2_ := z0e (y6e (by repeat (first | (with_reducible first | exact HB.out | apply z4e | apply z5e | apply z6e | refine z7e ?_ GE165.out | refine z7e ?_ GE166.out) | exact HB.out)) hb); clear BK165; clear BK166; clear HB; have BK165 := n0_; have BK166 := n1_; have HB := n2_; clear n0_ n1_ n2_; (try clear hb); have hcz15_0 : w14.cell? ⟨gb165, 0, none⟩ = some (.int .i64 a1_0) := (x3e BK165.out 0).trans rfl; have hcz15_1 : w14.cell? ⟨gb165, 1, none⟩ = some (.int .i64 a1_1) := (x3e BK165.out 1).trans rfl; have hcz15_2 : w14.cell? ⟨gb165, 2, none⟩ = some (.slice A1_2 l1_2.length c1_2) := (x3e BK165.out 2).trans rfl; have hfz15_0 := x2e BK165.out 0; have hfz15_1 := x2e BK165.out 1; have hfz15_2 := x2e BK165.out 2) | ((with_reducible refine gate_callee (f := 43) rfl ?_); refine goesL_ (some 25) rfl rfl Try.func43 (by kernel_rfl) rfl #[.slice A0 l0.length c0, .agg #[.int .i64 a1_0, .int .i64 a1_1, .slice A1_2 l1_2.length c1_2], .bool a2] rfl (by (try simp only [List.map_toArray, List.map_cons, List.map_nil]); first | done | rfl | (simp only [List.length_drop, List.length_take]; rfl)) ?_; (with_reducible refine (impl_diffused.calls k _ _ l0 a1_0 a1_1 _ _ l1_2 a2 t169 t170 t171 t174 t177 _ ?side1 ?side2 ?side3 ?side4 A8.out).mono ?_); (case side1 => repeat (first | exact (y9e HR0.out HB.out) | (with_reducible refine y2e ?_ _) | (with_reducible refine y3e ?_ _) | (with_reducible refine y4e ?_))); (case side2 => exact HC0.out); (case side3 => repeat (first | exact HR1_2.out | exact (y9e HR1_2.out HB.out) | (with_reducible refine y2e ?_ _) | (with_reducible refine y3e ?_ _) | (with_reducible refine y4e ?_))); (case side4 => exact HC1_2.out); rintro e w16 ⟨v172, v175, rfl, ho0, ho1, hb⟩; refine ⟨_, rfl, ?_⟩; have n0_ := z0e (Kd.R_lower ho0 (y7e (by repeat (first | (with_reducible first | exact HB.out | apply z4e | apply z5e | apply z6e | refine z7e ?_ GE165.out | refine z7e ?_ GE166.out) | exact HB.out)))); have n1_ := z0e (Kd.R_lower ho1 (y7e (by repeat (first | (with_reducible first | exact HB.out | apply z4e | apply z5e | apply z6e | refine z7e ?_ GE165.out | refine z7e ?_ GE166.out) | exact HB.out)))); have n2_ := z0e (y5e (g := gb165) (o := .cells #[.int .i64 a1_0, .int .i64 a1_1, .slice A1_2 l1_2.length c1_2] 31 (0, 0)) (by (with_reducible repeat (first | refine z1e ?_ _ | refine z3e ?_ | refine z2e ?_ _)); exact BK165.out) hb); have n3_ := z0e (y5e (g := gb166) (o := .cells #[.int .i64 0, .int .i64 0, .slice none 0 0] 31 (0, 0)) (by (with_reducible repeat (first | refine z1e ?_ _ | refine z3e ?_ | refine z2e ?_ _)); exact BK166.out) hb); have n4_ := z0e (y6e (by repeat (first | (with_reducible first | exact HB.out | apply z4e | apply z5e | apply z6e | refine z7e ?_ GE165.out | refine z7e ?_ GE166.out) | exact HB.out)) hb); clear BK165; clear BK166; clear HB; have HO173 := n0_; have HO176 := n1_; have BK165 := n2_; have BK166 := n3_; have HB := n4_; clear n0_ n1_ n2_ n3_ n4_; (try clear hb); (try clear ho0); (try clear ho1)) | ((with_reducible refine gate_dst (N := 9) rfl ?_); refine box_event ?hg (N := 9) ?hd (cs := #[.int .i64 0, .int .i64 0, .slice none 0 0]) (t := 31) ?hr ?_; (case hd => rfl); (case hg => rfl); (case hr => first | (go_simp; done) | (go_simp; rfl)); intro gb178 hg w17 hbox hb; have n0_ := z0e (Kd.R_below (by (with_reducible repeat (first | apply z8e | apply z9e | apply y1e)); exact HO173.out) hb); have n1_ := z0e (Kd.R_below (by (with_reducible repeat (first | apply z8e | apply z9e | apply y1e)); exact HO176.out) hb); have n2_ := z0e (y5e (g := gb165) (o := .cells #[.int .i64 a1_0, .int .i64 a1_1, .slice A1_2 l1_2.length c1_2] 31 (0, 0)) (by (with_reducible repeat (first | refine z1e ?_ _ | refine z3e ?_ | refine z2e ?_ _)); exact BK165.out) hb); have n3_ := z0e (y5e (g := gb166) (o := .cells #[.int .i64 0, .int .i64 0, .slice none 0 0] 31 (0, 0)) (by (with_reducible repeat (first | refine z1e ?_ _ | refine z3e ?_ | refine z2e ?_ _)); exact BK166.out) hb); have n4_ := z0e (y6e (by repeat (first | (with_reducible first | exact HB.out | apply z4e | apply z5e | apply z6e | refine z7e ?_ GE165.out | refine z7e ?_ GE166.out) | exact HB.out)) hb); have n5_ := z0e (hbox); have n6_ := z0e ((by rw [hg]; exact (y7e (by repeat (first | (with_reducible first | exact HB.out | apply z4e | apply z5e | apply z6e | refine z7e ?_ GE165.out | refine z7e ?_ GE166.out) | exact HB.out))) : w.heap.size ≤ gb178)); have n7_ := z0e ((by rw [hg]; exact (y7e (by repeat (first | (with_reducible first | exact HB.out | apply z4e | apply z5e | apply z6e | refine z7e ?_ GE165.out | refine z7e ?_ GE166.out) | exact HB.out))) : w.heap.size ≤ gb178)); have n8_ := z0e ((by rw [hg]; exact Nat.ne_of_lt (blk_lt (g := gb165) (o := .cells #[.int .i64 a1_0, .int .i64 a1_1, .slice A1_2 l1_2.length c1_2] 31 (0, 0)) (by (with_reducible repeat (first | refine z1e ?_ _ | refine z3e ?_ | refine z2e ?_ _)); exact BK165.out)) : gb165 ≠ gb178)); have n9_ := z0e ((by rw [hg]; exact Nat.ne_of_gt (blk_lt (g := gb165) (o := .cells #[.int .i64 a1_0, .int .i64 a1_1, .slice A1_2 l1_2.length c1_2] 31 (0, 0)) (by (with_reducible repeat (first | refine z1e ?_ _ | refine z3e ?_ | refine z2e ?_ _)); exact BK165.out)) : gb178 ≠ gb165)); have n10_ := z0e ((by rw [hg]; exact Nat.ne_of_lt (blk_lt (g := gb166) (o := .cells #[.int .i64 0, .int .i64 0, .slice none 0 0] 31 (0, 0)) (by (with_reducible repeat (first | refine z1e ?_ _ | refine z3e ?_ | refine z2e ?_ _)); exact BK166.out)) : gb166 ≠ gb178)); have n11_ := z0e ((by rw [hg]; exact Nat.ne_of_gt (blk_lt (g := gb166) (o := .cells #[.int .i64 0, .int .i64 0, .slice none 0 0] 31 (0, 0)) (by (with_reducible repeat (first | refine z1e ?_ _ | refine z3e ?_ | refine z2e ?_ _)); exact BK166.out)) : gb178 ≠ gb166)); clear HO173; clear HO176; clear BK165; clear BK166; clear HB; have HO173 := n0_; have HO176 := n1_; have BK165 := n2_; have BK166 := n3_; have HB := n4_; have BK178 := n5_; have GW178 := n6_; have GE178 := n7_; have NB165_178 := n8_; have NB178_165 := n9_; have NB166_178 := n10_; have NB178_166 := n11_; clear n0_ n1_ n2_ n3_ n4_ n5_ n6_ n7_ n8_ n9_ n10_ n11_; clear hb hbox hg; have hnb18 := NB178_165.out; have hnc18 := NB165_178.out; have hnb19 := NB178_166.out; have hnc19 := NB166_178.out; have hcz20_0 : w17.cell? ⟨gb178, 0, none⟩ = some (.int .i64 0) := (x3e BK178.out 0).trans rfl; have hcz20_1 : w17.cell? ⟨gb178, 1, none⟩ = some (.int .i64 0) := (x3e BK178.out 1).trans rfl; have hcz20_2 : w17.cell? ⟨gb178, 2, none⟩ = some (.slice none 0 0) := (x3e BK178.out 2).trans rfl; have hfz20_0 := x2e BK178.out 0; have hfz20_1 := x2e BK178.out 1; have hfz20_2 := x2e BK178.out 2; obtain ⟨Ao21, co21, eo21⟩ := Kd.R_slice HO173.out; subst eo21; have hcz22_0 : w17.cell? ⟨gb166, 0, none⟩ = some (.int .i64 0) := (x3e BK166.out 0).trans rfl; have hcz22_1 : w17.cell? ⟨gb166, 1, none⟩ = some (.int .i64 0) := (x3e BK166.out 1).trans rfl; have hcz22_2 : w17.cell? ⟨gb166, 2, none⟩ = some (.slice none 0 0) := (x3e BK166.out 2).trans rfl; have hfz22_0 := x2e BK166.out 0; have hfz22_1 := x2e BK166.out 1; have hfz22_2 := x2e BK166.out 2))
   refine bodyPost_ret (results_ctt rfl _ _ gb166 31 #[.int .i64 t169, .int .i64 t170, .slice Ao21 t171.length co21] (0, 0) _ rfl (by (with_reducible repeat (first | refine z1e ?_ _ | refine z3e ?_ | refine z2e ?_ _)); refine blk_put (cs := #[.int .i64 t169, .int .i64 t170, .slice none 0 0]) ?_ 2 _ rfl; (with_reducible repeat (first | refine z1e ?_ _ | refine z3e ?_ | refine z2e ?_ _)); refine blk_put (cs := #[.int .i64 t169, .int .i64 0, .slice none 0 0]) ?_ 1 _ rfl; (with_reducible repeat (first | refine z1e ?_ _ | refine z3e ?_ | refine z2e ?_ _)); refine blk_put (cs := #[.int .i64 0, .int .i64 0, .slice none 0 0]) ?_ 0 _ rfl; (with_reducible repeat (first | refine z1e ?_ _ | refine z3e ?_ | refine z2e ?_ _)); refine x8e ?_ NB166_178.out _; (with_reducible repeat (first | refine z1e ?_ _ | refine z3e ?_ | refine z2e ?_ _)); refine x8e ?_ NB166_178.out _; (with_reducible repeat (first | refine z1e ?_ _ | refine z3e ?_ | refine z2e ?_ _)); refine x8e ?_ NB166_178.out _; (with_reducible repeat (first | refine z1e ?_ _ | refine z3e ?_ | refine z2e ?_ _)); exact BK166.out) Try.underlying31 rfl (by kernel_rfl)) rfl ?_
   exact ⟨_, by first | rfl | (simp [errW_none, errW_some] <;> rfl) | (simp [*, errW_none, errW_some] <;> rfl), by (with_reducible repeat (first | apply z8e | apply z9e | apply y1e)); exact Kd.R_mono (x1e (p := ⟨gb166, 2, none⟩) (x1e (p := ⟨gb166, 1, none⟩) (x1e (p := ⟨gb166, 0, none⟩) (x1e (p := ⟨gb178, 2, none⟩) (x1e (p := ⟨gb178, 1, none⟩) (x1e (p := ⟨gb178, 0, none⟩) (Kd.R_types (Kd.R_types HO173.out BK178.out (by decide)) BK166.out (by decide)) (fun _ hk => hk.1.2) (.int .i64 t169)) (fun _ hk => hk.1.2) (.int .i64 t170)) (fun _ hk => hk.1.2) (.slice Ao21 t171.length co21)) (fun _ hk => hk.2) (.int .i64 t169)) (fun _ hk => hk.2) (.int .i64 t170)) (fun _ hk => hk.2) (.slice Ao21 t171.length co21)) (fun _ hk => trivial), by repeat (first | (with_reducible first | exact HB.out | apply z4e | apply z5e | apply z6e | refine z7e ?_ GE165.out | refine z7e ?_ GE166.out | refine z7e ?_ GE178.out) | exact HB.out)⟩
  ·replace c7 := Bool.eq_false_iff.mpr c7
   subst c7
   have H1 : (some (0, 0, ([] : List Int), 0, false)) = some (r1, r2, r3, r4, r5) := by rw [if_neg (show ¬ (false = true) by decide)] at H; first | exact H | (simp only [if_true] at H ⊢; exact H)
   clear H
   have H := H1
   clear H1
   simp only [Option.some.injEq, Prod.mk.injEq] at H
   obtain ⟨rfl, rfl, rfl, rfl, rfl⟩ := H
   go_enter Try.func13, Try.ntmps13
   go_wp2_with (first | ((with_reducible refine gate_dst (N := 4) rfl ?_); refine box_event ?hg (N := 4) ?hd (cs := #[.int .i64 a1_0, .int .i64 a1_1, .slice A1_2 l1_2.length c1_2]) (t := 31) ?hr ?_; (case hd => rfl); (case hg => rfl); (case hr => first | (go_simp; done) | (go_simp; rfl)); intro gb165 hg w23 hbox hb; have n0_ := z0e (y6e (by repeat (first | (with_reducible first | exact HB.out | apply z4e | apply z5e | apply z6e) | exact HB.out)) hb); have n1_ := z0e (hbox); have n2_ := z0e ((by rw [hg]; exact (y7e (by repeat (first | (with_reducible first | exact HB.out | apply z4e | apply z5e | apply z6e) | exact HB.out))) : w.heap.size ≤ gb165)); have n3_ := z0e ((by rw [hg]; exact (y7e (by repeat (first | (with_reducible first | exact HB.out | apply z4e | apply z5e | apply z6e) | exact HB.out))) : w.heap.size ≤ gb165)); clear HB; have HB := n0_; have BK165 := n1_; have GW165 := n2_; have GE165 := n3_; clear n0_ n1_ n2_ n3_; clear hb hbox hg) | ((with_reducible refine gate_dst (N := 6) rfl ?_); refine box_event ?hg (N := 6) ?hd (cs := #[.int .i64 0, .int .i64 0, .slice none 0 0]) (t := 31) ?hr ?_; (case hd => rfl); (case hg => rfl); (case hr => first | (go_simp; done) | (go_simp; rfl)); intro gb166 hg w24 hbox hb; have n0_ := z0e (y5e (g := gb165) (o := .cells #[.int .i64 a1_0, .int .i64 a1_1, .slice A1_2 l1_2.length c1_2] 31 (0, 0)) (by (with_reducible repeat (first | refine z1e ?_ _ | refine z3e ?_ | refine z2e ?_ _)); exact BK165.out) hb); have n1_ := z0e (y6e (by repeat (first | (with_reducible first | exact HB.out | apply z4e | apply z5e | apply z6e | refine z7e ?_ GE165.out) | exact HB.out)) hb); have n2_ := z0e (hbox); have n3_ := z0e ((by rw [hg]; exact (y7e (by repeat (first | (with_reducible first | exact HB.out | apply z4e | apply z5e | apply z6e | refine z7e ?_ GE165.out) | exact HB.out))) : w.heap.size ≤ gb166)); have n4_ := z0e ((by rw [hg]; exact (y7e (by repeat (first | (with_reducible first | exact HB.out | apply z4e | apply z5e | apply z6e | refine z7e ?_ GE165.out) | exact HB.out))) : w.heap.size ≤ gb166)); have n5_ := z0e ((by rw [hg]; exact Nat.ne_of_lt (blk_lt (g := gb165) (o := .cells #[.int .i64 a1_0, .int .i64 a1_1, .slice A1_2 l1_2.length c1_2] 31 (0, 0)) (by (with_reducible repeat (first | refine z1e ?_ _ | refine z3e ?_ | refine z2e ?_ _)); exact BK165.out)) : gb165 ≠ gb166)); have n6_ := z0e ((by rw [hg]; exact Nat.ne_of_gt (blk_lt (g := gb165) (o := .cells #[.int .i64 a1_0, .int .i64 a1_1, .slice A1_2 l1_2.length c1_2] 31 (0, 0)) (by (with_reducible repeat (first | refine z1e ?_ _ | refine z3e ?_ | refine z2e ?_ _)); exact BK165.out)) : gb166 ≠ gb165)); clear BK165; clear HB; have BK165 := n0_; have HB := n1_; have BK166 := n2_; have GW166 := n3_; have GE166 := n4_; have NB165_166 := n5_; have NB166_165 := n6_; clear n0_ n1_ n2_ n3_ n4_ n5_ n6_; clear hb hbox hg) | ((with_reducible refine gate_callee (f := 9) rfl ?_); refine goesL_ (some 13) rfl rfl Try.func9 (by kernel_rfl) rfl #[.slice A0 l0.length c0] rfl (by (try simp only [List.map_toArray, List.map_cons, List.map_nil]); first | done | rfl | (simp only [List.length_drop, List.length_take]; rfl)) ?_; (with_reducible refine (impl_IsKernel.calls k _ _ l0 true _ ?side1 ?side2 A4.out).mono ?_); (case side1 => repeat (first | exact (y9e HR0.out HB.out) | (with_reducible refine y2e ?_ _) | (with_reducible refine y3e ?_ _) | (with_reducible refine y4e ?_))); (case side2 => exact HC0.out); rintro e w25 ⟨rfl, hb⟩; refine ⟨_, rfl, ?_⟩; have n0_ := z0e (y5e (g := gb165) (o := .cells #[.int .i64 a1_0, .int .i64 a1_1, .slice A1_2 l1_2.length c1_2] 31 (0, 0)) (by (with_reducible repeat (first | refine z1e ?_ _ | refine z3e ?_ | refine z2e ?_ _)); exact BK165.out) hb); have n1_ := z0e (y5e (g := gb166) (o := .cells #[.int .i64 0, .int .i64 0, .slice none 0 0] 31 (0, 0)) (by (with_reducible repeat (first | refine z1e ?_ _ | refine z3e ?_ | refine z2e ?_ _)); exact BK166.out) hb); have n2_ := z0e (y6e (by repeat (first | (with_reducible first | exact HB.out | apply z4e | apply z5e | apply z6e | refine z7e ?_ GE165.out | refine z7e ?_ GE166.out) | exact HB.out)) hb); clear BK165; clear BK166; clear HB; have BK165 := n0_; have BK166 := n1_; have HB := n2_; clear n0_ n1_ n2_; (try clear hb); have hnb26 := NB165_166.out; have hnc26 := NB166_165.out; have hcz27_0 : w25.cell? ⟨gb165, 0, none⟩ = some (.int .i64 a1_0) := (x3e BK165.out 0).trans rfl; have hcz27_1 : w25.cell? ⟨gb165, 1, none⟩ = some (.int .i64 a1_1) := (x3e BK165.out 1).trans rfl; have hcz27_2 : w25.cell? ⟨gb165, 2, none⟩ = some (.slice A1_2 l1_2.length c1_2) := (x3e BK165.out 2).trans rfl; have hfz27_0 := x2e BK165.out 0; have hfz27_1 := x2e BK165.out 1; have hfz27_2 := x2e BK165.out 2) | (go_at_call 42; (with_reducible refine (impl_IsPicture.calls a1_0 a1_1 _ _ l1_2 false _ ?side1 ?side2 A6.out).mono ?_); (case side1 => repeat (first | exact HR1_2.out | exact (y9e HR1_2.out HB.out) | (with_reducible refine y2e ?_ _) | (with_reducible refine y3e ?_ _) | (with_reducible refine y4e ?_))); (case side2 => exact HC1_2.out); rintro e w28 ⟨rfl, hb⟩; have n0_ := z0e (y5e (g := gb165) (o := .cells #[.int .i64 a1_0, .int .i64 a1_1, .slice A1_2 l1_2.length c1_2] 31 (0, 0)) (by (with_reducible repeat (first | refine z1e ?_ _ | refine z3e ?_ | refine z2e ?_ _)); exact BK165.out) hb); have n1_ := z0e (y5e (g := gb166) (o := .cells #[.int .i64 0, .int .i64 0, .slice none 0 0] 31 (0, 0)) (by (with_reducible repeat (first | refine z1e ?_ _ | refine z3e ?_ | refine z2e ?_ _)); exact BK166.out) hb); have n2_ := z0e (y6e (by repeat (first | (with_reducible first | exact HB.out | apply z4e | apply z5e | apply z6e | refine z7e ?_ GE165.out | refine z7e ?_ GE166.out) | exact HB.out)) hb); clear BK165; clear BK166; clear HB; have BK165 := n0_; have BK166 := n1_; have HB := n2_; clear n0_ n1_ n2_; (try clear hb); have hcz29_0 : w28.cell? ⟨gb166, 0, none⟩ = some (.int .i64 0) := (x3e BK166.out 0).trans rfl; have hcz29_1 : w28.cell? ⟨gb166, 1, none⟩ = some (.int .i64 0) := (x3e BK166.out 1).trans rfl; have hcz29_2 : w28.cell? ⟨gb166, 2, none⟩ = some (.slice none 0 0) := (x3e BK166.out 2).trans rfl; have hfz29_0 := x2e BK166.out 0; have hfz29_1 := x2e BK166.out 1; have hfz29_2 := x2e BK166.out 2))
   refine bodyPost_ret (results_ctt rfl _ _ gb166 31 #[.int .i64 0, .int .i64 0, .slice none 0 0] (0, 0) _ rfl (by (with_reducible repeat (first | refine z1e ?_ _ | refine z3e ?_ | refine z2e ?_ _)); refine blk_put (cs := #[.int .i64 0, .int .i64 0, .slice none 0 0]) ?_ 2 _ rfl; (with_reducible repeat (first | refine z1e ?_ _ | refine z3e ?_ | refine z2e ?_ _)); refine blk_put (cs := #[.int .i64 0, .int .i64 0, .slice none 0 0]) ?_ 1 _ rfl; (with_reducible repeat (first | refine z1e ?_ _ | refine z3e ?_ | refine z2e ?_ _)); refine blk_put (cs := #[.int .i64 0, .int .i64 0, .slice none 0 0]) ?_ 0 _ rfl; (with_reducible repeat (first | refine z1e ?_ _ | refine z3e ?_ | refine z2e ?_ _)); exact BK166.out) Try.underlying31 rfl (by kernel_rfl)) rfl ?_
   exact ⟨_, by first | rfl | (simp [errW_none, errW_some] <;> rfl) | (simp [*, errW_none, errW_some] <;> rfl), by first | exact Kd.R_nil _ _ _ _ _ | exact Kd.N_nil _ _ _ _ _ | exact Kd.V_nil _ _ _ _ _ | exact Kd.Q_nil _ _ _ _ _ | exact Kd.S_nil _ _ _ _ _, by repeat (first | (with_reducible first | exact HB.out | apply z4e | apply z5e | apply z6e | refine z7e ?_ GE165.out | refine z7e ?_ GE166.out) | exact HB.out)⟩
 ·replace c5 := Bool.eq_false_iff.mpr c5
  subst c5
  have H1 : (some (0, 0, ([] : List Int), 0, false)) = some (r1, r2, r3, r4, r5) := by rw [if_neg (show ¬ (false = true) by decide)] at H; first | exact H | (simp only [if_true] at H ⊢; exact H)
  clear H
  have H := H1
  clear H1
  simp only [Option.some.injEq, Prod.mk.injEq] at H
  obtain ⟨rfl, rfl, rfl, rfl, rfl⟩ := H
  go_enter Try.func13, Try.ntmps13
  go_wp2_with (first | ((with_reducible refine gate_dst (N := 4) rfl ?_); refine box_event ?hg (N := 4) ?hd (cs := #[.int .i64 a1_0, .int .i64 a1_1, .slice A1_2 l1_2.length c1_2]) (t := 31) ?hr ?_; (case hd => rfl); (case hg => rfl); (case hr => first | (go_simp; done) | (go_simp; rfl)); intro gb165 hg w30 hbox hb; have n0_ := z0e (y6e (by repeat (first | (with_reducible first | exact HB.out | apply z4e | apply z5e | apply z6e) | exact HB.out)) hb); have n1_ := z0e (hbox); have n2_ := z0e ((by rw [hg]; exact (y7e (by repeat (first | (with_reducible first | exact HB.out | apply z4e | apply z5e | apply z6e) | exact HB.out))) : w.heap.size ≤ gb165)); have n3_ := z0e ((by rw [hg]; exact (y7e (by repeat (first | (with_reducible first | exact HB.out | apply z4e | apply z5e | apply z6e) | exact HB.out))) : w.heap.size ≤ gb165)); clear HB; have HB := n0_; have BK165 := n1_; have GW165 := n2_; have GE165 := n3_; clear n0_ n1_ n2_ n3_; clear hb hbox hg) | ((with_reducible refine gate_dst (N := 6) rfl ?_); refine box_event ?hg (N := 6) ?hd (cs := #[.int .i64 0, .int .i64 0, .slice none 0 0]) (t := 31) ?hr ?_; (case hd => rfl); (case hg => rfl); (case hr => first | (go_simp; done) | (go_simp; rfl)); intro gb166 hg w31 hbox hb; have n0_ := z0e (y5e (g := gb165) (o := .cells #[.int .i64 a1_0, .int .i64 a1_1, .slice A1_2 l1_2.length c1_2] 31 (0, 0)) (by (with_reducible repeat (first | refine z1e ?_ _ | refine z3e ?_ | refine z2e ?_ _)); exact BK165.out) hb); have n1_ := z0e (y6e (by repeat (first | (with_reducible first | exact HB.out | apply z4e | apply z5e | apply z6e | refine z7e ?_ GE165.out) | exact HB.out)) hb); have n2_ := z0e (hbox); have n3_ := z0e ((by rw [hg]; exact (y7e (by repeat (first | (with_reducible first | exact HB.out | apply z4e | apply z5e | apply z6e | refine z7e ?_ GE165.out) | exact HB.out))) : w.heap.size ≤ gb166)); have n4_ := z0e ((by rw [hg]; exact (y7e (by repeat (first | (with_reducible first | exact HB.out | apply z4e | apply z5e | apply z6e | refine z7e ?_ GE165.out) | exact HB.out))) : w.heap.size ≤ gb166)); have n5_ := z0e ((by rw [hg]; exact Nat.ne_of_lt (blk_lt (g := gb165) (o := .cells #[.int .i64 a1_0, .int .i64 a1_1, .slice A1_2 l1_2.length c1_2] 31 (0, 0)) (by (with_reducible repeat (first | refine z1e ?_ _ | refine z3e ?_ | refine z2e ?_ _)); exact BK165.out)) : gb165 ≠ gb166)); have n6_ := z0e ((by rw [hg]; exact Nat.ne_of_gt (blk_lt (g := gb165) (o := .cells #[.int .i64 a1_0, .int .i64 a1_1, .slice A1_2 l1_2.length c1_2] 31 (0, 0)) (by (with_reducible repeat (first | refine z1e ?_ _ | refine z3e ?_ | refine z2e ?_ _)); exact BK165.out)) : gb166 ≠ gb165)); clear BK165; clear HB; have BK165 := n0_; have HB := n1_; have BK166 := n2_; have GW166 := n3_; have GE166 := n4_; have NB165_166 := n5_; have NB166_165 := n6_; clear n0_ n1_ n2_ n3_ n4_ n5_ n6_; clear hb hbox hg) | ((with_reducible refine gate_callee (f := 9) rfl ?_); refine goesL_ (some 13) rfl rfl Try.func9 (by kernel_rfl) rfl #[.slice A0 l0.length c0] rfl (by (try simp only [List.map_toArray, List.map_cons, List.map_nil]); first | done | rfl | (simp only [List.length_drop, List.length_take]; rfl)) ?_; (with_reducible refine (impl_IsKernel.calls k _ _ l0 false _ ?side1 ?side2 A4.out).mono ?_); (case side1 => repeat (first | exact (y9e HR0.out HB.out) | (with_reducible refine y2e ?_ _) | (with_reducible refine y3e ?_ _) | (with_reducible refine y4e ?_))); (case side2 => exact HC0.out); rintro e w32 ⟨rfl, hb⟩; refine ⟨_, rfl, ?_⟩; have n0_ := z0e (y5e (g := gb165) (o := .cells #[.int .i64 a1_0, .int .i64 a1_1, .slice A1_2 l1_2.length c1_2] 31 (0, 0)) (by (with_reducible repeat (first | refine z1e ?_ _ | refine z3e ?_ | refine z2e ?_ _)); exact BK165.out) hb); have n1_ := z0e (y5e (g := gb166) (o := .cells #[.int .i64 0, .int .i64 0, .slice none 0 0] 31 (0, 0)) (by (with_reducible repeat (first | refine z1e ?_ _ | refine z3e ?_ | refine z2e ?_ _)); exact BK166.out) hb); have n2_ := z0e (y6e (by repeat (first | (with_reducible first | exact HB.out | apply z4e | apply z5e | apply z6e | refine z7e ?_ GE165.out | refine z7e ?_ GE166.out) | exact HB.out)) hb); clear BK165; clear BK166; clear HB; have BK165 := n0_; have BK166 := n1_; have HB := n2_; clear n0_ n1_ n2_; (try clear hb); have hnb33 := NB166_165.out; have hnc33 := NB165_166.out; have hcz34_0 : w32.cell? ⟨gb166, 0, none⟩ = some (.int .i64 0) := (x3e BK166.out 0).trans rfl; have hcz34_1 : w32.cell? ⟨gb166, 1, none⟩ = some (.int .i64 0) := (x3e BK166.out 1).trans rfl; have hcz34_2 : w32.cell? ⟨gb166, 2, none⟩ = some (.slice none 0 0) := (x3e BK166.out 2).trans rfl; have hfz34_0 := x2e BK166.out 0; have hfz34_1 := x2e BK166.out 1; have hfz34_2 := x2e BK166.out 2))
  refine bodyPost_ret (results_ctt rfl _ _ gb166 31 #[.int .i64 0, .int .i64 0, .slice none 0 0] (0, 0) _ rfl (by (with_reducible repeat (first | refine z1e ?_ _ | refine z3e ?_ | refine z2e ?_ _)); refine blk_put (cs := #[.int .i64 0, .int .i64 0, .slice none 0 0]) ?_ 2 _ rfl; (with_reducible repeat (first | refine z1e ?_ _ | refine z3e ?_ | refine z2e ?_ _)); refine blk_put (cs := #[.int .i64 0, .int .i64 0, .slice none 0 0]) ?_ 1 _ rfl; (with_reducible repeat (first | refine z1e ?_ _ | refine z3e ?_ | refine z2e ?_ _)); refine blk_put (cs := #[.int .i64 0, .int .i64 0, .slice none 0 0]) ?_ 0 _ rfl; (with_reducible repeat (first | refine z1e ?_ _ | refine z3e ?_ | refine z2e ?_ _)); exact BK166.out) Try.underlying31 rfl (by kernel_rfl)) rfl ?_
  exact ⟨_, by first | rfl | (simp [errW_none, errW_some] <;> rfl) | (simp [*, errW_none, errW_some] <;> rfl), by first | exact Kd.R_nil _ _ _ _ _ | exact Kd.N_nil _ _ _ _ _ | exact Kd.V_nil _ _ _ _ _ | exact Kd.Q_nil _ _ _ _ _ | exact Kd.S_nil _ _ _ _ _, by repeat (first | (with_reducible first | exact HB.out | apply z4e | apply z5e | apply z6e | refine z7e ?_ GE165.out | refine z7e ?_ GE166.out) | exact HB.out)⟩

/-! ### laws_szPartS: function 22 -/
def laws_szPartS.f (l0 : List (S74)) (a1 : Int) : Option (Int) := if (wrap64 (a1 - (l0.length : Int))) < 0 then (some (-1)) else (some (wrap64 (a1 - (l0.length : Int))))
set_option maxHeartbeats 8000000 in
set_option maxRecDepth 100000 in
theorem laws_szPartS.calls (A0 : Option Addr) (c0 : Nat) (l0 : List (S74)) (a1 : Int) (r : Int) (w : World) (hr0 : Kd.C k74 w A0 l0.length l0) (hc0 : l0.length ≤ c0) (h : laws_szPartS.f l0 a1 = some r) :
  Calls Try.prog 22 #[.slice A0 l0.length c0, .int .i64 a1] w fun e w' => e = .returned (.int .i64 r) ∧ Drawn0 w w' := by
 have HR0 := z0e hr0
 have HC0 := z0e hc0
 clear hr0 hc0
 have H : (if (wrap64 (a1 - (l0.length : Int))) < 0 then (some (-1)) else (some (wrap64 (a1 - (l0.length : Int))))) = some r := h
 clear h
 by_cases c3 : (wrap64 (a1 - (l0.length : Int))) < 0
 ·rw [if_pos c3] at H
  have c3b0 : decide ((wrap64 (a1 - (l0.length : Int))) < 0) = true := decide_eq_true c3
  clear c3
  obtain rfl := Option.some.inj H
  go_enter Try.func22, Try.ntmps22
  go_wp2
  go_ret
  exact ⟨by first | rfl | (simp; done) | (simp [*]; done), by repeat (first | exact Drawn0.refl _ | apply Drawn0.step)⟩
 ·rw [if_neg c3] at H
  have c3b0 : decide ((wrap64 (a1 - (l0.length : Int))) < 0) = false := decide_eq_false c3
  clear c3
  obtain rfl := Option.some.inj H
  go_enter Try.func22, Try.ntmps22
  go_wp2
  go_ret
  exact ⟨by first | rfl | (simp; done) | (simp [*]; done), by repeat (first | exact Drawn0.refl _ | apply Drawn0.step)⟩

/-! ### laws_szIntS: function 54 -/
def laws_szIntS.f (l0 : List Int) (a1 : Int) : Option (Int) := if (wrap64 (a1 - (l0.length : Int))) < 0 then (some (-1)) else (some (wrap64 (a1 - (l0.length : Int))))
set_option maxHeartbeats 8000000 in
set_option maxRecDepth 100000 in
theorem laws_szIntS.calls (A0 : Option Addr) (c0 : Nat) (l0 : List Int) (a1 : Int) (r : Int) (w : World) (hr0 : Kd.C (Kd.int .i64) w A0 l0.length l0) (hc0 : l0.length ≤ c0) (h : laws_szIntS.f l0 a1 = some r) :
  Calls Try.prog 54 #[.slice A0 l0.length c0, .int .i64 a1] w fun e w' => e = .returned (.int .i64 r) ∧ Drawn0 w w' := by
 have HR0 := z0e hr0
 have HC0 := z0e hc0
 clear hr0 hc0
 have H : (if (wrap64 (a1 - (l0.length : Int))) < 0 then (some (-1)) else (some (wrap64 (a1 - (l0.length : Int))))) = some r := h
 clear h
 by_cases c3 : (wrap64 (a1 - (l0.length : Int))) < 0
 ·rw [if_pos c3] at H
  have c3b0 : decide ((wrap64 (a1 - (l0.length : Int))) < 0) = true := decide_eq_true c3
  clear c3
  obtain rfl := Option.some.inj H
  go_enter Try.func54, Try.ntmps54
  go_wp2
  go_ret
  exact ⟨by first | rfl | (simp; done) | (simp [*]; done), by repeat (first | exact Drawn0.refl _ | apply Drawn0.step)⟩
 ·rw [if_neg c3] at H
  have c3b0 : decide ((wrap64 (a1 - (l0.length : Int))) < 0) = false := decide_eq_false c3
  clear c3
  obtain rfl := Option.some.inj H
  go_enter Try.func54, Try.ntmps54
  go_wp2
  go_ret
  exact ⟨by first | rfl | (simp; done) | (simp [*]; done), by repeat (first | exact Drawn0.refl _ | apply Drawn0.step)⟩

/-! ### laws_szPicture: function 23 -/
def laws_szPicture.f (a0_0 : Int) (a0_1 : Int) (l0_2 : List Int) (a1 : Int) : Option (Int) := (laws_szIntS.f l0_2 a1).bind fun t180 => (if t180 < 0 then (some (-1)) else (some t180))
set_option maxHeartbeats 8000000 in
set_option maxRecDepth 100000 in
theorem laws_szPicture.calls (a0_0 : Int) (a0_1 : Int) (A0_2 : Option Addr) (c0_2 : Nat) (l0_2 : List Int) (a1 : Int) (r : Int) (w : World) (hr0_2 : Kd.C (Kd.int .i64) w A0_2 l0_2.length l0_2) (hc0_2 : l0_2.length ≤ c0_2) (h : laws_szPicture.f a0_0 a0_1 l0_2 a1 = some r) :
  Calls Try.prog 23 #[.agg #[.int .i64 a0_0, .int .i64 a0_1, .slice A0_2 l0_2.length c0_2], .int .i64 a1] w fun e w' => e = .returned (.int .i64 r) ∧ Below w.heap.size w w' := by
 have hu44 := Try.underlying44
 have HR0_2 := z0e hr0_2
 have HC0_2 := z0e hc0_2
 clear hr0_2 hc0_2
 have HB := z0e (Below.refl w.heap.size w)
 have H : ((laws_szIntS.f l0_2 a1).bind fun t180 => (if t180 < 0 then (some (-1)) else (some t180))) = some r := h
 clear h
 replace H := Option.bind_eq_some_iff.mp H
 obtain ⟨t180, A30, H⟩ := H
 replace H : (if t180 < 0 then (some (-1)) else (some t180)) = some r := H
 have A3 := z0e A30
 clear A30
 by_cases c4 : t180 < 0
 ·rw [if_pos c4] at H
  have c4b0 : decide (t180 < 0) = true := decide_eq_true c4
  clear c4
  obtain rfl := Option.some.inj H
  go_enter Try.func23, Try.ntmps23
  go_wp2_with (first | ((with_reducible refine gate_dst (N := 2) rfl ?_); refine box_event ?hg (N := 2) ?hd (cs := #[.int .i64 a0_0, .int .i64 a0_1, .slice A0_2 l0_2.length c0_2]) (t := 44) ?hr ?_; (case hd => rfl); (case hg => rfl); (case hr => first | (go_simp; done) | (go_simp; rfl)); intro gb179 hg w5 hbox hb; have n0_ := z0e (y6e (by repeat (first | (with_reducible first | exact HB.out | apply z4e | apply z5e | apply z6e) | exact HB.out)) hb); have n1_ := z0e (hbox); have n2_ := z0e ((by rw [hg]; exact (y7e (by repeat (first | (with_reducible first | exact HB.out | apply z4e | apply z5e | apply z6e) | exact HB.out))) : w.heap.size ≤ gb179)); have n3_ := z0e ((by rw [hg]; exact (y7e (by repeat (first | (with_reducible first | exact HB.out | apply z4e | apply z5e | apply z6e) | exact HB.out))) : w.heap.size ≤ gb179)); clear HB; have HB := n0_; have BK179 := n1_; have GW179 := n2_; have GE179 := n3_; clear n0_ n1_ n2_ n3_; clear hb hbox hg; have hcz6_0 : w5.cell? ⟨gb179, 0, none⟩ = some (.int .i64 a0_0) := (x3e BK179.out 0).trans rfl; have hcz6_1 : w5.cell? ⟨gb179, 1, none⟩ = some (.int .i64 a0_1) := (x3e BK179.out 1).trans rfl; have hcz6_2 : w5.cell? ⟨gb179, 2, none⟩ = some (.slice A0_2 l0_2.length c0_2) := (x3e BK179.out 2).trans rfl; have hfz6_0 := x2e BK179.out 0; have hfz6_1 := x2e BK179.out 1; have hfz6_2 := x2e BK179.out 2) | ((with_reducible refine gate_callee (f := 54) rfl ?_); refine goesL_ (some 8) rfl rfl Try.func54 (by kernel_rfl) rfl #[.slice A0_2 l0_2.length c0_2, .int .i64 a1] rfl (by (try simp only [List.map_toArray, List.map_cons, List.map_nil]); first | done | rfl | (simp only [List.length_drop, List.length_take]; rfl)) ?_; (with_reducible refine (laws_szIntS.calls _ _ l0_2 a1 t180 _ ?side1 ?side2 A3.out).mono ?_); (case side1 => repeat (first | exact HR0_2.out | exact (y9e HR0_2.out HB.out) | (with_reducible refine y2e ?_ _) | (with_reducible refine y3e ?_ _) | (with_reducible refine y4e ?_))); (case side2 => exact HC0_2.out); rintro e w' ⟨rfl, ⟨nd, rfl⟩⟩; refine ⟨_, rfl, ?_⟩))
  go_ret
  exact ⟨by first | rfl | (simp [errW_none, errW_some] <;> rfl) | (simp [*, errW_none, errW_some] <;> rfl), by repeat (first | (with_reducible first | exact HB.out | apply z4e | apply z5e | apply z6e | refine z7e ?_ GE179.out) | exact HB.out)⟩
 ·rw [if_neg c4] at H
  have c4b0 : decide (t180 < 0) = false := decide_eq_false c4
  clear c4
  obtain rfl := Option.some.inj H
  go_enter Try.func23, Try.ntmps23
  go_wp2_with (first | ((with_reducible refine gate_dst (N := 2) rfl ?_); refine box_event ?hg (N := 2) ?hd (cs := #[.int .i64 a0_0, .int .i64 a0_1, .slice A0_2 l0_2.length c0_2]) (t := 44) ?hr ?_; (case hd => rfl); (case hg => rfl); (case hr => first | (go_simp; done) | (go_simp; rfl)); intro gb179 hg w7 hbox hb; have n0_ := z0e (y6e (by repeat (first | (with_reducible first | exact HB.out | apply z4e | apply z5e | apply z6e) | exact HB.out)) hb); have n1_ := z0e (hbox); have n2_ := z0e ((by rw [hg]; exact (y7e (by repeat (first | (with_reducible first | exact HB.out | apply z4e | apply z5e | apply z6e) | exact HB.out))) : w.heap.size ≤ gb179)); have n3_ := z0e ((by rw [hg]; exact (y7e (by repeat (first | (with_reducible first | exact HB.out | apply z4e | apply z5e | apply z6e) | exact HB.out))) : w.heap.size ≤ gb179)); clear HB; have HB := n0_; have BK179 := n1_; have GW179 := n2_; have GE179 := n3_; clear n0_ n1_ n2_ n3_; clear hb hbox hg; have hcz8_0 : w7.cell? ⟨gb179, 0, none⟩ = some (.int .i64 a0_0) := (x3e BK179.out 0).trans rfl; have hcz8_1 : w7.cell? ⟨gb179, 1, none⟩ = some (.int .i64 a0_1) := (x3e BK179.out 1).trans rfl; have hcz8_2 : w7.cell? ⟨gb179, 2, none⟩ = some (.slice A0_2 l0_2.length c0_2) := (x3e BK179.out 2).trans rfl; have hfz8_0 := x2e BK179.out 0; have hfz8_1 := x2e BK179.out 1; have hfz8_2 := x2e BK179.out 2) | ((with_reducible refine gate_callee (f := 54) rfl ?_); refine goesL_ (some 8) rfl rfl Try.func54 (by kernel_rfl) rfl #[.slice A0_2 l0_2.length c0_2, .int .i64 a1] rfl (by (try simp only [List.map_toArray, List.map_cons, List.map_nil]); first | done | rfl | (simp only [List.length_drop, List.length_take]; rfl)) ?_; (with_reducible refine (laws_szIntS.calls _ _ l0_2 a1 t180 _ ?side1 ?side2 A3.out).mono ?_); (case side1 => repeat (first | exact HR0_2.out | exact (y9e HR0_2.out HB.out) | (with_reducible refine y2e ?_ _) | (with_reducible refine y3e ?_ _) | (with_reducible refine y4e ?_))); (case side2 => exact HC0_2.out); rintro e w' ⟨rfl, ⟨nd, rfl⟩⟩; refine ⟨_, rfl, ?_⟩))
  go_ret
  exact ⟨by first | rfl | (simp [errW_none, errW_some] <;> rfl) | (simp [*, errW_none, errW_some] <;> rfl), by repeat (first | (with_reducible first | exact HB.out | apply z4e | apply z5e | apply z6e | refine z7e ?_ GE179.out) | exact HB.out)⟩

/-! ### laws_toPart: function 56 -/
def laws_toPart.f (a0_0 : Int) (a0_1 : Int) (a0_2 : Int) : Option (Int × Int × Int) := some (a0_0, a0_1, a0_2)
set_option maxHeartbeats 8000000 in
set_option maxRecDepth 100000 in
theorem laws_toPart.calls (a0_0 : Int) (a0_1 : Int) (a0_2 : Int) (r1 : Int) (r2 : Int) (r3 : Int) (w : World) (h : laws_toPart.f a0_0 a0_1 a0_2 = some (r1, r2, r3)) :
  Calls Try.prog 56 #[.agg #[.int .i64 a0_0, .int .i64 a0_1, .int .i64 a0_2]] w fun e w' => e = .returned (.agg #[.int .i64 r1, .int .i64 r2, .int .i64 r3]) ∧ Below w.heap.size w w' := by
 have hu74 := Try.underlying74
 have hu60 := Try.underlying60
 have HB := z0e (Below.refl w.heap.size w)
 have H : (some (a0_0, a0_1, a0_2)) = some (r1, r2, r3) := h
 clear h
 simp only [Option.some.injEq, Prod.mk.injEq] at H
 obtain ⟨rfl, rfl, rfl⟩ := H
 go_enter Try.func56, Try.ntmps56
 go_wp2_with (first | ((with_reducible refine gate_dst (N := 1) rfl ?_); refine box_event ?hg (N := 1) ?hd (cs := #[.int .i64 a0_0, .int .i64 a0_1, .int .i64 a0_2]) (t := 74) ?hr ?_; (case hd => rfl); (case hg => rfl); (case hr => first | (go_simp; done) | (go_simp; rfl)); intro gb181 hg w2 hbox hb; have n0_ := z0e (y6e (by repeat (first | (with_reducible first | exact HB.out | apply z4e | apply z5e | apply z6e) | exact HB.out)) hb); have n1_ := z0e (hbox); have n2_ := z0e ((by rw [hg]; exact (y7e (by repeat (first | (with_reducible first | exact HB.out | apply z4e | apply z5e | apply z6e) | exact HB.out))) : w.heap.size ≤ gb181)); have n3_ := z0e ((by rw [hg]; exact (y7e (by repeat (first | (with_reducible first | exact HB.out | apply z4e | apply z5e | apply z6e) | exact HB.out))) : w.heap.size ≤ gb181)); clear HB; have HB := n0_; have BK181 := n1_; have GW181 := n2_; have GE181 := n3_; clear n0_ n1_ n2_ n3_; clear hb hbox hg) | ((with_reducible refine gate_dst (N := 2) rfl ?_); refine box_event ?hg (N := 2) ?hd (cs := #[.int .i64 0, .int .i64 0, .int .i64 0]) (t := 60) ?hr ?_; (case hd => rfl); (case hg => rfl); (case hr => first | (go_simp; done) | (go_simp; rfl)); intro gb182 hg w3 hbox hb; have n0_ := z0e (y5e (g := gb181) (o := .cells #[.int .i64 a0_0, .int .i64 a0_1, .int .i64 a0_2] 74 (0, 0)) (by (with_reducible repeat (first | refine z1e ?_ _ | refine z3e ?_ | refine z2e ?_ _)); exact BK181.out) hb); have n1_ := z0e (y6e (by repeat (first | (with_reducible first | exact HB.out | apply z4e | apply z5e | apply z6e | refine z7e ?_ GE181.out) | exact HB.out)) hb); have n2_ := z0e (hbox); have n3_ := z0e ((by rw [hg]; exact (y7e (by repeat (first | (with_reducible first | exact HB.out | apply z4e | apply z5e | apply z6e | refine z7e ?_ GE181.out) | exact HB.out))) : w.heap.size ≤ gb182)); have n4_ := z0e ((by rw [hg]; exact (y7e (by repeat (first | (with_reducible first | exact HB.out | apply z4e | apply z5e | apply z6e | refine z7e ?_ GE181.out) | exact HB.out))) : w.heap.size ≤ gb182)); have n5_ := z0e ((by rw [hg]; exact Nat.ne_of_lt (blk_lt (g := gb181) (o := .cells #[.int .i64 a0_0, .int .i64 a0_1, .int .i64 a0_2] 74 (0, 0)) (by (with_reducible repeat (first | refine z1e ?_ _ | refine z3e ?_ | refine z2e ?_ _)); exact BK181.out)) : gb181 ≠ gb182)); have n6_ := z0e ((by rw [hg]; exact Nat.ne_of_gt (blk_lt (g := gb181) (o := .cells #[.int .i64 a0_0, .int .i64 a0_1, .int .i64 a0_2] 74 (0, 0)) (by (with_reducible repeat (first | refine z1e ?_ _ | refine z3e ?_ | refine z2e ?_ _)); exact BK181.out)) : gb182 ≠ gb181)); clear BK181; clear HB; have BK181 := n0_; have HB := n1_; have BK182 := n2_; have GW182 := n3_; have GE182 := n4_; have NB181_182 := n5_; have NB182_181 := n6_; clear n0_ n1_ n2_ n3_ n4_ n5_ n6_; clear hb hbox hg) | ((with_reducible refine gate_dst (N := 3) rfl ?_); refine box_event ?hg (N := 3) ?hd (cs := #[.int .i64 0, .int .i64 0, .int .i64 0]) (t := 60) ?hr ?_; (case hd => rfl); (case hg => rfl); (case hr => first | (go_simp; done) | (go_simp; rfl)); intro gb183 hg w4 hbox hb; have n0_ := z0e (y5e (g := gb181) (o := .cells #[.int .i64 a0_0, .int .i64 a0_1, .int .i64 a0_2] 74 (0, 0)) (by (with_reducible repeat (first | refine z1e ?_ _ | refine z3e ?_ | refine z2e ?_ _)); exact BK181.out) hb); have n1_ := z0e (y5e (g := gb182) (o := .cells #[.int .i64 0, .int .i64 0, .int .i64 0] 60 (0, 0)) (by (with_reducible repeat (first | refine z1e ?_ _ | refine z3e ?_ | refine z2e ?_ _)); exact BK182.out) hb); have n2_ := z0e (y6e (by repeat (first | (with_reducible first | exact HB.out | apply z4e | apply z5e | apply z6e | refine z7e ?_ GE181.out | refine z7e ?_ GE182.out) | exact HB.out)) hb); have n3_ := z0e (hbox); have n4_ := z0e ((by rw [hg]; exact (y7e (by repeat (first | (with_reducible first | exact HB.out | apply z4e | apply z5e | apply z6e | refine z7e ?_ GE181.out | refine z7e ?_ GE182.out) | exact HB.out))) : w.heap.size ≤ gb183)); have n5_ := z0e ((by rw [hg]; exact (y7e (by repeat (first | (with_reducible first | exact HB.out | apply z4e | apply z5e | apply z6e | refine z7e ?_ GE181.out | refine z7e ?_ GE182.out) | exact HB.out))) : w.heap.size ≤ gb183)); have n6_ := z0e ((by rw [hg]; exact Nat.ne_of_lt (blk_lt (g := gb181) (o := .cells #[.int .i64 a0_0, .int .i64 a0_1, .int .i64 a0_2] 74 (0, 0)) (by (with_reducible repeat (first | refine z1e ?_ _ | refine z3e ?_ | refine z2e ?_ _)); exact BK181.out)) : gb181 ≠ gb183)); have n7_ := z0e ((by rw [hg]; exact Nat.ne_of_gt (blk_lt (g := gb181) (o := .cells #[.int .i64 a0_0, .int .i64 a0_1, .int .i64 a0_2] 74 (0, 0)) (by (with_reducible repeat (first | refine z1e ?_ _ | refine z3e ?_ | refine z2e ?_ _)); exact BK181.out)) : gb183 ≠ gb181)); have n8_ := z0e ((by rw [hg]; exact Nat.ne_of_lt (blk_lt (g := gb182) (o := .cells #[.int .i64 0, .int .i64 0, .int .i64 0] 60 (0, 0)) (by (with_reducible repeat (first | refine z1e ?_ _ | refine z3e ?_ | refine z2e ?_ _)); exact BK182.out)) : gb182 ≠ gb183)); have n9_ := z0e ((by rw [hg]; exact Nat.ne_of_gt (blk_lt (g := gb182) (o := .cells #[.int .i64 0, .int .i64 0, .int .i64 0] 60 (0, 0)) (by (with_reducible repeat (first | refine z1e ?_ _ | refine z3e ?_ | refine z2e ?_ _)); exact BK182.out)) : gb183 ≠ gb182)); clear BK181; clear BK182; clear HB; have BK181 := n0_; have BK182 := n1_; have HB := n2_; have BK183 := n3_; have GW183 := n4_; have GE183 := n5_; have NB181_183 := n6_; have NB183_181 := n7_; have NB182_183 := n8_; have NB183_182 := n9_; clear n0_ n1_ n2_ n3_ n4_ n5_ n6_ n7_ n8_ n9_; clear hb hbox hg; have hnb5 := NB181_182.out; have hnc5 := NB182_181.out; have hnb6 := NB181_183.out; have hnc6 := NB183_181.out; have hcz7_0 : w4.cell? ⟨gb181, 0, none⟩ = some (.int .i64 a0_0) := (x3e BK181.out 0).trans rfl; have hcz7_1 : w4.cell? ⟨gb181, 1, none⟩ = some (.int .i64 a0_1) := (x3e BK181.out 1).trans rfl; have hcz7_2 : w4.cell? ⟨gb181, 2, none⟩ = some (.int .i64 a0_2) := (x3e BK181.out 2).trans rfl; have hfz7_0 := x2e BK181.out 0; have hfz7_1 := x2e BK181.out 1; have hfz7_2 := x2e BK181.out 2; have hnb8 := NB183_182.out; have hnc8 := NB182_183.out; have hcz9_0 : w4.cell? ⟨gb183, 0, none⟩ = some (.int .i64 0) := (x3e BK183.out 0).trans rfl; have hcz9_1 : w4.cell? ⟨gb183, 1, none⟩ = some (.int .i64 0) := (x3e BK183.out 1).trans rfl; have hcz9_2 : w4.cell? ⟨gb183, 2, none⟩ = some (.int .i64 0) := (x3e BK183.out 2).trans rfl; have hfz9_0 := x2e BK183.out 0; have hfz9_1 := x2e BK183.out 1; have hfz9_2 := x2e BK183.out 2; have hcz10_0 : w4.cell? ⟨gb182, 0, none⟩ = some (.int .i64 0) := (x3e BK182.out 0).trans rfl; have hcz10_1 : w4.cell? ⟨gb182, 1, none⟩ = some (.int .i64 0) := (x3e BK182.out 1).trans rfl; have hcz10_2 : w4.cell? ⟨gb182, 2, none⟩ = some (.int .i64 0) := (x3e BK182.out 2).trans rfl; have hfz10_0 := x2e BK182.out 0; have hfz10_1 := x2e BK182.out 1; have hfz10_2 := x2e BK182.out 2))
 refine bodyPost_ret (results_cell_row rfl _ _ gb182 60 #[.int .i64 a0_0, .int .i64 a0_1, .int .i64 a0_2] (0, 0) _ rfl (by (with_reducible repeat (first | refine z1e ?_ _ | refine z3e ?_ | refine z2e ?_ _)); refine blk_put (cs := #[.int .i64 a0_0, .int .i64 a0_1, .int .i64 0]) ?_ 2 _ rfl; (with_reducible repeat (first | refine z1e ?_ _ | refine z3e ?_ | refine z2e ?_ _)); refine blk_put (cs := #[.int .i64 a0_0, .int .i64 0, .int .i64 0]) ?_ 1 _ rfl; (with_reducible repeat (first | refine z1e ?_ _ | refine z3e ?_ | refine z2e ?_ _)); refine blk_put (cs := #[.int .i64 0, .int .i64 0, .int .i64 0]) ?_ 0 _ rfl; (with_reducible repeat (first | refine z1e ?_ _ | refine z3e ?_ | refine z2e ?_ _)); refine x8e ?_ NB182_183.out _; (with_reducible repeat (first | refine z1e ?_ _ | refine z3e ?_ | refine z2e ?_ _)); refine x8e ?_ NB182_183.out _; (with_reducible repeat (first | refine z1e ?_ _ | refine z3e ?_ | refine z2e ?_ _)); refine x8e ?_ NB182_183.out _; (with_reducible repeat (first | refine z1e ?_ _ | refine z3e ?_ | refine z2e ?_ _)); exact BK182.out) Try.underlying60 rfl (by kernel_rfl)) rfl ?_
 exact ⟨by first | rfl | (simp [errW_none, errW_some] <;> rfl) | (simp [*, errW_none, errW_some] <;> rfl), by repeat (first | (with_reducible first | exact HB.out | apply z4e | apply z5e | apply z6e | refine z7e ?_ GE181.out | refine z7e ?_ GE182.out | refine z7e ?_ GE183.out) | exact HB.out)⟩

/-! ### laws_toPartS: function 25 -/
def laws_toPartS.l0 : Nat → List (S74) → List (S60) → Int → Option ((List (S60)))
 | 0, _, _, _ => none
 | k + 1, x0, x3, x4 => if x4 < (x0.length : Int) then (if 0 ≤ x4 then ((laws_toPart.f ((rd_T74 x0 x4).f0) ((rd_T74 x0 x4).f1) ((rd_T74 x0 x4).f2)).bind fun bt188 => (if x4 < (x3.length : Int) then (laws_toPartS.l0 k x0 (x3.set (x4 : Int).toNat (⟨bt188.1, bt188.2.1, bt188.2.2⟩ : S60)) (wrap64 (x4 + 1))) else (none))) else (none)) else (some x3)
def laws_toPartS.f (k : Nat) (l0 : List (S74)) : Option ((List (S60))) := if 0 ≤ (l0.length : Int) then (if ((l0.length : Int) : Int).toNat ≤ 11728124029610 then (laws_toPartS.l0 k l0 (List.replicate ((l0.length : Int) : Int).toNat z60) 0) else (none)) else (none)
set_option maxHeartbeats 8000000 in
set_option maxRecDepth 100000 in
theorem laws_toPartS.calls (k : Nat) (A0 : Option Addr) (c0 : Nat) (l0 : List (S74)) (r : List (S60)) (w : World) (hr0 : Kd.C k74 w A0 l0.length l0) (hc0 : l0.length ≤ c0) (h : laws_toPartS.f k l0 = some r) :
  Calls Try.prog 25 #[.slice A0 l0.length c0] w fun e w' => ∃ v0_ : Value, e = .returned (v0_) ∧ Kd.R k60 60 w' w.heap.size (fun _ => True) v0_ r ∧ Below w.heap.size w w' := by
 have hu74 := Try.underlying74
 have hu60 := Try.underlying60
 have HR0 := z0e hr0
 have HC0 := z0e hc0
 clear hr0 hc0
 have HB := z0e (Below.refl w.heap.size w)
 have H : (if 0 ≤ (l0.length : Int) then (if ((l0.length : Int) : Int).toNat ≤ 11728124029610 then (laws_toPartS.l0 k l0 (List.replicate ((l0.length : Int) : Int).toNat z60) 0) else (none)) else (none)) = some r := h
 clear h
 by_cases c2 : 0 ≤ (l0.length : Int)
 ·rw [if_pos c2] at H
  have c2b0 := eq_true c2
  have c2b1 : decide (0 ≤ (l0.length : Int)) = true := decide_eq_true c2
  clear c2
  by_cases c3 : ((l0.length : Int) : Int).toNat ≤ 11728124029610
  ·rw [if_pos c3] at H
   have c3b0 := eq_true c3
   have c3b1 : decide (((l0.length : Int) : Int).toNat ≤ 11728124029610) = true := decide_eq_true c3
   clear c3
   obtain ⟨y184, hy184⟩ : ∃ y_ : List (S60), y_ = (List.replicate ((l0.length : Int) : Int).toNat z60) := ⟨_, rfl⟩
   replace H : (laws_toPartS.l0 k l0 y184 0) = some r := by first | (rw [hy184]; with_reducible exact H) | (have H2_ := (Option.bind_some _ _).symm.trans H; rw [hy184]; with_reducible exact H2_) | (have H2_ := (Option.bind_some _ _).symm.trans H; with_reducible exact H2_) | with_reducible exact H | (rw [hy184]; exact H) | exact H
   have Ny184 := z0e hy184
   clear hy184
   have H' := z0e H
   clear H
   go_enter Try.func25, Try.ntmps25
   go_wp2_with (first | ((with_reducible refine gate_dst (N := 7) rfl ?_); refine Kd.R_make k60 _ 60 rfl (N := 7) rfl 23 _ _ rfl (l0.length : Int) rfl rfl Try.underlying23 (.agg #[(.int .i64 0), (.int .i64 0), (.int .i64 0)]) 24 info60 rfl (by decide) (by omega) z60 (ok := fun _ => True) (okp := fun _ => True) (k60_mkM _ _ _ z60 ) (fun _ hk => hk) trivial (of_decide_eq_true (by first | (with_reducible assumption) | assumption)) (Nat.le_trans (Nat.mul_le_mul_right _ (of_decide_eq_true (by first | (with_reducible assumption) | assumption) : (l0.length : Int).toNat ≤ 11728124029610)) (by omega)) (Below.refl _ _) (Nat.le_refl _) ?_; intro v185 w4 ho5 hb hg_ hnew_; clear hg_ hnew_; (first | rw [← Ny184.out] at ho5 | (simp only [Int.reduceToNat] at ho5; rw [← Ny184.out] at ho5)); have n0_ := z0e (Kd.R_lower ho5 (y7e (by repeat (first | (with_reducible first | exact HB.out | apply z4e | apply z5e | apply z6e) | exact HB.out)))); have n1_ := z0e (y6e (by repeat (first | (with_reducible first | exact HB.out | apply z4e | apply z5e | apply z6e) | exact HB.out)) hb); clear HB; have HO186 := n0_; have HB := n1_; clear n0_ n1_; clear hb ho5))
   go_loopg [4] k (fun kq v4 w' => ∃ (x3_1 : List (S60)) (x4_1 : Int), v4 = .int .i64 x4_1 ∧ Aside0 (laws_toPartS.l0 kq l0 x3_1 x4_1 = some r) ∧ Aside0 (kq ≤ k) ∧ Aside0 (Kd.R k60 60 w' w.heap.size (fun _ => True) v185 x3_1) ∧ Aside0 (Below w.heap.size w w'))
   case atStart => exact ⟨(y184), (0), (by first | rfl | (simp; done) | (simp [*]; done)), H', ⟨Nat.le_refl _⟩, ⟨by (with_reducible repeat (first | apply z8e | apply z9e | apply y1e)); exact HO186.out⟩, ⟨by repeat (first | (with_reducible first | exact HB.out | apply z4e | apply z5e | apply z6e) | exact HB.out)⟩⟩
   case round =>
    clear H'
    try clear c2
    try clear c2b0
    try clear c2b1
    try clear p2
    try clear c3
    try clear c3b0
    try clear c3b1
    obtain ⟨x3_1, x4_1, rfl, HA, HK1, HO_3, HB⟩ := hrel
    cases gk with
    | zero => exact absurd HA.out (by simp [laws_toPartS.l0])
    | succ k1 =>
     have H := HA.out
     clear HA
     simp only [laws_toPartS.l0] at H
     by_cases c6 : x4_1 < (l0.length : Int)
     ·rw [if_pos c6] at H
      have c6b0 : decide (x4_1 < (l0.length : Int)) = true := decide_eq_true c6
      clear c6
      by_cases c7 : 0 ≤ x4_1
      ·rw [if_pos c7] at H
       have c7b0 : decide (0 ≤ x4_1) = true := decide_eq_true c7
       clear c7
       replace H := Option.bind_eq_some_iff.mp H
       obtain ⟨⟨t188, t189, t190⟩, A80, H⟩ := H
       replace H : (if x4_1 < (x3_1.length : Int) then (laws_toPartS.l0 k1 l0 (x3_1.set (x4_1 : Int).toNat (⟨t188, t189, t190⟩ : S60)) (wrap64 (x4_1 + 1))) else (none)) = some r := H
       have A8 := z0e A80
       clear A80
       by_cases c9 : x4_1 < (x3_1.length : Int)
       ·rw [if_pos c9] at H
        have c9b0 : decide (x4_1 < (x3_1.length : Int)) = true := decide_eq_true c9
        clear c9
        obtain ⟨y191, hy191⟩ : ∃ y_ : List (S60), y_ = (x3_1.set (x4_1 : Int).toNat (⟨t188, t189, t190⟩ : S60)) := ⟨_, rfl⟩
        replace H : (laws_toPartS.l0 k1 l0 y191 (wrap64 (x4_1 + 1))) = some r := by first | (rw [hy191]; with_reducible exact H) | (have H2_ := (Option.bind_some _ _).symm.trans H; rw [hy191]; with_reducible exact H2_) | (have H2_ := (Option.bind_some _ _).symm.trans H; with_reducible exact H2_) | with_reducible exact H | (rw [hy191]; exact H) | exact H
        have Ny191 := z0e hy191
        clear hy191
        have H' := z0e H
        clear H
        have p187 : 0 ≤ (x4_1 : Int) := of_decide_eq_true (by first | (with_reducible assumption) | assumption)
        have q187 : x4_1 < (l0.length : Int) := of_decide_eq_true (by first | (with_reducible assumption) | assumption)
        obtain ⟨ad187, e187, hx187_0, hx187_1, hx187_2⟩ := at_T74 HR0.out x4_1 p187 q187
        cases e187
        replace hx187_0 := (HB.out.cell (World.block_lt_of_cell? w _ hx187_0)).trans hx187_0
        replace hx187_1 := (HB.out.cell (World.block_lt_of_cell? w _ hx187_1)).trans hx187_1
        replace hx187_2 := (HB.out.cell (World.block_lt_of_cell? w _ hx187_2)).trans hx187_2
        replace p187 := eq_true p187
        replace q187 := eq_true q187
        go_wp2_with (first | ((with_reducible refine gate_callee (f := 56) rfl ?_); refine goesL_ (some 20) rfl rfl Try.func56 (by kernel_rfl) rfl #[.agg #[.int .i64 ((rd_T74 l0 x4_1).f0), .int .i64 ((rd_T74 l0 x4_1).f1), .int .i64 ((rd_T74 l0 x4_1).f2)]] rfl (by (try simp only [List.map_toArray, List.map_cons, List.map_nil]); first | done | rfl | (simp only [List.length_drop, List.length_take]; rfl)) ?_; (with_reducible refine (laws_toPart.calls ((rd_T74 l0 x4_1).f0) ((rd_T74 l0 x4_1).f1) ((rd_T74 l0 x4_1).f2) t188 t189 t190 _ A8.out).mono ?_); rintro e w11 ⟨rfl, hb⟩; refine ⟨_, rfl, ?_⟩; have n0_ := z0e (Kd.R_below (by (with_reducible repeat (first | apply z8e | apply z9e | apply y1e)); exact HO_3.out) hb); have n1_ := z0e (y6e (by repeat (first | (with_reducible first | exact HB.out | apply z4e | apply z5e | apply z6e) | exact HB.out)) hb); clear HO_3; clear HB; have HO_3 := n0_; have HB := n1_; clear n0_ n1_; (try clear hb); have p10 : 0 ≤ (x4_1 : Int) := of_decide_eq_true (by first | (with_reducible assumption) | assumption); have q10 : (x4_1 : Int) < ((x3_1.length : Int) : Int) := of_decide_eq_true (by first | (with_reducible assumption) | assumption); obtain ⟨go10, co10, eo10, gb10, gl10, cl10, HG10⟩ := Kd.R_form HO_3.out (by omega); (first | cases eo10 | (injection eo10 with ea_ en_ ec_; (first | subst ea_ | (injection ea_ with ea_; subst ea_)); subst ec_; clear en_)); have GB10 := z0e gb10; have GG10 := z0e HG10; clear gb10 gl10 HG10; obtain ⟨ce10, hcl10, hM10, hcc10, hfr10⟩ := Kd.R_elem HO_3.out z60 (x4_1 : Int) p10 q10; obtain rfl := k60_openM hM10; have hx10_0 : w11.cell? ⟨go10, (x4_1 : Int).toNat * 3, none⟩ = some (.int .i64 ((rd_T60 x3_1 x4_1).f0)) := hcc10 0 _ rfl; have hx10_1 : w11.cell? ⟨go10, (x4_1 : Int).toNat * 3 + 1, none⟩ = some (.int .i64 ((rd_T60 x3_1 x4_1).f1)) := hcc10 1 _ rfl; have hx10_2 : w11.cell? ⟨go10, (x4_1 : Int).toNat * 3 + 2, none⟩ = some (.int .i64 ((rd_T60 x3_1 x4_1).f2)) := hcc10 2 _ rfl; have hf10_0 : w11.frozen? ⟨go10, (x4_1 : Int).toNat * 3, none⟩ = false := hfr10 0; have hf10_1 : w11.frozen? ⟨go10, (x4_1 : Int).toNat * 3 + 1, none⟩ = false := hfr10 1; have hf10_2 : w11.frozen? ⟨go10, (x4_1 : Int).toNat * 3 + 2, none⟩ = false := hfr10 2; clear hcl10 hcc10 hfr10 hM10; replace p10 := eq_true p10; replace q10 := eq_true q10; have HX12 := z0e (show Kd.R k60 60 w11 w.heap.size (fun _ => True) (.slice (some ⟨go10, 0, none⟩) x3_1.length co10) x3_1 from (by (with_reducible repeat (first | apply z8e | apply z9e | apply y1e)); exact HO_3.out)); obtain ⟨ce12, hcl12, hM12, hcc12, hfr12⟩ := Kd.R_elem HX12.out z60 (x4_1 : Int) (of_decide_eq_true (by first | (with_reducible assumption) | assumption)) (by have h_ : (x4_1 : Int) < ((x3_1.length : Int) : Int) := of_decide_eq_true (by first | (with_reducible assumption) | assumption); first | exact h_ | (have e_ := (Kd.R_reads' HO_3.out).1; omega) | simpa using h_); obtain rfl := k60_openM hM12; have HP12 := Kd.R_seg HX12.out (x4_1 : Int) (of_decide_eq_true (by first | (with_reducible assumption) | assumption)) (by have h_ : (x4_1 : Int) < ((x3_1.length : Int) : Int) := of_decide_eq_true (by first | (with_reducible assumption) | assumption); first | exact h_ | (have e_ := (Kd.R_reads' HO_3.out).1; omega) | simpa using h_) (seg := [.int .i64 t188, .int .i64 t189, .int .i64 t190]) (j := 0) hcl12 hcc12 (show 3 ≤ 3 from by decide) (x' := (⟨t188, t189, t190⟩ : S60)) (k60_mkM _ _ _ (⟨t188, t189, t190⟩ : S60) ) (fun _ hk => hk); have hx12_0 := hcc12 0 _ rfl; (try simp only [show (k60).sz = 3 from rfl, Nat.mul_one, Nat.add_zero] at hx12_0); have hf12_0 := hfr12 0; (try simp only [show (k60).sz = 3 from rfl, Nat.mul_one, Nat.add_zero] at hf12_0); have hx12_1 := hcc12 1 _ rfl; (try simp only [show (k60).sz = 3 from rfl, Nat.mul_one, Nat.add_zero] at hx12_1); have hf12_1 := hfr12 1; (try simp only [show (k60).sz = 3 from rfl, Nat.mul_one, Nat.add_zero] at hf12_1); have hx12_2 := hcc12 2 _ rfl; (try simp only [show (k60).sz = 3 from rfl, Nat.mul_one, Nat.add_zero] at hx12_2); have hf12_2 := hfr12 2; (try simp only [show (k60).sz = 3 from rfl, Nat.mul_one, Nat.add_zero] at hf12_2); clear hcl12 hcc12 hfr12 hM12) | ((with_reducible refine gate_store (t := 60) (p := 21) rfl ?_); refine store_event (t := 60) (p := 21) (v := ?vo_w13) (w1 := (((w11.setCell ⟨go10, (x4_1 : Int).toNat * 3, none⟩ (.int .i64 t188)).setCell ⟨go10, (x4_1 : Int).toNat * 3 + 1, none⟩ (.int .i64 t189)).setCell ⟨go10, (x4_1 : Int).toNat * 3 + 2, none⟩ (.int .i64 t190))) ?hg ?ho ?hn ?hr ?_; (case ho => rfl); (case hg => rfl); (case hn => rfl); (case hr => first | (go_simp; done) | (go_simp; rfl)); intro w13 hw; have hg : w11.grownBy w13 (some go10) := (by rw [hw]; exact HP12.2); have hp_ : Kd.R k60 60 w13 w.heap.size (fun _ => True) (.slice (some ⟨go10, 0, none⟩) x3_1.length co10) y191 := (by rw [hw, Ny191.out]; exact HP12.1); clear HP12; have n0_ := z0e (hp_); have n1_ := z0e ((by rw [hw]; exact z7e (z7e (z7e (HB.out) GB10.out) GB10.out) GB10.out : Below w.heap.size w w13)); clear HO_3; clear HB; have HO_3 := n0_; have HB := n1_; clear n0_ n1_; clear hg hw hp_))
        go_roundg k1
        case measure => have := HK1.out; omega
        case rel => exact ⟨(y191), (wrap64 (x4_1 + 1)), (by first | rfl | (simp; done) | (simp [*]; done)), H', ⟨by have := HK1.out; omega⟩, ⟨by (with_reducible repeat (first | apply z8e | apply z9e | apply y1e)); exact HO_3.out⟩, ⟨by repeat (first | (with_reducible first | exact HB.out | apply z4e | apply z5e | apply z6e) | exact HB.out)⟩⟩
       ·rw [if_neg c9] at H
        exact absurd H (by simp)
      ·rw [if_neg c7] at H
       exact absurd H (by simp)
     ·rw [if_neg c6] at H
      have c6b0 : decide (x4_1 < (l0.length : Int)) = false := decide_eq_false c6
      clear c6
      obtain rfl := Option.some.inj H
      go_wp2
      go_ret
      exact ⟨_, by first | rfl | (simp [errW_none, errW_some] <;> rfl) | (simp [*, errW_none, errW_some] <;> rfl), by (with_reducible repeat (first | apply z8e | apply z9e | apply y1e)); exact HO_3.out, by repeat (first | (with_reducible first | exact HB.out | apply z4e | apply z5e | apply z6e) | exact HB.out)⟩
  ·rw [if_neg c3] at H
   exact absurd H (by simp)
 ·rw [if_neg c2] at H
  exact absurd H (by simp)

/-! ### laws_toIntS: function 57 -/
def laws_toIntS.l0 : Nat → List Int → List Int → Int → Option (List Int)
 | 0, _, _, _ => none
 | k + 1, x0, x3, x4 => if x4 < (x0.length : Int) then (if 0 ≤ x4 then (if x4 < (x3.length : Int) then (laws_toIntS.l0 k x0 (x3.set (x4 : Int).toNat (rd x0 x4)) (wrap64 (x4 + 1))) else (none)) else (none)) else (some x3)
def laws_toIntS.f (k : Nat) (l0 : List Int) : Option (List Int) := if 0 ≤ (l0.length : Int) then (if ((l0.length : Int) : Int).toNat ≤ 35184372088832 then (laws_toIntS.l0 k l0 (List.replicate ((l0.length : Int) : Int).toNat 0) 0) else (none)) else (none)
set_option maxHeartbeats 8000000 in
set_option maxRecDepth 100000 in
theorem laws_toIntS.calls (k : Nat) (A0 : Option Addr) (c0 : Nat) (l0 : List Int) (r : List Int) (w : World) (hr0 : Kd.C (Kd.int .i64) w A0 l0.length l0) (hc0 : l0.length ≤ c0) (h : laws_toIntS.f k l0 = some r) :
  Calls Try.prog 57 #[.slice A0 l0.length c0] w fun e w' => ∃ v0_ : Value, e = .returned (v0_) ∧ Kd.R (Kd.int .i64) 3 w' w.heap.size (fun _ => True) v0_ r ∧ Below w.heap.size w w' := by
 have HR0 := z0e hr0
 have HC0 := z0e hc0
 clear hr0 hc0
 have HB := z0e (Below.refl w.heap.size w)
 have H : (if 0 ≤ (l0.length : Int) then (if ((l0.length : Int) : Int).toNat ≤ 35184372088832 then (laws_toIntS.l0 k l0 (List.replicate ((l0.length : Int) : Int).toNat 0) 0) else (none)) else (none)) = some r := h
 clear h
 by_cases c2 : 0 ≤ (l0.length : Int)
 ·rw [if_pos c2] at H
  have c2b0 := eq_true c2
  have c2b1 : decide (0 ≤ (l0.length : Int)) = true := decide_eq_true c2
  clear c2
  by_cases c3 : ((l0.length : Int) : Int).toNat ≤ 35184372088832
  ·rw [if_pos c3] at H
   have c3b0 := eq_true c3
   have c3b1 : decide (((l0.length : Int) : Int).toNat ≤ 35184372088832) = true := decide_eq_true c3
   clear c3
   obtain ⟨y192, hy192⟩ : ∃ y_ : List Int, y_ = (List.replicate ((l0.length : Int) : Int).toNat 0) := ⟨_, rfl⟩
   replace H : (laws_toIntS.l0 k l0 y192 0) = some r := by first | (rw [hy192]; with_reducible exact H) | (have H2_ := (Option.bind_some _ _).symm.trans H; rw [hy192]; with_reducible exact H2_) | (have H2_ := (Option.bind_some _ _).symm.trans H; with_reducible exact H2_) | with_reducible exact H | (rw [hy192]; exact H) | exact H
   have Ny192 := z0e hy192
   clear hy192
   have H' := z0e H
   clear H
   go_enter Try.func57, Try.ntmps57
   go_wp2_with (first | ((with_reducible refine gate_dst (N := 7) rfl ?_); refine Kd.R_make (Kd.int .i64) _ 3 rfl (N := 7) rfl 29 _ _ rfl (l0.length : Int) rfl rfl Try.underlying29 (.int .i64 0) 8 info3 rfl (by decide) (by omega) 0 (ok := fun _ => True) (okp := fun _ => True) rfl (fun _ hk => hk) trivial (of_decide_eq_true (by first | (with_reducible assumption) | assumption)) (Nat.le_trans (Nat.mul_le_mul_right _ (of_decide_eq_true (by first | (with_reducible assumption) | assumption) : (l0.length : Int).toNat ≤ 35184372088832)) (by omega)) (Below.refl _ _) (Nat.le_refl _) ?_; intro v193 w4 ho5 hb hg_ hnew_; clear hg_ hnew_; (first | rw [← Ny192.out] at ho5 | (simp only [Int.reduceToNat] at ho5; rw [← Ny192.out] at ho5)); have n0_ := z0e (Kd.R_lower ho5 (y7e (by repeat (first | (with_reducible first | exact HB.out | apply z4e | apply z5e | apply z6e) | exact HB.out)))); have n1_ := z0e (y6e (by repeat (first | (with_reducible first | exact HB.out | apply z4e | apply z5e | apply z6e) | exact HB.out)) hb); clear HB; have HO194 := n0_; have HB := n1_; clear n0_ n1_; clear hb ho5))
   go_loopg [4] k (fun kq v4 w' => ∃ (x3_1 : List Int) (x4_1 : Int), v4 = .int .i64 x4_1 ∧ Aside0 (laws_toIntS.l0 kq l0 x3_1 x4_1 = some r) ∧ Aside0 (kq ≤ k) ∧ Aside0 (Kd.R (Kd.int .i64) 3 w' w.heap.size (fun _ => True) v193 x3_1) ∧ Aside0 (Below w.heap.size w w'))
   case atStart => exact ⟨(y192), (0), (by first | rfl | (simp; done) | (simp [*]; done)), H', ⟨Nat.le_refl _⟩, ⟨by (with_reducible repeat (first | apply z8e | apply z9e | apply y1e)); exact HO194.out⟩, ⟨by repeat (first | (with_reducible first | exact HB.out | apply z4e | apply z5e | apply z6e) | exact HB.out)⟩⟩
   case round =>
    clear H'
    try clear c2
    try clear c2b0
    try clear c2b1
    try clear p2
    try clear c3
    try clear c3b0
    try clear c3b1
    try clear c5
    obtain ⟨x3_1, x4_1, rfl, HA, HK1, HO_3, HB⟩ := hrel
    cases gk with
    | zero => exact absurd HA.out (by simp [laws_toIntS.l0])
    | succ k1 =>
     have H := HA.out
     clear HA
     simp only [laws_toIntS.l0] at H
     by_cases c6 : x4_1 < (l0.length : Int)
     ·rw [if_pos c6] at H
      have c6b0 : decide (x4_1 < (l0.length : Int)) = true := decide_eq_true c6
      clear c6
      by_cases c7 : 0 ≤ x4_1
      ·rw [if_pos c7] at H
       have c7b0 : decide (0 ≤ x4_1) = true := decide_eq_true c7
       clear c7
       by_cases c8 : x4_1 < (x3_1.length : Int)
       ·rw [if_pos c8] at H
        have c8b0 : decide (x4_1 < (x3_1.length : Int)) = true := decide_eq_true c8
        clear c8
        obtain ⟨y196, hy196⟩ : ∃ y_ : List Int, y_ = (x3_1.set (x4_1 : Int).toNat (rd l0 x4_1)) := ⟨_, rfl⟩
        replace H : (laws_toIntS.l0 k1 l0 y196 (wrap64 (x4_1 + 1))) = some r := by first | (rw [hy196]; with_reducible exact H) | (have H2_ := (Option.bind_some _ _).symm.trans H; rw [hy196]; with_reducible exact H2_) | (have H2_ := (Option.bind_some _ _).symm.trans H; with_reducible exact H2_) | with_reducible exact H | (rw [hy196]; exact H) | exact H
        have Ny196 := z0e hy196
        clear hy196
        have H' := z0e H
        clear H
        have p195 : 0 ≤ (x4_1 : Int) := of_decide_eq_true (by first | (with_reducible assumption) | assumption)
        have q195 : x4_1 < (l0.length : Int) := of_decide_eq_true (by first | (with_reducible assumption) | assumption)
        obtain ⟨ad195, e195, hx195_0⟩ := Kd.at_int HR0.out x4_1 p195 q195
        cases e195
        replace hx195_0 := (HB.out.cell (World.block_lt_of_cell? w _ hx195_0)).trans hx195_0
        replace p195 := eq_true p195
        replace q195 := eq_true q195
        have p9 : 0 ≤ (x4_1 : Int) := of_decide_eq_true (by first | (with_reducible assumption) | assumption)
        have q9 : (x4_1 : Int) < ((x3_1.length : Int) : Int) := of_decide_eq_true (by first | (with_reducible assumption) | assumption)
        obtain ⟨go9, co9, eo9, gb9, gl9, cl9, HG9⟩ := Kd.R_form HO_3.out (by omega)
        (first | cases eo9 | (injection eo9 with ea_ en_ ec_; (first | subst ea_ | (injection ea_ with ea_; subst ea_)); subst ec_; clear en_))
        have GB9 := z0e gb9
        have GG9 := z0e HG9
        clear gb9 gl9 HG9
        obtain ⟨hx9_0, hf9_0⟩ := Kd.R_celln 0 HO_3.out (x4_1 : Int) p9 q9
        replace p9 := eq_true p9
        replace q9 := eq_true q9
        have HP10 := Kd.R_putg HO_3.out (x4_1 : Int) (rd l0 x4_1)
        go_wp2_with (first | ((with_reducible refine gate_store (t := 3) (p := 20) rfl ?_); refine store_event (t := 3) (p := 20) (v := ?vo_w11) (w1 := (wr.setCell ⟨go9, (x4_1 : Int).toNat, none⟩ (.int .i64 (rd l0 x4_1)))) ?hg ?ho ?hn ?hr ?_; (case ho => rfl); (case hg => rfl); (case hn => rfl); (case hr => first | (go_simp; done) | (go_simp; rfl)); intro w11 hw; have hg : wr.grownBy w11 (some go9) := (by rw [hw]; exact HP10.2); have hp_ : Kd.R (Kd.int .i64) 3 w11 w.heap.size (fun _ => True) (.slice (some ⟨go9, 0, none⟩) x3_1.length co9) y196 := (by rw [hw, Ny196.out]; exact HP10.1); clear HP10; have n0_ := z0e (hp_); have n1_ := z0e ((by rw [hw]; exact z7e (HB.out) GB9.out : Below w.heap.size w w11)); clear HO_3; clear HB; have HO_3 := n0_; have HB := n1_; clear n0_ n1_; clear hg hw hp_))
        go_roundg k1
        case measure => have := HK1.out; omega
        case rel => exact ⟨(y196), (wrap64 (x4_1 + 1)), (by first | rfl | (simp; done) | (simp [*]; done)), H', ⟨by have := HK1.out; omega⟩, ⟨by (with_reducible repeat (first | apply z8e | apply z9e | apply y1e)); exact HO_3.out⟩, ⟨by repeat (first | (with_reducible first | exact HB.out | apply z4e | apply z5e | apply z6e) | exact HB.out)⟩⟩
       ·rw [if_neg c8] at H
        exact absurd H (by simp)
      ·rw [if_neg c7] at H
       exact absurd H (by simp)
     ·rw [if_neg c6] at H
      have c6b0 : decide (x4_1 < (l0.length : Int)) = false := decide_eq_false c6
      clear c6
      obtain rfl := Option.some.inj H
      go_wp2
      go_ret
      exact ⟨_, by first | rfl | (simp [errW_none, errW_some] <;> rfl) | (simp [*, errW_none, errW_some] <;> rfl), by (with_reducible repeat (first | apply z8e | apply z9e | apply y1e)); exact HO_3.out, by repeat (first | (with_reducible first | exact HB.out | apply z4e | apply z5e | apply z6e) | exact HB.out)⟩
  ·rw [if_neg c3] at H
   exact absurd H (by simp)
 ·rw [if_neg c2] at H
  exact absurd H (by simp)

/-! ### laws_toPicture: function 26 -/
def laws_toPicture.f (k : Nat) (a0_0 : Int) (a0_1 : Int) (l0_2 : List Int) : Option (Int × Int × List Int) := (laws_toIntS.f k l0_2).bind fun t200 => (some (a0_0, a0_1, t200))
set_option maxHeartbeats 8000000 in
set_option maxRecDepth 100000 in
theorem laws_toPicture.calls (k : Nat) (a0_0 : Int) (a0_1 : Int) (A0_2 : Option Addr) (c0_2 : Nat) (l0_2 : List Int) (r1 : Int) (r2 : Int) (r3 : List Int) (w : World) (hr0_2 : Kd.C (Kd.int .i64) w A0_2 l0_2.length l0_2) (hc0_2 : l0_2.length ≤ c0_2) (h : laws_toPicture.f k a0_0 a0_1 l0_2 = some (r1, r2, r3)) :
  Calls Try.prog 26 #[.agg #[.int .i64 a0_0, .int .i64 a0_1, .slice A0_2 l0_2.length c0_2]] w fun e w' => ∃ v2_ : Value, e = .returned (.agg #[.int .i64 r1, .int .i64 r2, v2_]) ∧ Kd.R (Kd.int .i64) 3 w' w.heap.size (fun _ => True) v2_ r3 ∧ Below w.heap.size w w' := by
 have hu44 := Try.underlying44
 have hu31 := Try.underlying31
 have HR0_2 := z0e hr0_2
 have HC0_2 := z0e hc0_2
 clear hr0_2 hc0_2
 have HB := z0e (Below.refl w.heap.size w)
 have H : ((laws_toIntS.f k l0_2).bind fun t200 => (some (a0_0, a0_1, t200))) = some (r1, r2, r3) := h
 clear h
 replace H := Option.bind_eq_some_iff.mp H
 obtain ⟨t200, A20, H⟩ := H
 replace H : (some (a0_0, a0_1, t200)) = some (r1, r2, r3) := H
 have A2 := z0e A20
 clear A20
 simp only [Option.some.injEq, Prod.mk.injEq] at H
 obtain ⟨rfl, rfl, rfl⟩ := H
 go_enter Try.func26, Try.ntmps26
 go_wp2_with (first | ((with_reducible refine gate_dst (N := 1) rfl ?_); refine box_event ?hg (N := 1) ?hd (cs := #[.int .i64 a0_0, .int .i64 a0_1, .slice A0_2 l0_2.length c0_2]) (t := 44) ?hr ?_; (case hd => rfl); (case hg => rfl); (case hr => first | (go_simp; done) | (go_simp; rfl)); intro gb197 hg w3 hbox hb; have n0_ := z0e (y6e (by repeat (first | (with_reducible first | exact HB.out | apply z4e | apply z5e | apply z6e) | exact HB.out)) hb); have n1_ := z0e (hbox); have n2_ := z0e ((by rw [hg]; exact (y7e (by repeat (first | (with_reducible first | exact HB.out | apply z4e | apply z5e | apply z6e) | exact HB.out))) : w.heap.size ≤ gb197)); have n3_ := z0e ((by rw [hg]; exact (y7e (by repeat (first | (with_reducible first | exact HB.out | apply z4e | apply z5e | apply z6e) | exact HB.out))) : w.heap.size ≤ gb197)); clear HB; have HB := n0_; have BK197 := n1_; have GW197 := n2_; have GE197 := n3_; clear n0_ n1_ n2_ n3_; clear hb hbox hg) | ((with_reducible refine gate_dst (N := 2) rfl ?_); refine box_event ?hg (N := 2) ?hd (cs := #[.int .i64 0, .int .i64 0, .slice none 0 0]) (t := 31) ?hr ?_; (case hd => rfl); (case hg => rfl); (case hr => first | (go_simp; done) | (go_simp; rfl)); intro gb198 hg w4 hbox hb; have n0_ := z0e (y5e (g := gb197) (o := .cells #[.int .i64 a0_0, .int .i64 a0_1, .slice A0_2 l0_2.length c0_2] 44 (0, 0)) (by (with_reducible repeat (first | refine z1e ?_ _ | refine z3e ?_ | refine z2e ?_ _)); exact BK197.out) hb); have n1_ := z0e (y6e (by repeat (first | (with_reducible first | exact HB.out | apply z4e | apply z5e | apply z6e | refine z7e ?_ GE197.out) | exact HB.out)) hb); have n2_ := z0e (hbox); have n3_ := z0e ((by rw [hg]; exact (y7e (by repeat (first | (with_reducible first | exact HB.out | apply z4e | apply z5e | apply z6e | refine z7e ?_ GE197.out) | exact HB.out))) : w.heap.size ≤ gb198)); have n4_ := z0e ((by rw [hg]; exact (y7e (by repeat (first | (with_reducible first | exact HB.out | apply z4e | apply z5e | apply z6e | refine z7e ?_ GE197.out) | exact HB.out))) : w.heap.size ≤ gb198)); have n5_ := z0e ((by rw [hg]; exact Nat.ne_of_lt (blk_lt (g := gb197) (o := .cells #[.int .i64 a0_0, .int .i64 a0_1, .slice A0_2 l0_2.length c0_2] 44 (0, 0)) (by (with_reducible repeat (first | refine z1e ?_ _ | refine z3e ?_ | refine z2e ?_ _)); exact BK197.out)) : gb197 ≠ gb198)); have n6_ := z0e ((by rw [hg]; exact Nat.ne_of_gt (blk_lt (g := gb197) (o := .cells #[.int .i64 a0_0, .int .i64 a0_1, .slice A0_2 l0_2.length c0_2] 44 (0, 0)) (by (with_reducible repeat (first | refine z1e ?_ _ | refine z3e ?_ | refine z2e ?_ _)); exact BK197.out)) : gb198 ≠ gb197)); clear BK197; clear HB; have BK197 := n0_; have HB := n1_; have BK198 := n2_; have GW198 := n3_; have GE198 := n4_; have NB197_198 := n5_; have NB198_197 := n6_; clear n0_ n1_ n2_ n3_ n4_ n5_ n6_; clear hb hbox hg) | ((with_reducible refine gate_dst (N := 3) rfl ?_); refine box_event ?hg (N := 3) ?hd (cs := #[.int .i64 0, .int .i64 0, .slice none 0 0]) (t := 31) ?hr ?_; (case hd => rfl); (case hg => rfl); (case hr => first | (go_simp; done) | (go_simp; rfl)); intro gb199 hg w5 hbox hb; have n0_ := z0e (y5e (g := gb197) (o := .cells #[.int .i64 a0_0, .int .i64 a0_1, .slice A0_2 l0_2.length c0_2] 44 (0, 0)) (by (with_reducible repeat (first | refine z1e ?_ _ | refine z3e ?_ | refine z2e ?_ _)); exact BK197.out) hb); have n1_ := z0e (y5e (g := gb198) (o := .cells #[.int .i64 0, .int .i64 0, .slice none 0 0] 31 (0, 0)) (by (with_reducible repeat (first | refine z1e ?_ _ | refine z3e ?_ | refine z2e ?_ _)); exact BK198.out) hb); have n2_ := z0e (y6e (by repeat (first | (with_reducible first | exact HB.out | apply z4e | apply z5e | apply z6e | refine z7e ?_ GE197.out | refine z7e ?_ GE198.out) | exact HB.out)) hb); have n3_ := z0e (hbox); have n4_ := z0e ((by rw [hg]; exact (y7e (by repeat (first | (with_reducible first | exact HB.out | apply z4e | apply z5e | apply z6e | refine z7e ?_ GE197.out | refine z7e ?_ GE198.out) | exact HB.out))) : w.heap.size ≤ gb199)); have n5_ := z0e ((by rw [hg]; exact (y7e (by repeat (first | (with_reducible first | exact HB.out | apply z4e | apply z5e | apply z6e | refine z7e ?_ GE197.out | refine z7e ?_ GE198.out) | exact HB.out))) : w.heap.size ≤ gb199)); have n6_ := z0e ((by rw [hg]; exact Nat.ne_of_lt (blk_lt (g := gb197) (o := .cells #[.int .i64 a0_0, .int .i64 a0_1, .slice A0_2 l0_2.length c0_2] 44 (0, 0)) (by (with_reducible repeat (first | refine z1e ?_ _ | refine z3e ?_ | refine z2e ?_ _)); exact BK197.out)) : gb197 ≠ gb199)); have n7_ := z0e ((by rw [hg]; exact Nat.ne_of_gt (blk_lt (g := gb197) (o := .cells #[.int .i64 a0_0, .int .i64 a0_1, .slice A0_2 l0_2.length c0_2] 44 (0, 0)) (by (with_reducible repeat (first | refine z1e ?_ _ | refine z3e ?_ | refine z2e ?_ _)); exact BK197.out)) : gb199 ≠ gb197)); have n8_ := z0e ((by rw [hg]; exact Nat.ne_of_lt (blk_lt (g := gb198) (o := .cells #[.int .i64 0, .int .i64 0, .slice none 0 0] 31 (0, 0)) (by (with_reducible repeat (first | refine z1e ?_ _ | refine z3e ?_ | refine z2e ?_ _)); exact BK198.out)) : gb198 ≠ gb199)); have n9_ := z0e ((by rw [hg]; exact Nat.ne_of_gt (blk_lt (g := gb198) (o := .cells #[.int .i64 0, .int .i64 0, .slice none 0 0] 31 (0, 0)) (by (with_reducible repeat (first | refine z1e ?_ _ | refine z3e ?_ | refine z2e ?_ _)); exact BK198.out)) : gb199 ≠ gb198)); clear BK197; clear BK198; clear HB; have BK197 := n0_; have BK198 := n1_; have HB := n2_; have BK199 := n3_; have GW199 := n4_; have GE199 := n5_; have NB197_199 := n6_; have NB199_197 := n7_; have NB198_199 := n8_; have NB199_198 := n9_; clear n0_ n1_ n2_ n3_ n4_ n5_ n6_ n7_ n8_ n9_; clear hb hbox hg; have hnb6 := NB197_198.out; have hnc6 := NB198_197.out; have hnb7 := NB197_199.out; have hnc7 := NB199_197.out; have hcz8_0 : w5.cell? ⟨gb197, 0, none⟩ = some (.int .i64 a0_0) := (x3e BK197.out 0).trans rfl; have hcz8_1 : w5.cell? ⟨gb197, 1, none⟩ = some (.int .i64 a0_1) := (x3e BK197.out 1).trans rfl; have hcz8_2 : w5.cell? ⟨gb197, 2, none⟩ = some (.slice A0_2 l0_2.length c0_2) := (x3e BK197.out 2).trans rfl; have hfz8_0 := x2e BK197.out 0; have hfz8_1 := x2e BK197.out 1; have hfz8_2 := x2e BK197.out 2; have hnb9 := NB199_198.out; have hnc9 := NB198_199.out; have hcz10_0 : w5.cell? ⟨gb199, 0, none⟩ = some (.int .i64 0) := (x3e BK199.out 0).trans rfl; have hcz10_1 : w5.cell? ⟨gb199, 1, none⟩ = some (.int .i64 0) := (x3e BK199.out 1).trans rfl; have hcz10_2 : w5.cell? ⟨gb199, 2, none⟩ = some (.slice none 0 0) := (x3e BK199.out 2).trans rfl; have hfz10_0 := x2e BK199.out 0; have hfz10_1 := x2e BK199.out 1; have hfz10_2 := x2e BK199.out 2) | ((with_reducible refine gate_callee (f := 57) rfl ?_); refine goesL_ (some 12) rfl rfl Try.func57 (by kernel_rfl) rfl #[.slice A0_2 l0_2.length c0_2] rfl (by (try simp only [List.map_toArray, List.map_cons, List.map_nil]); first | done | rfl | (simp only [List.length_drop, List.length_take]; rfl)) ?_; (with_reducible refine (laws_toIntS.calls k _ _ l0_2 t200 _ ?side1 ?side2 A2.out).mono ?_); (case side1 => exact y9e HR0_2.out (by repeat (first | (with_reducible first | exact HB.out | apply z4e | apply z5e | apply z6e | refine z7e ?_ GE197.out | refine z7e ?_ GE198.out | refine z7e ?_ GE199.out) | exact HB.out))); (case side2 => exact HC0_2.out); rintro e w11 ⟨v201, rfl, ho0, hb⟩; refine ⟨_, rfl, ?_⟩; have n0_ := z0e (Kd.R_lower ho0 (y7e (by repeat (first | (with_reducible first | exact HB.out | apply z4e | apply z5e | apply z6e | refine z7e ?_ GE197.out | refine z7e ?_ GE198.out | refine z7e ?_ GE199.out) | exact HB.out)))); have n1_ := z0e (y5e (g := gb197) (o := .cells #[.int .i64 a0_0, .int .i64 a0_1, .slice A0_2 l0_2.length c0_2] 44 (0, 0)) (by (with_reducible repeat (first | refine z1e ?_ _ | refine z3e ?_ | refine z2e ?_ _)); refine x8e ?_ NB197_199.out _; (with_reducible repeat (first | refine z1e ?_ _ | refine z3e ?_ | refine z2e ?_ _)); refine x8e ?_ NB197_199.out _; (with_reducible repeat (first | refine z1e ?_ _ | refine z3e ?_ | refine z2e ?_ _)); exact BK197.out) hb); have n2_ := z0e (y5e (g := gb198) (o := .cells #[.int .i64 0, .int .i64 0, .slice none 0 0] 31 (0, 0)) (by (with_reducible repeat (first | refine z1e ?_ _ | refine z3e ?_ | refine z2e ?_ _)); refine x8e ?_ NB198_199.out _; (with_reducible repeat (first | refine z1e ?_ _ | refine z3e ?_ | refine z2e ?_ _)); refine x8e ?_ NB198_199.out _; (with_reducible repeat (first | refine z1e ?_ _ | refine z3e ?_ | refine z2e ?_ _)); exact BK198.out) hb); have n3_ := z0e (y5e (g := gb199) (o := .cells #[.int .i64 a0_0, .int .i64 a0_1, .slice none 0 0] 31 (0, 0)) (by (with_reducible repeat (first | refine z1e ?_ _ | refine z3e ?_ | refine z2e ?_ _)); refine blk_put (cs := #[.int .i64 a0_0, .int .i64 0, .slice none 0 0]) ?_ 1 _ rfl; (with_reducible repeat (first | refine z1e ?_ _ | refine z3e ?_ | refine z2e ?_ _)); refine blk_put (cs := #[.int .i64 0, .int .i64 0, .slice none 0 0]) ?_ 0 _ rfl; (with_reducible repeat (first | refine z1e ?_ _ | refine z3e ?_ | refine z2e ?_ _)); exact BK199.out) hb); have n4_ := z0e (y6e (by repeat (first | (with_reducible first | exact HB.out | apply z4e | apply z5e | apply z6e | refine z7e ?_ GE197.out | refine z7e ?_ GE198.out | refine z7e ?_ GE199.out) | exact HB.out)) hb); clear BK197; clear BK198; clear BK199; clear HB; have HO202 := n0_; have BK197 := n1_; have BK198 := n2_; have BK199 := n3_; have HB := n4_; clear n0_ n1_ n2_ n3_ n4_; (try clear hb); (try clear ho0); obtain ⟨Ao12, co12, eo12⟩ := Kd.R_slice HO202.out; subst eo12; have hcz13_0 : w11.cell? ⟨gb199, 0, none⟩ = some (.int .i64 a0_0) := (x3e BK199.out 0).trans rfl; have hcz13_1 : w11.cell? ⟨gb199, 1, none⟩ = some (.int .i64 a0_1) := (x3e BK199.out 1).trans rfl; have hcz13_2 : w11.cell? ⟨gb199, 2, none⟩ = some (.slice none 0 0) := (x3e BK199.out 2).trans rfl; have hfz13_0 := x2e BK199.out 0; have hfz13_1 := x2e BK199.out 1; have hfz13_2 := x2e BK199.out 2; have hcz14_0 : w11.cell? ⟨gb198, 0, none⟩ = some (.int .i64 0) := (x3e BK198.out 0).trans rfl; have hcz14_1 : w11.cell? ⟨gb198, 1, none⟩ = some (.int .i64 0) := (x3e BK198.out 1).trans rfl; have hcz14_2 : w11.cell? ⟨gb198, 2, none⟩ = some (.slice none 0 0) := (x3e BK198.out 2).trans rfl; have hfz14_0 := x2e BK198.out 0; have hfz14_1 := x2e BK198.out 1; have hfz14_2 := x2e BK198.out 2))
 refine bodyPost_ret (results_cell_row rfl _ _ gb198 31 #[.int .i64 a0_0, .int .i64 a0_1, .slice Ao12 t200.length co12] (0, 0) _ rfl (by (with_reducible repeat (first | refine z1e ?_ _ | refine z3e ?_ | refine z2e ?_ _)); refine blk_put (cs := #[.int .i64 a0_0, .int .i64 a0_1, .slice none 0 0]) ?_ 2 _ rfl; (with_reducible repeat (first | refine z1e ?_ _ | refine z3e ?_ | refine z2e ?_ _)); refine blk_put (cs := #[.int .i64 a0_0, .int .i64 0, .slice none 0 0]) ?_ 1 _ rfl; (with_reducible repeat (first | refine z1e ?_ _ | refine z3e ?_ | refine z2e ?_ _)); refine blk_put (cs := #[.int .i64 0, .int .i64 0, .slice none 0 0]) ?_ 0 _ rfl; (with_reducible repeat (first | refine z1e ?_ _ | refine z3e ?_ | refine z2e ?_ _)); refine x8e ?_ NB198_199.out _; (with_reducible repeat (first | refine z1e ?_ _ | refine z3e ?_ | refine z2e ?_ _)); exact BK198.out) Try.underlying31 rfl (by kernel_rfl)) rfl ?_
 exact ⟨_, by first | rfl | (simp [errW_none, errW_some] <;> rfl) | (simp [*, errW_none, errW_some] <;> rfl), by (with_reducible repeat (first | apply z8e | apply z9e | apply y1e)); exact Kd.R_mono (x1e (p := ⟨gb198, 2, none⟩) (x1e (p := ⟨gb198, 1, none⟩) (x1e (p := ⟨gb198, 0, none⟩) (x1e (p := ⟨gb199, 2, none⟩) (Kd.R_types (Kd.R_types HO202.out BK199.out (by decide)) BK198.out (by decide)) (fun _ hk => hk.1.2) (.slice Ao12 t200.length co12)) (fun _ hk => hk.2) (.int .i64 a0_0)) (fun _ hk => hk.2) (.int .i64 a0_1)) (fun _ hk => hk.2) (.slice Ao12 t200.length co12)) (fun _ hk => trivial), by repeat (first | (with_reducible first | exact HB.out | apply z4e | apply z5e | apply z6e | refine z7e ?_ GE197.out | refine z7e ?_ GE198.out | refine z7e ?_ GE199.out) | exact HB.out)⟩

/-! ### laws_eqPart: function 58 -/
def laws_eqPart.f (a0_0 : Int) (a0_1 : Int) (a0_2 : Int) (a1_0 : Int) (a1_1 : Int) (a1_2 : Int) : Option (Bool) := if a0_0 = a1_0 then (if a0_1 = a1_1 then (if a0_2 = a1_2 then (some true) else (some false)) else (some false)) else (some false)
set_option maxHeartbeats 8000000 in
set_option maxRecDepth 100000 in
theorem laws_eqPart.calls (a0_0 : Int) (a0_1 : Int) (a0_2 : Int) (a1_0 : Int) (a1_1 : Int) (a1_2 : Int) (r : Bool) (w : World) (h : laws_eqPart.f a0_0 a0_1 a0_2 a1_0 a1_1 a1_2 = some r) :
  Calls Try.prog 58 #[.agg #[.int .i64 a0_0, .int .i64 a0_1, .int .i64 a0_2], .agg #[.int .i64 a1_0, .int .i64 a1_1, .int .i64 a1_2]] w fun e w' => e = .returned (.bool r) ∧ Below w.heap.size w w' := by
 have hu60 := Try.underlying60
 have HB := z0e (Below.refl w.heap.size w)
 have H : (if a0_0 = a1_0 then (if a0_1 = a1_1 then (if a0_2 = a1_2 then (some true) else (some false)) else (some false)) else (some false)) = some r := h
 clear h
 by_cases c3 : a0_0 = a1_0
 ·rw [if_pos c3] at H
  have c3b0 : (a0_0 == a1_0) = true := beq_iff_eq.mpr c3
  have c3b1 : (a0_0 != a1_0) = false := bne_eq_false_iff_eq.mpr c3
  clear c3
  by_cases c4 : a0_1 = a1_1
  ·rw [if_pos c4] at H
   have c4b0 : (a0_1 == a1_1) = true := beq_iff_eq.mpr c4
   have c4b1 : (a0_1 != a1_1) = false := bne_eq_false_iff_eq.mpr c4
   clear c4
   by_cases c5 : a0_2 = a1_2
   ·rw [if_pos c5] at H
    have c5b0 : (a0_2 == a1_2) = true := beq_iff_eq.mpr c5
    have c5b1 : (a0_2 != a1_2) = false := bne_eq_false_iff_eq.mpr c5
    clear c5
    obtain rfl := Option.some.inj H
    go_enter Try.func58, Try.ntmps58
    go_wp2_with (first | ((with_reducible refine gate_dst (N := 2) rfl ?_); refine box_event ?hg (N := 2) ?hd (cs := #[.int .i64 a0_0, .int .i64 a0_1, .int .i64 a0_2]) (t := 60) ?hr ?_; (case hd => rfl); (case hg => rfl); (case hr => first | (go_simp; done) | (go_simp; rfl)); intro gb203 hg w6 hbox hb; have n0_ := z0e (y6e (by repeat (first | (with_reducible first | exact HB.out | apply z4e | apply z5e | apply z6e) | exact HB.out)) hb); have n1_ := z0e (hbox); have n2_ := z0e ((by rw [hg]; exact (y7e (by repeat (first | (with_reducible first | exact HB.out | apply z4e | apply z5e | apply z6e) | exact HB.out))) : w.heap.size ≤ gb203)); have n3_ := z0e ((by rw [hg]; exact (y7e (by repeat (first | (with_reducible first | exact HB.out | apply z4e | apply z5e | apply z6e) | exact HB.out))) : w.heap.size ≤ gb203)); clear HB; have HB := n0_; have BK203 := n1_; have GW203 := n2_; have GE203 := n3_; clear n0_ n1_ n2_ n3_; clear hb hbox hg) | ((with_reducible refine gate_dst (N := 3) rfl ?_); refine box_event ?hg (N := 3) ?hd (cs := #[.int .i64 a1_0, .int .i64 a1_1, .int .i64 a1_2]) (t := 60) ?hr ?_; (case hd => rfl); (case hg => rfl); (case hr => first | (go_simp; done) | (go_simp; rfl)); intro gb204 hg w7 hbox hb; have n0_ := z0e (y5e (g := gb203) (o := .cells #[.int .i64 a0_0, .int .i64 a0_1, .int .i64 a0_2] 60 (0, 0)) (by (with_reducible repeat (first | refine z1e ?_ _ | refine z3e ?_ | refine z2e ?_ _)); exact BK203.out) hb); have n1_ := z0e (y6e (by repeat (first | (with_reducible first | exact HB.out | apply z4e | apply z5e | apply z6e | refine z7e ?_ GE203.out) | exact HB.out)) hb); have n2_ := z0e (hbox); have n3_ := z0e ((by rw [hg]; exact (y7e (by repeat (first | (with_reducible first | exact HB.out | apply z4e | apply z5e | apply z6e | refine z7e ?_ GE203.out) | exact HB.out))) : w.heap.size ≤ gb204)); have n4_ := z0e ((by rw [hg]; exact (y7e (by repeat (first | (with_reducible first | exact HB.out | apply z4e | apply z5e | apply z6e | refine z7e ?_ GE203.out) | exact HB.out))) : w.heap.size ≤ gb204)); have n5_ := z0e ((by rw [hg]; exact Nat.ne_of_lt (blk_lt (g := gb203) (o := .cells #[.int .i64 a0_0, .int .i64 a0_1, .int .i64 a0_2] 60 (0, 0)) (by (with_reducible repeat (first | refine z1e ?_ _ | refine z3e ?_ | refine z2e ?_ _)); exact BK203.out)) : gb203 ≠ gb204)); have n6_ := z0e ((by rw [hg]; exact Nat.ne_of_gt (blk_lt (g := gb203) (o := .cells #[.int .i64 a0_0, .int .i64 a0_1, .int .i64 a0_2] 60 (0, 0)) (by (with_reducible repeat (first | refine z1e ?_ _ | refine z3e ?_ | refine z2e ?_ _)); exact BK203.out)) : gb204 ≠ gb203)); clear BK203; clear HB; have BK203 := n0_; have HB := n1_; have BK204 := n2_; have GW204 := n3_; have GE204 := n4_; have NB203_204 := n5_; have NB204_203 := n6_; clear n0_ n1_ n2_ n3_ n4_ n5_ n6_; clear hb hbox hg; have hnb8 := NB203_204.out; have hnc8 := NB204_203.out; have hcz9_0 : w7.cell? ⟨gb203, 0, none⟩ = some (.int .i64 a0_0) := (x3e BK203.out 0).trans rfl; have hcz9_1 : w7.cell? ⟨gb203, 1, none⟩ = some (.int .i64 a0_1) := (x3e BK203.out 1).trans rfl; have hcz9_2 : w7.cell? ⟨gb203, 2, none⟩ = some (.int .i64 a0_2) := (x3e BK203.out 2).trans rfl; have hfz9_0 := x2e BK203.out 0; have hfz9_1 := x2e BK203.out 1; have hfz9_2 := x2e BK203.out 2; have hcz10_0 : w7.cell? ⟨gb204, 0, none⟩ = some (.int .i64 a1_0) := (x3e BK204.out 0).trans rfl; have hcz10_1 : w7.cell? ⟨gb204, 1, none⟩ = some (.int .i64 a1_1) := (x3e BK204.out 1).trans rfl; have hcz10_2 : w7.cell? ⟨gb204, 2, none⟩ = some (.int .i64 a1_2) := (x3e BK204.out 2).trans rfl; have hfz10_0 := x2e BK204.out 0; have hfz10_1 := x2e BK204.out 1; have hfz10_2 := x2e BK204.out 2))
    go_ret
    exact ⟨by first | rfl | (simp [errW_none, errW_some] <;> rfl) | (simp [*, errW_none, errW_some] <;> rfl), by repeat (first | (with_reducible first | exact HB.out | apply z4e | apply z5e | apply z6e | refine z7e ?_ GE203.out | refine z7e ?_ GE204.out) | exact HB.out)⟩
   ·rw [if_neg c5] at H
    have c5b0 : (a0_2 == a1_2) = false := beq_eq_false_iff_ne.mpr c5
    have c5b1 : (a0_2 != a1_2) = true := bne_iff_ne.mpr c5
    obtain rfl := Option.some.inj H
    go_enter Try.func58, Try.ntmps58
    go_wp2_with (first | ((with_reducible refine gate_dst (N := 2) rfl ?_); refine box_event ?hg (N := 2) ?hd (cs := #[.int .i64 a0_0, .int .i64 a0_1, .int .i64 a0_2]) (t := 60) ?hr ?_; (case hd => rfl); (case hg => rfl); (case hr => first | (go_simp; done) | (go_simp; rfl)); intro gb203 hg w11 hbox hb; have n0_ := z0e (y6e (by repeat (first | (with_reducible first | exact HB.out | apply z4e | apply z5e | apply z6e) | exact HB.out)) hb); have n1_ := z0e (hbox); have n2_ := z0e ((by rw [hg]; exact (y7e (by repeat (first | (with_reducible first | exact HB.out | apply z4e | apply z5e | apply z6e) | exact HB.out))) : w.heap.size ≤ gb203)); have n3_ := z0e ((by rw [hg]; exact (y7e (by repeat (first | (with_reducible first | exact HB.out | apply z4e | apply z5e | apply z6e) | exact HB.out))) : w.heap.size ≤ gb203)); clear HB; have HB := n0_; have BK203 := n1_; have GW203 := n2_; have GE203 := n3_; clear n0_ n1_ n2_ n3_; clear hb hbox hg) | ((with_reducible refine gate_dst (N := 3) rfl ?_); refine box_event ?hg (N := 3) ?hd (cs := #[.int .i64 a1_0, .int .i64 a1_1, .int .i64 a1_2]) (t := 60) ?hr ?_; (case hd => rfl); (case hg => rfl); (case hr => first | (go_simp; done) | (go_simp; rfl)); intro gb204 hg w12 hbox hb; have n0_ := z0e (y5e (g := gb203) (o := .cells #[.int .i64 a0_0, .int .i64 a0_1, .int .i64 a0_2] 60 (0, 0)) (by (with_reducible repeat (first | refine z1e ?_ _ | refine z3e ?_ | refine z2e ?_ _)); exact BK203.out) hb); have n1_ := z0e (y6e (by repeat (first | (with_reducible first | exact HB.out | apply z4e | apply z5e | apply z6e | refine z7e ?_ GE203.out) | exact HB.out)) hb); have n2_ := z0e (hbox); have n3_ := z0e ((by rw [hg]; exact (y7e (by repeat (first | (with_reducible first | exact HB.out | apply z4e | apply z5e | apply z6e | refine z7e ?_ GE203.out) | exact HB.out))) : w.heap.size ≤ gb204)); have n4_ := z0e ((by rw [hg]; exact (y7e (by repeat (first | (with_reducible first | exact HB.out | apply z4e | apply z5e | apply z6e | refine z7e ?_ GE203.out) | exact HB.out))) : w.heap.size ≤ gb204)); have n5_ := z0e ((by rw [hg]; exact Nat.ne_of_lt (blk_lt (g := gb203) (o := .cells #[.int .i64 a0_0, .int .i64 a0_1, .int .i64 a0_2] 60 (0, 0)) (by (with_reducible repeat (first | refine z1e ?_ _ | refine z3e ?_ | refine z2e ?_ _)); exact BK203.out)) : gb203 ≠ gb204)); have n6_ := z0e ((by rw [hg]; exact Nat.ne_of_gt (blk_lt (g := gb203) (o := .cells #[.int .i64 a0_0, .int .i64 a0_1, .int .i64 a0_2] 60 (0, 0)) (by (with_reducible repeat (first | refine z1e ?_ _ | refine z3e ?_ | refine z2e ?_ _)); exact BK203.out)) : gb204 ≠ gb203)); clear BK203; clear HB; have BK203 := n0_; have HB := n1_; have BK204 := n2_; have GW204 := n3_; have GE204 := n4_; have NB203_204 := n5_; have NB204_203 := n6_; clear n0_ n1_ n2_ n3_ n4_ n5_ n6_; clear hb hbox hg; have hnb13 := NB203_204.out; have hnc13 := NB204_203.out; have hcz14_0 : w12.cell? ⟨gb203, 0, none⟩ = some (.int .i64 a0_0) := (x3e BK203.out 0).trans rfl; have hcz14_1 : w12.cell? ⟨gb203, 1, none⟩ = some (.int .i64 a0_1) := (x3e BK203.out 1).trans rfl; have hcz14_2 : w12.cell? ⟨gb203, 2, none⟩ = some (.int .i64 a0_2) := (x3e BK203.out 2).trans rfl; have hfz14_0 := x2e BK203.out 0; have hfz14_1 := x2e BK203.out 1; have hfz14_2 := x2e BK203.out 2; have hcz15_0 : w12.cell? ⟨gb204, 0, none⟩ = some (.int .i64 a1_0) := (x3e BK204.out 0).trans rfl; have hcz15_1 : w12.cell? ⟨gb204, 1, none⟩ = some (.int .i64 a1_1) := (x3e BK204.out 1).trans rfl; have hcz15_2 : w12.cell? ⟨gb204, 2, none⟩ = some (.int .i64 a1_2) := (x3e BK204.out 2).trans rfl; have hfz15_0 := x2e BK204.out 0; have hfz15_1 := x2e BK204.out 1; have hfz15_2 := x2e BK204.out 2))
    go_ret
    exact ⟨by first | rfl | (simp [errW_none, errW_some] <;> rfl) | (simp [*, errW_none, errW_some] <;> rfl), by repeat (first | (with_reducible first | exact HB.out | apply z4e | apply z5e | apply z6e | refine z7e ?_ GE203.out | refine z7e ?_ GE204.out) | exact HB.out)⟩
  ·rw [if_neg c4] at H
   have c4b0 : (a0_1 == a1_1) = false := beq_eq_false_iff_ne.mpr c4
   have c4b1 : (a0_1 != a1_1) = true := bne_iff_ne.mpr c4
   obtain rfl := Option.some.inj H
   go_enter Try.func58, Try.ntmps58
   go_wp2_with (first | ((with_reducible refine gate_dst (N := 2) rfl ?_); refine box_event ?hg (N := 2) ?hd (cs := #[.int .i64 a0_0, .int .i64 a0_1, .int .i64 a0_2]) (t := 60) ?hr ?_; (case hd => rfl); (case hg => rfl); (case hr => first | (go_simp; done) | (go_simp; rfl)); intro gb203 hg w16 hbox hb; have n0_ := z0e (y6e (by repeat (first | (with_reducible first | exact HB.out | apply z4e | apply z5e | apply z6e) | exact HB.out)) hb); have n1_ := z0e (hbox); have n2_ := z0e ((by rw [hg]; exact (y7e (by repeat (first | (with_reducible first | exact HB.out | apply z4e | apply z5e | apply z6e) | exact HB.out))) : w.heap.size ≤ gb203)); have n3_ := z0e ((by rw [hg]; exact (y7e (by repeat (first | (with_reducible first | exact HB.out | apply z4e | apply z5e | apply z6e) | exact HB.out))) : w.heap.size ≤ gb203)); clear HB; have HB := n0_; have BK203 := n1_; have GW203 := n2_; have GE203 := n3_; clear n0_ n1_ n2_ n3_; clear hb hbox hg) | ((with_reducible refine gate_dst (N := 3) rfl ?_); refine box_event ?hg (N := 3) ?hd (cs := #[.int .i64 a1_0, .int .i64 a1_1, .int .i64 a1_2]) (t := 60) ?hr ?_; (case hd => rfl); (case hg => rfl); (case hr => first | (go_simp; done) | (go_simp; rfl)); intro gb204 hg w17 hbox hb; have n0_ := z0e (y5e (g := gb203) (o := .cells #[.int .i64 a0_0, .int .i64 a0_1, .int .i64 a0_2] 60 (0, 0)) (by (with_reducible repeat (first | refine z1e ?_ _ | refine z3e ?_ | refine z2e ?_ _)); exact BK203.out) hb); have n1_ := z0e (y6e (by repeat (first | (with_reducible first | exact HB.out | apply z4e | apply z5e | apply z6e | refine z7e ?_ GE203.out) | exact HB.out)) hb); have n2_ := z0e (hbox); have n3_ := z0e ((by rw [hg]; exact (y7e (by repeat (first | (with_reducible first | exact HB.out | apply z4e | apply z5e | apply z6e | refine z7e ?_ GE203.out) | exact HB.out))) : w.heap.size ≤ gb204)); have n4_ := z0e ((by rw [hg]; exact (y7e (by repeat (first | (with_reducible first | exact HB.out | apply z4e | apply z5e | apply z6e | refine z7e ?_ GE203.out) | exact HB.out))) : w.heap.size ≤ gb204)); have n5_ := z0e ((by rw [hg]; exact Nat.ne_of_lt (blk_lt (g := gb203) (o := .cells #[.int .i64 a0_0, .int .i64 a0_1, .int .i64 a0_2] 60 (0, 0)) (by (with_reducible repeat (first | refine z1e ?_ _ | refine z3e ?_ | refine z2e ?_ _)); exact BK203.out)) : gb203 ≠ gb204)); have n6_ := z0e ((by rw [hg]; exact Nat.ne_of_gt (blk_lt (g := gb203) (o := .cells #[.int .i64 a0_0, .int .i64 a0_1, .int .i64 a0_2] 60 (0, 0)) (by (with_reducible repeat (first | refine z1e ?_ _ | refine z3e ?_ | refine z2e ?_ _)); exact BK203.out)) : gb204 ≠ gb203)); clear BK203; clear HB; have BK203 := n0_; have HB := n1_; have BK204 := n2_; have GW204 := n3_; have GE204 := n4_; have NB203_204 := n5_; have NB204_203 := n6_; clear n0_ n1_ n2_ n3_ n4_ n5_ n6_; clear hb hbox hg; have hnb18 := NB203_204.out; have hnc18 := NB204_203.out; have hcz19_0 : w17.cell? ⟨gb203, 0, none⟩ = some (.int .i64 a0_0) := (x3e BK203.out 0).trans rfl; have hcz19_1 : w17.cell? ⟨gb203, 1, none⟩ = some (.int .i64 a0_1) := (x3e BK203.out 1).trans rfl; have hcz19_2 : w17.cell? ⟨gb203, 2, none⟩ = some (.int .i64 a0_2) := (x3e BK203.out 2).trans rfl; have hfz19_0 := x2e BK203.out 0; have hfz19_1 := x2e BK203.out 1; have hfz19_2 := x2e BK203.out 2; have hcz20_0 : w17.cell? ⟨gb204, 0, none⟩ = some (.int .i64 a1_0) := (x3e BK204.out 0).trans rfl; have hcz20_1 : w17.cell? ⟨gb204, 1, none⟩ = some (.int .i64 a1_1) := (x3e BK204.out 1).trans rfl; have hcz20_2 : w17.cell? ⟨gb204, 2, none⟩ = some (.int .i64 a1_2) := (x3e BK204.out 2).trans rfl; have hfz20_0 := x2e BK204.out 0; have hfz20_1 := x2e BK204.out 1; have hfz20_2 := x2e BK204.out 2))
   go_ret
   exact ⟨by first | rfl | (simp [errW_none, errW_some] <;> rfl) | (simp [*, errW_none, errW_some] <;> rfl), by repeat (first | (with_reducible first | exact HB.out | apply z4e | apply z5e | apply z6e | refine z7e ?_ GE203.out | refine z7e ?_ GE204.out) | exact HB.out)⟩
 ·rw [if_neg c3] at H
  have c3b0 : (a0_0 == a1_0) = false := beq_eq_false_iff_ne.mpr c3
  have c3b1 : (a0_0 != a1_0) = true := bne_iff_ne.mpr c3
  obtain rfl := Option.some.inj H
  go_enter Try.func58, Try.ntmps58
  go_wp2_with (first | ((with_reducible refine gate_dst (N := 2) rfl ?_); refine box_event ?hg (N := 2) ?hd (cs := #[.int .i64 a0_0, .int .i64 a0_1, .int .i64 a0_2]) (t := 60) ?hr ?_; (case hd => rfl); (case hg => rfl); (case hr => first | (go_simp; done) | (go_simp; rfl)); intro gb203 hg w21 hbox hb; have n0_ := z0e (y6e (by repeat (first | (with_reducible first | exact HB.out | apply z4e | apply z5e | apply z6e) | exact HB.out)) hb); have n1_ := z0e (hbox); have n2_ := z0e ((by rw [hg]; exact (y7e (by repeat (first | (with_reducible first | exact HB.out | apply z4e | apply z5e | apply z6e) | exact HB.out))) : w.heap.size ≤ gb203)); have n3_ := z0e ((by rw [hg]; exact (y7e (by repeat (first | (with_reducible first | exact HB.out | apply z4e | apply z5e | apply z6e) | exact HB.out))) : w.heap.size ≤ gb203)); clear HB; have HB := n0_; have BK203 := n1_; have GW203 := n2_; have GE203 := n3_; clear n0_ n1_ n2_ n3_; clear hb hbox hg) | ((with_reducible refine gate_dst (N := 3) rfl ?_); refine box_event ?hg (N := 3) ?hd (cs := #[.int .i64 a1_0, .int .i64 a1_1, .int .i64 a1_2]) (t := 60) ?hr ?_; (case hd => rfl); (case hg => rfl); (case hr => first | (go_simp; done) | (go_simp; rfl)); intro gb204 hg w22 hbox hb; have n0_ := z0e (y5e (g := gb203) (o := .cells #[.int .i64 a0_0, .int .i64 a0_1, .int .i64 a0_2] 60 (0, 0)) (by (with_reducible repeat (first | refine z1e ?_ _ | refine z3e ?_ | refine z2e ?_ _)); exact BK203.out) hb); have n1_ := z0e (y6e (by repeat (first | (with_reducible first | exact HB.out | apply z4e | apply z5e | apply z6e | refine z7e ?_ GE203.out) | exact HB.out)) hb); have n2_ := z0e (hbox); have n3_ := z0e ((by rw [hg]; exact (y7e (by repeat (first | (with_reducible first | exact HB.out | apply z4e | apply z5e | apply z6e | refine z7e ?_ GE203.out) | exact HB.out))) : w.heap.size ≤ gb204)); have n4_ := z0e ((by rw [hg]; exact (y7e (by repeat (first | (with_reducible first | exact HB.out | apply z4e | apply z5e | apply z6e | refine z7e ?_ GE203.out) | exact HB.out))) : w.heap.size ≤ gb204)); have n5_ := z0e ((by rw [hg]; exact Nat.ne_of_lt (blk_lt (g := gb203) (o := .cells #[.int .i64 a0_0, .int .i64 a0_1, .int .i64 a0_2] 60 (0, 0)) (by (with_reducible repeat (first | refine z1e ?_ _ | refine z3e ?_ | refine z2e ?_ _)); exact BK203.out)) : gb203 ≠ gb204)); have n6_ := z0e ((by rw [hg]; exact Nat.ne_of_gt (blk_lt (g := gb203) (o := .cells #[.int .i64 a0_0, .int .i64 a0_1, .int .i64 a0_2] 60 (0, 0)) (by (with_reducible repeat (first | refine z1e ?_ _ | refine z3e ?_ | refine z2e ?_ _)); exact BK203.out)) : gb204 ≠ gb203)); clear BK203; clear HB; have BK203 := n0_; have HB := n1_; have BK204 := n2_; have GW204 := n3_; have GE204 := n4_; have NB203_204 := n5_; have NB204_203 := n6_; clear n0_ n1_ n2_ n3_ n4_ n5_ n6_; clear hb hbox hg; have hnb23 := NB203_204.out; have hnc23 := NB204_203.out; have hcz24_0 : w22.cell? ⟨gb203, 0, none⟩ = some (.int .i64 a0_0) := (x3e BK203.out 0).trans rfl; have hcz24_1 : w22.cell? ⟨gb203, 1, none⟩ = some (.int .i64 a0_1) := (x3e BK203.out 1).trans rfl; have hcz24_2 : w22.cell? ⟨gb203, 2, none⟩ = some (.int .i64 a0_2) := (x3e BK203.out 2).trans rfl; have hfz24_0 := x2e BK203.out 0; have hfz24_1 := x2e BK203.out 1; have hfz24_2 := x2e BK203.out 2; have hcz25_0 : w22.cell? ⟨gb204, 0, none⟩ = some (.int .i64 a1_0) := (x3e BK204.out 0).trans rfl; have hcz25_1 : w22.cell? ⟨gb204, 1, none⟩ = some (.int .i64 a1_1) := (x3e BK204.out 1).trans rfl; have hcz25_2 : w22.cell? ⟨gb204, 2, none⟩ = some (.int .i64 a1_2) := (x3e BK204.out 2).trans rfl; have hfz25_0 := x2e BK204.out 0; have hfz25_1 := x2e BK204.out 1; have hfz25_2 := x2e BK204.out 2))
  go_ret
  exact ⟨by first | rfl | (simp [errW_none, errW_some] <;> rfl) | (simp [*, errW_none, errW_some] <;> rfl), by repeat (first | (with_reducible first | exact HB.out | apply z4e | apply z5e | apply z6e | refine z7e ?_ GE203.out | refine z7e ?_ GE204.out) | exact HB.out)⟩

end Go.Proofs.Ytnohdgbfgdnpfaa.PFnExactDiffusePicture
