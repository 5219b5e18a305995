/- Machine side of laws FnCausal: written for this claim by the kit's print program under this session's wip/tools/mp_setup.py (with contracts of the session's own, wip/ext). -/
import Derived.Test.YtnohdgbfgdnpfaaPFnCausalx0
import Derived.Test.YtnohdgbfgdnpfaaPFnCausalx4
import Derived.Test.YtnohdgbfgdnpfaaPFnCausalx5
import Derived.Test.YtnohdgbfgdnpfaaPFnCausalx6
namespace Go.Proofs.Ytnohdgbfgdnpfaa.PFnCausal
open Go.RowKit Go.Proofs.YtnohdgbfgdnpfaaW.PrintWords Go.Proofs.YtnohdgbfgdnpfaaW.PrintLast Go.Proofs.YtnohdgbfgdnpfaaW.PrintMore
attribute [local go_sem] max2_int min2_int max_two min_two max_three min_three max_four min_four   -- for this text's walks alone
set_option linter.unusedVariables false
set_option linter.unusedSimpArgs false
-- squeezed: words under short names
set_option linter.defProp false in
def z0h := @Aside0.mk
set_option linter.defProp false in
def z1h := @blk_drewN
set_option linter.defProp false in
def z2h := @blk_alloc
set_option linter.defProp false in
def z3h := @blk_drew
set_option linter.defProp false in
def z4h := @below_alloc
set_option linter.defProp false in
def z5h := @pw_below_drewN
set_option linter.defProp false in
def z6h := @below_drew1
set_option linter.defProp false in
def z7h := @below_set
set_option linter.defProp false in
def y2h := @Kd.C_alloc
set_option linter.defProp false in
def y3h := @Kd.C_drewN
set_option linter.defProp false in
def y4h := @Kd.C_drew
set_option linter.defProp false in
def y5h := @blk_below
set_option linter.defProp false in
def y6h := @below_step
set_option linter.defProp false in
def y7h := @below_size
set_option linter.defProp false in
def y9h := @Kd.C_below
set_option linter.defProp false in
def x2h := @blk_frozen
set_option linter.defProp false in
def x3h := @blk_cell
def bsh_ (n m : Nat) : Array Bool := ((List.range n).map fun i => m.testBit i).toArray
def impl_DiffusePicture.f (k : Nat) (l0 : List (S60)) (a1_0 : Int) (a1_1 : Int) (l1_2 : List Int) (a2 : Bool) : Option (Int × Int × List Int × Int × Bool) := (impl_IsKernel.f k l0).bind fun t245 => (if t245 = true then ((impl_IsPicture.f a1_0 a1_1 l1_2).bind fun t246 => (if t246 = true then ((impl_diffused.f k l0 a1_0 a1_1 l1_2 a2).bind fun bt247 => (some (bt247.1, bt247.2.1, bt247.2.2.1, bt247.2.2.2.2, true))) else (some (0, 0, ([] : List Int), 0, false)))) else (some (0, 0, ([] : List Int), 0, false)))
set_option maxHeartbeats 8000000 in
set_option maxRecDepth 100000 in
theorem impl_DiffusePicture.calls (k : Nat) (A0 : Option Addr) (c0 : Nat) (l0 : List (S60)) (a1_0 : Int) (a1_1 : Int) (A1_2 : Option Addr) (c1_2 : Nat) (l1_2 : List Int) (a2 : Bool) (r1 : Int) (r2 : Int) (r3 : List Int) (r4 : Int) (r5 : Bool) (w : World) (hr0 : Kd.C k60 w A0 l0.length l0) (hc0 : l0.length ≤ c0) (hr1_2 : Kd.C (Kd.int .i64) w A1_2 l1_2.length l1_2) (hc1_2 : l1_2.length ≤ c1_2) (h : impl_DiffusePicture.f k l0 a1_0 a1_1 l1_2 a2 = some (r1, r2, r3, r4, r5)) :
  Calls Try.prog 13 #[.slice A0 l0.length c0, .agg #[.int .i64 a1_0, .int .i64 a1_1, .slice A1_2 l1_2.length c1_2], .bool a2] w fun e w' => ∃ v2_ : Value, e = .returned (.tuple #[.agg #[.int .i64 r1, .int .i64 r2, v2_], .int .i64 r4, .bool r5]) ∧ Kd.R (Kd.int .i64) 3 w' w.heap.size (fun _ => True) v2_ r3 ∧ Below w.heap.size w w' := by
 have hu31 := Try.underlying31
 have HR0 := z0h hr0
 have HC0 := z0h hc0
 clear hr0 hc0
 have HR1_2 := z0h hr1_2
 have HC1_2 := z0h hc1_2
 clear hr1_2 hc1_2
 have HB := z0h (Below.refl w.heap.size w)
 have H : ((impl_IsKernel.f k l0).bind fun t245 => (if t245 = true then ((impl_IsPicture.f a1_0 a1_1 l1_2).bind fun t246 => (if t246 = true then ((impl_diffused.f k l0 a1_0 a1_1 l1_2 a2).bind fun bt247 => (some (bt247.1, bt247.2.1, bt247.2.2.1, bt247.2.2.2.2, true))) else (some (0, 0, ([] : List Int), 0, false)))) else (some (0, 0, ([] : List Int), 0, false)))) = some (r1, r2, r3, r4, r5) := h
 clear h
 replace H := Option.bind_eq_some_iff.mp H
 obtain ⟨t245, A40, H⟩ := H
 replace H : (if t245 = true then ((impl_IsPicture.f a1_0 a1_1 l1_2).bind fun t246 => (if t246 = true then ((impl_diffused.f k l0 a1_0 a1_1 l1_2 a2).bind fun bt247 => (some (bt247.1, bt247.2.1, bt247.2.2.1, bt247.2.2.2.2, true))) else (some (0, 0, ([] : List Int), 0, false)))) else (some (0, 0, ([] : List Int), 0, false))) = some (r1, r2, r3, r4, r5) := H
 have A4 := z0h A40
 clear A40
 by_cases c5 : t245 = true
 ·subst c5
  have H1 : ((impl_IsPicture.f a1_0 a1_1 l1_2).bind fun t246 => (if t246 = true then ((impl_diffused.f k l0 a1_0 a1_1 l1_2 a2).bind fun bt247 => (some (bt247.1, bt247.2.1, bt247.2.2.1, bt247.2.2.2.2, true))) else (some (0, 0, ([] : List Int), 0, false)))) = some (r1, r2, r3, r4, r5) := by rw [if_pos rfl] at H;first|exact H|(simp only [if_true] at H ⊢;exact H)
  clear H
  have H := H1
  clear H1
  replace H := Option.bind_eq_some_iff.mp H
  obtain ⟨t246, A60, H⟩ := H
  replace H : (if t246 = true then ((impl_diffused.f k l0 a1_0 a1_1 l1_2 a2).bind fun bt247 => (some (bt247.1, bt247.2.1, bt247.2.2.1, bt247.2.2.2.2, true))) else (some (0, 0, ([] : List Int), 0, false))) = some (r1, r2, r3, r4, r5) := H
  have A6 := z0h A60
  clear A60
  by_cases c7 : t246 = true
  ·subst c7
   have H1 : ((impl_diffused.f k l0 a1_0 a1_1 l1_2 a2).bind fun bt247 => (some (bt247.1, bt247.2.1, bt247.2.2.1, bt247.2.2.2.2, true))) = some (r1, r2, r3, r4, r5) := by rw [if_pos rfl] at H;first|exact H|(simp only [if_true] at H ⊢;exact H)
   clear H
   have H := H1
   clear H1
   replace H := Option.bind_eq_some_iff.mp H
   obtain ⟨⟨t247, t248, t249, t252, t255⟩, A80, H⟩ := H
   replace H : (some (t247, t248, t249, t255, true)) = some (r1, r2, r3, r4, r5) := H
   have A8 := z0h A80
   clear A80
   simp only [Option.some.injEq, Prod.mk.injEq] at H
   obtain ⟨rfl, rfl, rfl, rfl, rfl⟩ := H
   go_enter Try.func13, Try.ntmps13
   go_wp2_with (first|((with_reducible refine gate_dst (N := 4) rfl ?_);refine box_event ?hg (N := 4) ?hd (cs := #[.int .i64 a1_0, .int .i64 a1_1, .slice A1_2 l1_2.length c1_2]) (t := 31) ?hr ?_;(case hd => rfl);(case hg => rfl);(case hr => first|(go_simp;done)|(go_simp;rfl));intro gb243 hg w9 hbox hb;have n0_ := z0h (y6h (by repeat (first|(with_reducible first|exact HB.out|apply z4h|apply z5h|apply z6h)|exact HB.out)) hb);have n1_ := z0h (hbox);have n2_ := z0h ((by rw [hg];exact (y7h (by repeat (first|(with_reducible first|exact HB.out|apply z4h|apply z5h|apply z6h)|exact HB.out))) : w.heap.size ≤ gb243));have n3_ := z0h ((by rw [hg];exact (y7h (by repeat (first|(with_reducible first|exact HB.out|apply z4h|apply z5h|apply z6h)|exact HB.out))) : w.heap.size ≤ gb243));clear HB;have HB := n0_;have BK243 := n1_;have GW243 := n2_;have GE243 := n3_;clear n0_ n1_ n2_ n3_;clear hb hbox hg)|((with_reducible refine gate_dst (N := 6) rfl ?_);refine box_event ?hg (N := 6) ?hd (cs := #[.int .i64 0, .int .i64 0, .slice none 0 0]) (t := 31) ?hr ?_;(case hd => rfl);(case hg => rfl);(case hr => first|(go_simp;done)|(go_simp;rfl));intro gb244 hg w10 hbox hb;have n0_ := z0h (y5h (g := gb243) (o := .cells #[.int .i64 a1_0, .int .i64 a1_1, .slice A1_2 l1_2.length c1_2] 31 (0, 0)) (by (with_reducible repeat (first|refine z1h ?_ _|refine z3h ?_|refine z2h ?_ _));exact BK243.out) hb);have n1_ := z0h (y6h (by repeat (first|(with_reducible first|exact HB.out|apply z4h|apply z5h|apply z6h|refine z7h ?_ GE243.out)|exact HB.out)) hb);have n2_ := z0h (hbox);have n3_ := z0h ((by rw [hg];exact (y7h (by repeat (first|(with_reducible first|exact HB.out|apply z4h|apply z5h|apply z6h|refine z7h ?_ GE243.out)|exact HB.out))) : w.heap.size ≤ gb244));have n4_ := z0h ((by rw [hg];exact (y7h (by repeat (first|(with_reducible first|exact HB.out|apply z4h|apply z5h|apply z6h|refine z7h ?_ GE243.out)|exact HB.out))) : w.heap.size ≤ gb244));have n5_ := z0h ((by rw [hg];exact Nat.ne_of_lt (blk_lt (g := gb243) (o := .cells #[.int .i64 a1_0, .int .i64 a1_1, .slice A1_2 l1_2.length c1_2] 31 (0, 0)) (by (with_reducible repeat (first|refine z1h ?_ _|refine z3h ?_|refine z2h ?_ _));exact BK243.out)) : gb243 ≠ gb244));have n6_ := z0h ((by rw [hg];exact Nat.ne_of_gt (blk_lt (g := gb243) (o := .cells #[.int .i64 a1_0, .int .i64 a1_1, .slice A1_2 l1_2.length c1_2] 31 (0, 0)) (by (with_reducible repeat (first|refine z1h ?_ _|refine z3h ?_|refine z2h ?_ _));exact BK243.out)) : gb244 ≠ gb243));clear BK243;clear HB;have BK243 := n0_;have HB := n1_;have BK244 := n2_;have GW244 := n3_;have GE244 := n4_;have NB243_244 := n5_;have NB244_243 := n6_;clear n0_ n1_ n2_ n3_ n4_ n5_ n6_;clear hb hbox hg)|((with_reducible refine gate_callee (f := 9) rfl ?_);refine goesL_ (some 13) rfl rfl Try.func9 (by kernel_rfl) rfl #[.slice A0 l0.length c0] rfl (by (try simp only [List.map_toArray, List.map_cons, List.map_nil]);first | done |rfl|(simp only [List.length_drop, List.length_take];rfl)) ?_;(with_reducible refine (impl_IsKernel.calls k _ _ l0 true _ ?side1 ?side2 A4.out).mono ?_);(case side1 => repeat (first|exact (y9h HR0.out HB.out)|(with_reducible refine y2h ?_ _)|(with_reducible refine y3h ?_ _)|(with_reducible refine y4h ?_)));(case side2 => exact HC0.out);rintro e w11 ⟨rfl, hb⟩;refine ⟨_, rfl, ?_⟩;have n0_ := z0h (y5h (g := gb243) (o := .cells #[.int .i64 a1_0, .int .i64 a1_1, .slice A1_2 l1_2.length c1_2] 31 (0, 0)) (by (with_reducible repeat (first|refine z1h ?_ _|refine z3h ?_|refine z2h ?_ _));exact BK243.out) hb);have n1_ := z0h (y5h (g := gb244) (o := .cells #[.int .i64 0, .int .i64 0, .slice none 0 0] 31 (0, 0)) (by (with_reducible repeat (first|refine z1h ?_ _|refine z3h ?_|refine z2h ?_ _));exact BK244.out) hb);have n2_ := z0h (y6h (by repeat (first|(with_reducible first|exact HB.out|apply z4h|apply z5h|apply z6h|refine z7h ?_ GE243.out|refine z7h ?_ GE244.out)|exact HB.out)) hb);clear BK243;clear BK244;clear HB;have BK243 := n0_;have BK244 := n1_;have HB := n2_;clear n0_ n1_ n2_;(try clear hb);have hnb12 := NB243_244.out;have hnc12 := NB244_243.out;have hcz13_0 : w11.cell? ⟨gb243, 0, none⟩ = some (.int .i64 a1_0) := (x3h BK243.out 0).trans rfl;have hcz13_1 : w11.cell? ⟨gb243, 1, none⟩ = some (.int .i64 a1_1) := (x3h BK243.out 1).trans rfl;have hcz13_2 : w11.cell? ⟨gb243, 2, none⟩ = some (.slice A1_2 l1_2.length c1_2) := (x3h BK243.out 2).trans rfl;have hfz13_0 := x2h BK243.out 0;have hfz13_1 := x2h BK243.out 1;have hfz13_2 := x2h BK243.out 2)|(go_at_call 42;(with_reducible refine (impl_IsPicture.calls a1_0 a1_1 _ _ l1_2 true _ ?side1 ?side2 A6.out).mono ?_);(case side1 => repeat (first|exact HR1_2.out|exact (y9h HR1_2.out HB.out)|(with_reducible refine y2h ?_ _)|(with_reducible refine y3h ?_ _)|(with_reducible refine y4h ?_)));(case side2 => exact HC1_2.out);rintro e w14 ⟨rfl, hb⟩;have n0_ := z0h (y5h (g := gb243) (o := .cells #[.int .i64 a1_0, .int .i64 a1_1, .slice A1_2 l1_2.length c1_2] 31 (0, 0)) (by (with_reducible repeat (first|refine z1h ?_ _|refine z3h ?_|refine z2h ?_ _));exact BK243.out) hb);have n1_ := z0h (y5h (g := gb244) (o := .cells #[.int .i64 0, .int .i64 0, .slice none 0 0] 31 (0, 0)) (by (with_reducible repeat (first|refine z1h ?_ _|refine z3h ?_|refine z2h ?_ _));exact BK244.out) hb);have n2_ := z0h (y6h (by repeat (first|(with_reducible first|exact HB.out|apply z4h|apply z5h|apply z6h|refine z7h ?_ GE243.out|refine z7h ?_ GE244.out)|exact HB.out)) hb);clear BK243;clear BK244;clear HB;have BK243 := n0_;have BK244 := n1_;have HB := n2_;clear n0_ n1_ n2_;(try clear hb);have hcz15_0 : w14.cell? ⟨gb243, 0, none⟩ = some (.int .i64 a1_0) := (x3h BK243.out 0).trans rfl;have hcz15_1 : w14.cell? ⟨gb243, 1, none⟩ = some (.int .i64 a1_1) := (x3h BK243.out 1).trans rfl;have hcz15_2 : w14.cell? ⟨gb243, 2, none⟩ = some (.slice A1_2 l1_2.length c1_2) := (x3h BK243.out 2).trans rfl;have hfz15_0 := x2h BK243.out 0;have hfz15_1 := x2h BK243.out 1;have hfz15_2 := x2h BK243.out 2)|((with_reducible refine gate_callee (f := 43) rfl ?_);refine goesL_ (some 25) rfl rfl Try.func43 (by kernel_rfl) rfl #[.slice A0 l0.length c0, .agg #[.int .i64 a1_0, .int .i64 a1_1, .slice A1_2 l1_2.length c1_2], .bool a2] rfl (by (try simp only [List.map_toArray, List.map_cons, List.map_nil]);first | done |rfl|(simp only [List.length_drop, List.length_take];rfl)) ?_;(with_reducible refine (impl_diffused.calls k _ _ l0 a1_0 a1_1 _ _ l1_2 a2 t247 t248 t249 t252 t255 _ ?side1 ?side2 ?side3 ?side4 A8.out).mono ?_);(case side1 => repeat (first|exact (y9h HR0.out HB.out)|(with_reducible refine y2h ?_ _)|(with_reducible refine y3h ?_ _)|(with_reducible refine y4h ?_)));(case side2 => exact HC0.out);(case side3 => repeat (first|exact HR1_2.out|exact (y9h HR1_2.out HB.out)|(with_reducible refine y2h ?_ _)|(with_reducible refine y3h ?_ _)|(with_reducible refine y4h ?_)));(case side4 => exact HC1_2.out);rintro e w16 ⟨v250, v253, rfl, ho0, ho1, hb⟩;refine ⟨_, rfl, ?_⟩;have n0_ := z0h (Kd.R_lower ho0 (y7h (by repeat (first|(with_reducible first|exact HB.out|apply z4h|apply z5h|apply z6h|refine z7h ?_ GE243.out|refine z7h ?_ GE244.out)|exact HB.out))));have n1_ := z0h (Kd.R_lower ho1 (y7h (by repeat (first|(with_reducible first|exact HB.out|apply z4h|apply z5h|apply z6h|refine z7h ?_ GE243.out|refine z7h ?_ GE244.out)|exact HB.out))));have n2_ := z0h (y5h (g := gb243) (o := .cells #[.int .i64 a1_0, .int .i64 a1_1, .slice A1_2 l1_2.length c1_2] 31 (0, 0)) (by (with_reducible repeat (first|refine z1h ?_ _|refine z3h ?_|refine z2h ?_ _));exact BK243.out) hb);have n3_ := z0h (y5h (g := gb244) (o := .cells #[.int .i64 0, .int .i64 0, .slice none 0 0] 31 (0, 0)) (by (with_reducible repeat (first|refine z1h ?_ _|refine z3h ?_|refine z2h ?_ _));exact BK244.out) hb);have n4_ := z0h (y6h (by repeat (first|(with_reducible first|exact HB.out|apply z4h|apply z5h|apply z6h|refine z7h ?_ GE243.out|refine z7h ?_ GE244.out)|exact HB.out)) hb);clear BK243;clear BK244;clear HB;have HO251 := n0_;have HO254 := n1_;have BK243 := n2_;have BK244 := n3_;have HB := n4_;clear n0_ n1_ n2_ n3_ n4_;(try clear hb);(try clear ho0);(try clear ho1))|((with_reducible refine gate_dst (N := 9) rfl ?_);refine box_event ?hg (N := 9) ?hd (cs := #[.int .i64 0, .int .i64 0, .slice none 0 0]) (t := 31) ?hr ?_;(case hd => rfl);(case hg => rfl);(case hr => first|(go_simp;done)|(go_simp;rfl));intro gb256 hg w17 hbox hb;have n0_ := z0h (Kd.R_below (by (with_reducible repeat (first|apply Kd.R_alloc|apply Kd.R_drewN|apply Kd.R_drew));exact HO251.out) hb);have n1_ := z0h (Kd.R_below (by (with_reducible repeat (first|apply Kd.R_alloc|apply Kd.R_drewN|apply Kd.R_drew));exact HO254.out) hb);have n2_ := z0h (y5h (g := gb243) (o := .cells #[.int .i64 a1_0, .int .i64 a1_1, .slice A1_2 l1_2.length c1_2] 31 (0, 0)) (by (with_reducible repeat (first|refine z1h ?_ _|refine z3h ?_|refine z2h ?_ _));exact BK243.out) hb);have n3_ := z0h (y5h (g := gb244) (o := .cells #[.int .i64 0, .int .i64 0, .slice none 0 0] 31 (0, 0)) (by (with_reducible repeat (first|refine z1h ?_ _|refine z3h ?_|refine z2h ?_ _));exact BK244.out) hb);have n4_ := z0h (y6h (by repeat (first|(with_reducible first|exact HB.out|apply z4h|apply z5h|apply z6h|refine z7h ?_ GE243.out|refine z7h ?_ GE244.out)|exact HB.out)) hb);have n5_ := z0h (hbox);have n6_ := z0h ((by rw [hg];exact (y7h (by repeat (first|(with_reducible first|exact HB.out|apply z4h|apply z5h|apply z6h|refine z7h ?_ GE243.out|refine z7h ?_ GE244.out)|exact HB.out))) : w.heap.size ≤ gb256));have n7_ := z0h ((by rw [hg];exact (y7h (by repeat (first|(with_reducible first|exact HB.out|apply z4h|apply z5h|apply z6h|refine z7h ?_ GE243.out|refine z7h ?_ GE244.out)|exact HB.out))) : w.heap.size ≤ gb256));have n8_ := z0h ((by rw [hg];exact Nat.ne_of_lt (blk_lt (g := gb243) (o := .cells #[.int .i64 a1_0, .int .i64 a1_1, .slice A1_2 l1_2.length c1_2] 31 (0, 0)) (by (with_reducible repeat (first|refine z1h ?_ _|refine z3h ?_|refine z2h ?_ _));exact BK243.out)) : gb243 ≠ gb256));have n9_ := z0h ((by rw [hg];exact Nat.ne_of_gt (blk_lt (g := gb243) (o := .cells #[.int .i64 a1_0, .int .i64 a1_1, .slice A1_2 l1_2.length c1_2] 31 (0, 0)) (by (with_reducible repeat (first|refine z1h ?_ _|refine z3h ?_|refine z2h ?_ _));exact BK243.out)) : gb256 ≠ gb243));have n10_ := z0h ((by rw [hg];exact Nat.ne_of_lt (blk_lt (g := gb244) (o := .cells #[.int .i64 0, .int .i64 0, .slice none 0 0] 31 (0, 0)) (by (with_reducible repeat (first|refine z1h ?_ _|refine z3h ?_|refine z2h ?_ _));exact BK244.out)) : gb244 ≠ gb256));have n11_ := z0h ((by rw [hg];exact Nat.ne_of_gt (blk_lt (g := gb244) (o := .cells #[.int .i64 0, .int .i64 0, .slice none 0 0] 31 (0, 0)) (by (with_reducible repeat (first|refine z1h ?_ _|refine z3h ?_|refine z2h ?_ _));exact BK244.out)) : gb256 ≠ gb244));clear HO251;clear HO254;clear BK243;clear BK244;clear HB;have HO251 := n0_;have HO254 := n1_;have BK243 := n2_;have BK244 := n3_;have HB := n4_;have BK256 := n5_;have GW256 := n6_;have GE256 := n7_;have NB243_256 := n8_;have NB256_243 := n9_;have NB244_256 := n10_;have NB256_244 := n11_;clear n0_ n1_ n2_ n3_ n4_ n5_ n6_ n7_ n8_ n9_ n10_ n11_;clear hb hbox hg;have hnb18 := NB256_243.out;have hnc18 := NB243_256.out;have hnb19 := NB256_244.out;have hnc19 := NB244_256.out;have hcz20_0 : w17.cell? ⟨gb256, 0, none⟩ = some (.int .i64 0) := (x3h BK256.out 0).trans rfl;have hcz20_1 : w17.cell? ⟨gb256, 1, none⟩ = some (.int .i64 0) := (x3h BK256.out 1).trans rfl;have hcz20_2 : w17.cell? ⟨gb256, 2, none⟩ = some (.slice none 0 0) := (x3h BK256.out 2).trans rfl;have hfz20_0 := x2h BK256.out 0;have hfz20_1 := x2h BK256.out 1;have hfz20_2 := x2h BK256.out 2;obtain ⟨Ao21, co21, eo21⟩ := Kd.R_slice HO251.out;subst eo21;have hcz22_0 : w17.cell? ⟨gb244, 0, none⟩ = some (.int .i64 0) := (x3h BK244.out 0).trans rfl;have hcz22_1 : w17.cell? ⟨gb244, 1, none⟩ = some (.int .i64 0) := (x3h BK244.out 1).trans rfl;have hcz22_2 : w17.cell? ⟨gb244, 2, none⟩ = some (.slice none 0 0) := (x3h BK244.out 2).trans rfl;have hfz22_0 := x2h BK244.out 0;have hfz22_1 := x2h BK244.out 1;have hfz22_2 := x2h BK244.out 2))
   refine bodyPost_ret (results_ctt rfl _ _ gb244 31 #[.int .i64 t247, .int .i64 t248, .slice Ao21 t249.length co21] (0, 0) _ rfl (by (with_reducible repeat (first|refine z1h ?_ _|refine z3h ?_|refine z2h ?_ _));refine blk_put (cs := #[.int .i64 t247, .int .i64 t248, .slice none 0 0]) ?_ 2 _ rfl;(with_reducible repeat (first|refine z1h ?_ _|refine z3h ?_|refine z2h ?_ _));refine blk_put (cs := #[.int .i64 t247, .int .i64 0, .slice none 0 0]) ?_ 1 _ rfl;(with_reducible repeat (first|refine z1h ?_ _|refine z3h ?_|refine z2h ?_ _));refine blk_put (cs := #[.int .i64 0, .int .i64 0, .slice none 0 0]) ?_ 0 _ rfl;(with_reducible repeat (first|refine z1h ?_ _|refine z3h ?_|refine z2h ?_ _));refine blk_far ?_ NB244_256.out _;(with_reducible repeat (first|refine z1h ?_ _|refine z3h ?_|refine z2h ?_ _));refine blk_far ?_ NB244_256.out _;(with_reducible repeat (first|refine z1h ?_ _|refine z3h ?_|refine z2h ?_ _));refine blk_far ?_ NB244_256.out _;(with_reducible repeat (first|refine z1h ?_ _|refine z3h ?_|refine z2h ?_ _));exact BK244.out) Try.underlying31 rfl (by kernel_rfl)) rfl ?_
   exact ⟨_, by first |rfl|(simp [errW_none, errW_some] <;> rfl)|(simp [*, errW_none, errW_some] <;> rfl), by (with_reducible repeat (first|apply Kd.R_alloc|apply Kd.R_drewN|apply Kd.R_drew));exact Kd.R_mono (Kd.R_far (p := ⟨gb244, 2, none⟩) (Kd.R_far (p := ⟨gb244, 1, none⟩) (Kd.R_far (p := ⟨gb244, 0, none⟩) (Kd.R_far (p := ⟨gb256, 2, none⟩) (Kd.R_far (p := ⟨gb256, 1, none⟩) (Kd.R_far (p := ⟨gb256, 0, none⟩) (Kd.R_types (Kd.R_types HO251.out BK256.out (by decide)) BK244.out (by decide)) (fun _ hk => hk.1.2) (.int .i64 t247)) (fun _ hk => hk.1.2) (.int .i64 t248)) (fun _ hk => hk.1.2) (.slice Ao21 t249.length co21)) (fun _ hk => hk.2) (.int .i64 t247)) (fun _ hk => hk.2) (.int .i64 t248)) (fun _ hk => hk.2) (.slice Ao21 t249.length co21)) (fun _ hk => trivial), by repeat (first|(with_reducible first|exact HB.out|apply z4h|apply z5h|apply z6h|refine z7h ?_ GE243.out|refine z7h ?_ GE244.out|refine z7h ?_ GE256.out)|exact HB.out)⟩
  ·replace c7 := Bool.eq_false_iff.mpr c7
   subst c7
   have H1 : (some (0, 0, ([] : List Int), 0, false)) = some (r1, r2, r3, r4, r5) := by rw [if_neg (show ¬ (false = true) by decide)] at H;first|exact H|(simp only [if_true] at H ⊢;exact H)
   clear H
   have H := H1
   clear H1
   simp only [Option.some.injEq, Prod.mk.injEq] at H
   obtain ⟨rfl, rfl, rfl, rfl, rfl⟩ := H
   go_enter Try.func13, Try.ntmps13
   go_wp2_with (first|((with_reducible refine gate_dst (N := 4) rfl ?_);refine box_event ?hg (N := 4) ?hd (cs := #[.int .i64 a1_0, .int .i64 a1_1, .slice A1_2 l1_2.length c1_2]) (t := 31) ?hr ?_;(case hd => rfl);(case hg => rfl);(case hr => first|(go_simp;done)|(go_simp;rfl));intro gb243 hg w23 hbox hb;have n0_ := z0h (y6h (by repeat (first|(with_reducible first|exact HB.out|apply z4h|apply z5h|apply z6h)|exact HB.out)) hb);have n1_ := z0h (hbox);have n2_ := z0h ((by rw [hg];exact (y7h (by repeat (first|(with_reducible first|exact HB.out|apply z4h|apply z5h|apply z6h)|exact HB.out))) : w.heap.size ≤ gb243));have n3_ := z0h ((by rw [hg];exact (y7h (by repeat (first|(with_reducible first|exact HB.out|apply z4h|apply z5h|apply z6h)|exact HB.out))) : w.heap.size ≤ gb243));clear HB;have HB := n0_;have BK243 := n1_;have GW243 := n2_;have GE243 := n3_;clear n0_ n1_ n2_ n3_;clear hb hbox hg)|((with_reducible refine gate_dst (N := 6) rfl ?_);refine box_event ?hg (N := 6) ?hd (cs := #[.int .i64 0, .int .i64 0, .slice none 0 0]) (t := 31) ?hr ?_;(case hd => rfl);(case hg => rfl);(case hr => first|(go_simp;done)|(go_simp;rfl));intro gb244 hg w24 hbox hb;have n0_ := z0h (y5h (g := gb243) (o := .cells #[.int .i64 a1_0, .int .i64 a1_1, .slice A1_2 l1_2.length c1_2] 31 (0, 0)) (by (with_reducible repeat (first|refine z1h ?_ _|refine z3h ?_|refine z2h ?_ _));exact BK243.out) hb);have n1_ := z0h (y6h (by repeat (first|(with_reducible first|exact HB.out|apply z4h|apply z5h|apply z6h|refine z7h ?_ GE243.out)|exact HB.out)) hb);have n2_ := z0h (hbox);have n3_ := z0h ((by rw [hg];exact (y7h (by repeat (first|(with_reducible first|exact HB.out|apply z4h|apply z5h|apply z6h|refine z7h ?_ GE243.out)|exact HB.out))) : w.heap.size ≤ gb244));have n4_ := z0h ((by rw [hg];exact (y7h (by repeat (first|(with_reducible first|exact HB.out|apply z4h|apply z5h|apply z6h|refine z7h ?_ GE243.out)|exact HB.out))) : w.heap.size ≤ gb244));have n5_ := z0h ((by rw [hg];exact Nat.ne_of_lt (blk_lt (g := gb243) (o := .cells #[.int .i64 a1_0, .int .i64 a1_1, .slice A1_2 l1_2.length c1_2] 31 (0, 0)) (by (with_reducible repeat (first|refine z1h ?_ _|refine z3h ?_|refine z2h ?_ _));exact BK243.out)) : gb243 ≠ gb244));have n6_ := z0h ((by rw [hg];exact Nat.ne_of_gt (blk_lt (g := gb243) (o := .cells #[.int .i64 a1_0, .int .i64 a1_1, .slice A1_2 l1_2.length c1_2] 31 (0, 0)) (by (with_reducible repeat (first|refine z1h ?_ _|refine z3h ?_|refine z2h ?_ _));exact BK243.out)) : gb244 ≠ gb243));clear BK243;clear HB;have BK243 := n0_;have HB := n1_;have BK244 := n2_;have GW244 := n3_;have GE244 := n4_;have NB243_244 := n5_;have NB244_243 := n6_;clear n0_ n1_ n2_ n3_ n4_ n5_ n6_;clear hb hbox hg)|((with_reducible refine gate_callee (f := 9) rfl ?_);refine goesL_ (some 13) rfl rfl Try.func9 (by kernel_rfl) rfl #[.slice A0 l0.length c0] rfl (by (try simp only [List.map_toArray, List.map_cons, List.map_nil]);first | done |rfl|(simp only [List.length_drop, List.length_take];rfl)) ?_;(with_reducible refine (impl_IsKernel.calls k _ _ l0 true _ ?side1 ?side2 A4.out).mono ?_);(case side1 => repeat (first|exact (y9h HR0.out HB.out)|(with_reducible refine y2h ?_ _)|(with_reducible refine y3h ?_ _)|(with_reducible refine y4h ?_)));(case side2 => exact HC0.out);rintro e w25 ⟨rfl, hb⟩;refine ⟨_, rfl, ?_⟩;have n0_ := z0h (y5h (g := gb243) (o := .cells #[.int .i64 a1_0, .int .i64 a1_1, .slice A1_2 l1_2.length c1_2] 31 (0, 0)) (by (with_reducible repeat (first|refine z1h ?_ _|refine z3h ?_|refine z2h ?_ _));exact BK243.out) hb);have n1_ := z0h (y5h (g := gb244) (o := .cells #[.int .i64 0, .int .i64 0, .slice none 0 0] 31 (0, 0)) (by (with_reducible repeat (first|refine z1h ?_ _|refine z3h ?_|refine z2h ?_ _));exact BK244.out) hb);have n2_ := z0h (y6h (by repeat (first|(with_reducible first|exact HB.out|apply z4h|apply z5h|apply z6h|refine z7h ?_ GE243.out|refine z7h ?_ GE244.out)|exact HB.out)) hb);clear BK243;clear BK244;clear HB;have BK243 := n0_;have BK244 := n1_;have HB := n2_;clear n0_ n1_ n2_;(try clear hb);have hnb26 := NB243_244.out;have hnc26 := NB244_243.out;have hcz27_0 : w25.cell? ⟨gb243, 0, none⟩ = some (.int .i64 a1_0) := (x3h BK243.out 0).trans rfl;have hcz27_1 : w25.cell? ⟨gb243, 1, none⟩ = some (.int .i64 a1_1) := (x3h BK243.out 1).trans rfl;have hcz27_2 : w25.cell? ⟨gb243, 2, none⟩ = some (.slice A1_2 l1_2.length c1_2) := (x3h BK243.out 2).trans rfl;have hfz27_0 := x2h BK243.out 0;have hfz27_1 := x2h BK243.out 1;have hfz27_2 := x2h BK243.out 2)|(go_at_call 42;(with_reducible refine (impl_IsPicture.calls a1_0 a1_1 _ _ l1_2 false _ ?side1 ?side2 A6.out).mono ?_);(case side1 => repeat (first|exact HR1_2.out|exact (y9h HR1_2.out HB.out)|(with_reducible refine y2h ?_ _)|(with_reducible refine y3h ?_ _)|(with_reducible refine y4h ?_)));(case side2 => exact HC1_2.out);rintro e w28 ⟨rfl, hb⟩;have n0_ := z0h (y5h (g := gb243) (o := .cells #[.int .i64 a1_0, .int .i64 a1_1, .slice A1_2 l1_2.length c1_2] 31 (0, 0)) (by (with_reducible repeat (first|refine z1h ?_ _|refine z3h ?_|refine z2h ?_ _));exact BK243.out) hb);have n1_ := z0h (y5h (g := gb244) (o := .cells #[.int .i64 0, .int .i64 0, .slice none 0 0] 31 (0, 0)) (by (with_reducible repeat (first|refine z1h ?_ _|refine z3h ?_|refine z2h ?_ _));exact BK244.out) hb);have n2_ := z0h (y6h (by repeat (first|(with_reducible first|exact HB.out|apply z4h|apply z5h|apply z6h|refine z7h ?_ GE243.out|refine z7h ?_ GE244.out)|exact HB.out)) hb);clear BK243;clear BK244;clear HB;have BK243 := n0_;have BK244 := n1_;have HB := n2_;clear n0_ n1_ n2_;(try clear hb);have hcz29_0 : w28.cell? ⟨gb244, 0, none⟩ = some (.int .i64 0) := (x3h BK244.out 0).trans rfl;have hcz29_1 : w28.cell? ⟨gb244, 1, none⟩ = some (.int .i64 0) := (x3h BK244.out 1).trans rfl;have hcz29_2 : w28.cell? ⟨gb244, 2, none⟩ = some (.slice none 0 0) := (x3h BK244.out 2).trans rfl;have hfz29_0 := x2h BK244.out 0;have hfz29_1 := x2h BK244.out 1;have hfz29_2 := x2h BK244.out 2))
   refine bodyPost_ret (results_ctt rfl _ _ gb244 31 #[.int .i64 0, .int .i64 0, .slice none 0 0] (0, 0) _ rfl (by (with_reducible repeat (first|refine z1h ?_ _|refine z3h ?_|refine z2h ?_ _));refine blk_put (cs := #[.int .i64 0, .int .i64 0, .slice none 0 0]) ?_ 2 _ rfl;(with_reducible repeat (first|refine z1h ?_ _|refine z3h ?_|refine z2h ?_ _));refine blk_put (cs := #[.int .i64 0, .int .i64 0, .slice none 0 0]) ?_ 1 _ rfl;(with_reducible repeat (first|refine z1h ?_ _|refine z3h ?_|refine z2h ?_ _));refine blk_put (cs := #[.int .i64 0, .int .i64 0, .slice none 0 0]) ?_ 0 _ rfl;(with_reducible repeat (first|refine z1h ?_ _|refine z3h ?_|refine z2h ?_ _));exact BK244.out) Try.underlying31 rfl (by kernel_rfl)) rfl ?_
   exact ⟨_, by first |rfl|(simp [errW_none, errW_some] <;> rfl)|(simp [*, errW_none, errW_some] <;> rfl), by first|exact Kd.R_nil _ _ _ _ _|exact Kd.N_nil _ _ _ _ _|exact Kd.V_nil _ _ _ _ _|exact Kd.Q_nil _ _ _ _ _|exact Kd.S_nil _ _ _ _ _, by repeat (first|(with_reducible first|exact HB.out|apply z4h|apply z5h|apply z6h|refine z7h ?_ GE243.out|refine z7h ?_ GE244.out)|exact HB.out)⟩
 ·replace c5 := Bool.eq_false_iff.mpr c5
  subst c5
  have H1 : (some (0, 0, ([] : List Int), 0, false)) = some (r1, r2, r3, r4, r5) := by rw [if_neg (show ¬ (false = true) by decide)] at H;first|exact H|(simp only [if_true] at H ⊢;exact H)
  clear H
  have H := H1
  clear H1
  simp only [Option.some.injEq, Prod.mk.injEq] at H
  obtain ⟨rfl, rfl, rfl, rfl, rfl⟩ := H
  go_enter Try.func13, Try.ntmps13
  go_wp2_with (first|((with_reducible refine gate_dst (N := 4) rfl ?_);refine box_event ?hg (N := 4) ?hd (cs := #[.int .i64 a1_0, .int .i64 a1_1, .slice A1_2 l1_2.length c1_2]) (t := 31) ?hr ?_;(case hd => rfl);(case hg => rfl);(case hr => first|(go_simp;done)|(go_simp;rfl));intro gb243 hg w30 hbox hb;have n0_ := z0h (y6h (by repeat (first|(with_reducible first|exact HB.out|apply z4h|apply z5h|apply z6h)|exact HB.out)) hb);have n1_ := z0h (hbox);have n2_ := z0h ((by rw [hg];exact (y7h (by repeat (first|(with_reducible first|exact HB.out|apply z4h|apply z5h|apply z6h)|exact HB.out))) : w.heap.size ≤ gb243));have n3_ := z0h ((by rw [hg];exact (y7h (by repeat (first|(with_reducible first|exact HB.out|apply z4h|apply z5h|apply z6h)|exact HB.out))) : w.heap.size ≤ gb243));clear HB;have HB := n0_;have BK243 := n1_;have GW243 := n2_;have GE243 := n3_;clear n0_ n1_ n2_ n3_;clear hb hbox hg)|((with_reducible refine gate_dst (N := 6) rfl ?_);refine box_event ?hg (N := 6) ?hd (cs := #[.int .i64 0, .int .i64 0, .slice none 0 0]) (t := 31) ?hr ?_;(case hd => rfl);(case hg => rfl);(case hr => first|(go_simp;done)|(go_simp;rfl));intro gb244 hg w31 hbox hb;have n0_ := z0h (y5h (g := gb243) (o := .cells #[.int .i64 a1_0, .int .i64 a1_1, .slice A1_2 l1_2.length c1_2] 31 (0, 0)) (by (with_reducible repeat (first|refine z1h ?_ _|refine z3h ?_|refine z2h ?_ _));exact BK243.out) hb);have n1_ := z0h (y6h (by repeat (first|(with_reducible first|exact HB.out|apply z4h|apply z5h|apply z6h|refine z7h ?_ GE243.out)|exact HB.out)) hb);have n2_ := z0h (hbox);have n3_ := z0h ((by rw [hg];exact (y7h (by repeat (first|(with_reducible first|exact HB.out|apply z4h|apply z5h|apply z6h|refine z7h ?_ GE243.out)|exact HB.out))) : w.heap.size ≤ gb244));have n4_ := z0h ((by rw [hg];exact (y7h (by repeat (first|(with_reducible first|exact HB.out|apply z4h|apply z5h|apply z6h|refine z7h ?_ GE243.out)|exact HB.out))) : w.heap.size ≤ gb244));have n5_ := z0h ((by rw [hg];exact Nat.ne_of_lt (blk_lt (g := gb243) (o := .cells #[.int .i64 a1_0, .int .i64 a1_1, .slice A1_2 l1_2.length c1_2] 31 (0, 0)) (by (with_reducible repeat (first|refine z1h ?_ _|refine z3h ?_|refine z2h ?_ _));exact BK243.out)) : gb243 ≠ gb244));have n6_ := z0h ((by rw [hg];exact Nat.ne_of_gt (blk_lt (g := gb243) (o := .cells #[.int .i64 a1_0, .int .i64 a1_1, .slice A1_2 l1_2.length c1_2] 31 (0, 0)) (by (with_reducible repeat (first|refine z1h ?_ _|refine z3h ?_|refine z2h ?_ _));exact BK243.out)) : gb244 ≠ gb243));clear BK243;clear HB;have BK243 := n0_;have HB := n1_;have BK244 := n2_;have GW244 := n3_;have GE244 := n4_;have NB243_244 := n5_;have NB244_243 := n6_;clear n0_ n1_ n2_ n3_ n4_ n5_ n6_;clear hb hbox hg)|((with_reducible refine gate_callee (f := 9) rfl ?_);refine goesL_ (some 13) rfl rfl Try.func9 (by kernel_rfl) rfl #[.slice A0 l0.length c0] rfl (by (try simp only [List.map_toArray, List.map_cons, List.map_nil]);first | done |rfl|(simp only [List.length_drop, List.length_take];rfl)) ?_;(with_reducible refine (impl_IsKernel.calls k _ _ l0 false _ ?side1 ?side2 A4.out).mono ?_);(case side1 => repeat (first|exact (y9h HR0.out HB.out)|(with_reducible refine y2h ?_ _)|(with_reducible refine y3h ?_ _)|(with_reducible refine y4h ?_)));(case side2 => exact HC0.out);rintro e w32 ⟨rfl, hb⟩;refine ⟨_, rfl, ?_⟩;have n0_ := z0h (y5h (g := gb243) (o := .cells #[.int .i64 a1_0, .int .i64 a1_1, .slice A1_2 l1_2.length c1_2] 31 (0, 0)) (by (with_reducible repeat (first|refine z1h ?_ _|refine z3h ?_|refine z2h ?_ _));exact BK243.out) hb);have n1_ := z0h (y5h (g := gb244) (o := .cells #[.int .i64 0, .int .i64 0, .slice none 0 0] 31 (0, 0)) (by (with_reducible repeat (first|refine z1h ?_ _|refine z3h ?_|refine z2h ?_ _));exact BK244.out) hb);have n2_ := z0h (y6h (by repeat (first|(with_reducible first|exact HB.out|apply z4h|apply z5h|apply z6h|refine z7h ?_ GE243.out|refine z7h ?_ GE244.out)|exact HB.out)) hb);clear BK243;clear BK244;clear HB;have BK243 := n0_;have BK244 := n1_;have HB := n2_;clear n0_ n1_ n2_;(try clear hb);have hnb33 := NB244_243.out;have hnc33 := NB243_244.out;have hcz34_0 : w32.cell? ⟨gb244, 0, none⟩ = some (.int .i64 0) := (x3h BK244.out 0).trans rfl;have hcz34_1 : w32.cell? ⟨gb244, 1, none⟩ = some (.int .i64 0) := (x3h BK244.out 1).trans rfl;have hcz34_2 : w32.cell? ⟨gb244, 2, none⟩ = some (.slice none 0 0) := (x3h BK244.out 2).trans rfl;have hfz34_0 := x2h BK244.out 0;have hfz34_1 := x2h BK244.out 1;have hfz34_2 := x2h BK244.out 2))
  refine bodyPost_ret (results_ctt rfl _ _ gb244 31 #[.int .i64 0, .int .i64 0, .slice none 0 0] (0, 0) _ rfl (by (with_reducible repeat (first|refine z1h ?_ _|refine z3h ?_|refine z2h ?_ _));refine blk_put (cs := #[.int .i64 0, .int .i64 0, .slice none 0 0]) ?_ 2 _ rfl;(with_reducible repeat (first|refine z1h ?_ _|refine z3h ?_|refine z2h ?_ _));refine blk_put (cs := #[.int .i64 0, .int .i64 0, .slice none 0 0]) ?_ 1 _ rfl;(with_reducible repeat (first|refine z1h ?_ _|refine z3h ?_|refine z2h ?_ _));refine blk_put (cs := #[.int .i64 0, .int .i64 0, .slice none 0 0]) ?_ 0 _ rfl;(with_reducible repeat (first|refine z1h ?_ _|refine z3h ?_|refine z2h ?_ _));exact BK244.out) Try.underlying31 rfl (by kernel_rfl)) rfl ?_
  exact ⟨_, by first |rfl|(simp [errW_none, errW_some] <;> rfl)|(simp [*, errW_none, errW_some] <;> rfl), by first|exact Kd.R_nil _ _ _ _ _|exact Kd.N_nil _ _ _ _ _|exact Kd.V_nil _ _ _ _ _|exact Kd.Q_nil _ _ _ _ _|exact Kd.S_nil _ _ _ _ _, by repeat (first|(with_reducible first|exact HB.out|apply z4h|apply z5h|apply z6h|refine z7h ?_ GE243.out|refine z7h ?_ GE244.out)|exact HB.out)⟩

def laws_ints.l0 : Nat → List Int → List Int → Int → Int → Option (Bool)
 | 0, _, _, _, _ => none
 | k + 1, x0, x1, x12, x13 => if x13 < x12 then (if 0 ≤ x13 then (if x13 < (x0.length : Int) then (if x13 < (x1.length : Int) then (if (rd x0 x13) = (rd x1 x13) then (laws_ints.l0 k x0 x1 x12 (wrap64 (x13 + 1))) else (some false)) else (none)) else (none)) else (none)) else (some true)
def laws_ints.f (k : Nat) (l0 : List Int) (l1 : List Int) : Option (Bool) := if (l0.length : Int) = (l1.length : Int) then (laws_ints.l0 k l0 l1 (l0.length : Int) 0) else (some false)
set_option maxHeartbeats 8000000 in
set_option maxRecDepth 100000 in
theorem laws_ints.calls (k : Nat) (A0 : Option Addr) (c0 : Nat) (l0 : List Int) (A1 : Option Addr) (c1 : Nat) (l1 : List Int) (r : Bool) (w : World) (hr0 : Kd.C (Kd.int .i64) w A0 l0.length l0) (hc0 : l0.length ≤ c0) (hr1 : Kd.C (Kd.int .i64) w A1 l1.length l1) (hc1 : l1.length ≤ c1) (h : laws_ints.f k l0 l1 = some r) :
  Calls Try.prog 46 #[.slice A0 l0.length c0, .slice A1 l1.length c1] w fun e w' => e = .returned (.bool r) ∧ Drawn0 w w' := by
 have HR0 := z0h hr0
 have HC0 := z0h hc0
 clear hr0 hc0
 have HR1 := z0h hr1
 have HC1 := z0h hc1
 clear hr1 hc1
 have H : (if (l0.length : Int) = (l1.length : Int) then (laws_ints.l0 k l0 l1 (l0.length : Int) 0) else (some false)) = some r := h
 clear h
 by_cases c3 : (l0.length : Int) = (l1.length : Int)
 ·rw [if_pos c3] at H
  have c3b0 : ((l0.length : Int) == (l1.length : Int)) = true := beq_iff_eq.mpr c3
  have c3b1 : ((l0.length : Int) != (l1.length : Int)) = false := bne_eq_false_iff_eq.mpr c3
  have c3b2 : (l0.length == l1.length) = true := by first | simpa using c3|(simp at c3 ⊢;omega)
  clear c3
  have H' := z0h H
  clear H
  go_enter Try.func46, Try.ntmps46
  go_wp2
  repeat (go_quiet (fail);try go_wp2)
  go_loopg [13] k (fun kq v13 w' => ∃ (x13_1 : Int), v13 = .int .i64 x13_1 ∧ Aside0 (laws_ints.l0 kq l0 l1 (l0.length : Int) x13_1 = some r) ∧ Aside0 (kq ≤ k) ∧ Drawn0 w w')
  case atStart => exact ⟨(0), (by first |rfl|(simp;done)|(simp [*];done)), H', ⟨Nat.le_refl _⟩, by repeat (first|exact Drawn0.refl _|apply Drawn0.step)⟩
  case round =>
   clear H'
   (try clear c1);(try clear p2);(try clear c3);(try clear c3b0);(try clear c3b1);(try clear c3b2)
   obtain ⟨x13_1, rfl, HA, HK1, ⟨m1, rfl⟩⟩ := hrel
   cases gk with
   | zero => exact absurd HA.out (by simp [laws_ints.l0])
   | succ k1 =>
    have H := HA.out
    clear HA
    simp only [laws_ints.l0] at H
    by_cases c4 : x13_1 < (l0.length : Int)
    ·rw [if_pos c4] at H
     have c4b0 : decide (x13_1 < (l0.length : Int)) = true := decide_eq_true c4
     clear c4
     by_cases c5 : 0 ≤ x13_1
     ·rw [if_pos c5] at H
      have c5b0 : decide (0 ≤ x13_1) = true := decide_eq_true c5
      clear c5
      by_cases c6 : x13_1 < (l0.length : Int)
      ·rw [if_pos c6] at H
       have c6b0 : decide (x13_1 < (l0.length : Int)) = true := decide_eq_true c6
       clear c6
       by_cases c7 : x13_1 < (l1.length : Int)
       ·rw [if_pos c7] at H
        have c7b0 : decide (x13_1 < (l1.length : Int)) = true := decide_eq_true c7
        clear c7
        by_cases c8 : (rd l0 x13_1) = (rd l1 x13_1)
        ·rw [if_pos c8] at H
         have c8b0 : ((rd l0 x13_1) == (rd l1 x13_1)) = true := beq_iff_eq.mpr c8
         have c8b1 : ((rd l0 x13_1) != (rd l1 x13_1)) = false := bne_eq_false_iff_eq.mpr c8
         clear c8
         have H' := z0h H
         clear H
         have p257 : 0 ≤ (x13_1 : Int) := of_decide_eq_true (by first|(with_reducible assumption) | assumption)
         have q257 : x13_1 < (l0.length : Int) := of_decide_eq_true (by first|(with_reducible assumption) | assumption)
         obtain ⟨ad257, e257, hx257_0⟩ := Kd.at_int HR0.out x13_1 p257 q257
         cases e257
         replace p257 := eq_true p257
         replace q257 := eq_true q257
         have p258 : 0 ≤ (x13_1 : Int) := of_decide_eq_true (by first|(with_reducible assumption) | assumption)
         have q258 : x13_1 < (l1.length : Int) := of_decide_eq_true (by first|(with_reducible assumption) | assumption)
         obtain ⟨ad258, e258, hx258_0⟩ := Kd.at_int HR1.out x13_1 p258 q258
         cases e258
         replace p258 := eq_true p258
         replace q258 := eq_true q258
         go_wp2
         repeat (go_quiet (fail);try go_wp2)
         go_roundg k1
         case measure => have := HK1.out;omega
         case rel => exact ⟨(wrap64 (x13_1 + 1)), (by first |rfl|(simp;done)|(simp [*];done)), H', ⟨by have := HK1.out;omega⟩, by repeat (first|exact Drawn0.refl _|apply Drawn0.step)⟩
        ·rw [if_neg c8] at H
         have c8b0 : ((rd l0 x13_1) == (rd l1 x13_1)) = false := beq_eq_false_iff_ne.mpr c8
         have c8b1 : ((rd l0 x13_1) != (rd l1 x13_1)) = true := bne_iff_ne.mpr c8
         obtain rfl := Option.some.inj H
         have p257 : 0 ≤ (x13_1 : Int) := of_decide_eq_true (by first|(with_reducible assumption) | assumption)
         have q257 : x13_1 < (l0.length : Int) := of_decide_eq_true (by first|(with_reducible assumption) | assumption)
         obtain ⟨ad257, e257, hx257_0⟩ := Kd.at_int HR0.out x13_1 p257 q257
         cases e257
         replace p257 := eq_true p257
         replace q257 := eq_true q257
         have p258 : 0 ≤ (x13_1 : Int) := of_decide_eq_true (by first|(with_reducible assumption) | assumption)
         have q258 : x13_1 < (l1.length : Int) := of_decide_eq_true (by first|(with_reducible assumption) | assumption)
         obtain ⟨ad258, e258, hx258_0⟩ := Kd.at_int HR1.out x13_1 p258 q258
         cases e258
         replace p258 := eq_true p258
         replace q258 := eq_true q258
         go_wp2
         repeat (go_quiet (fail);try go_wp2)
         go_ret
         exact ⟨by first |rfl|(simp;done)|(simp [*];done), by repeat (first|exact Drawn0.refl _|apply Drawn0.step)⟩
       ·rw [if_neg c7] at H
        exact absurd H (by simp)
      ·rw [if_neg c6] at H
       exact absurd H (by simp)
     ·rw [if_neg c5] at H
      exact absurd H (by simp)
    ·rw [if_neg c4] at H
     have c4b0 : decide (x13_1 < (l0.length : Int)) = false := decide_eq_false c4
     clear c4
     obtain rfl := Option.some.inj H
     go_wp2
     repeat (go_quiet (fail);try go_wp2)
     go_ret
     exact ⟨by first |rfl|(simp;done)|(simp [*];done), by repeat (first|exact Drawn0.refl _|apply Drawn0.step)⟩
 ·rw [if_neg c3] at H
  have c3b0 : ((l0.length : Int) == (l1.length : Int)) = false := beq_eq_false_iff_ne.mpr c3
  have c3b1 : ((l0.length : Int) != (l1.length : Int)) = true := bne_iff_ne.mpr c3
  have c3b2 : (l0.length == l1.length) = false := by first | simpa using c3|(simp at c3 ⊢;omega)
  obtain rfl := Option.some.inj H
  go_enter Try.func46, Try.ntmps46
  go_wp2
  repeat (go_quiet (fail);try go_wp2)
  go_ret
  exact ⟨by first |rfl|(simp;done)|(simp [*];done), by repeat (first|exact Drawn0.refl _|apply Drawn0.step)⟩

def laws_same.f (k : Nat) (a0_0 : Int) (a0_1 : Int) (l0_2 : List Int) (a1_0 : Int) (a1_1 : Int) (l1_2 : List Int) : Option (Bool) := if a0_0 = a1_0 then (if a0_1 = a1_1 then ((laws_ints.f k l0_2 l1_2).bind fun t261 => (some t261)) else (some false)) else (some false)
set_option maxHeartbeats 8000000 in
set_option maxRecDepth 100000 in
theorem laws_same.calls (k : Nat) (a0_0 : Int) (a0_1 : Int) (A0_2 : Option Addr) (c0_2 : Nat) (l0_2 : List Int) (a1_0 : Int) (a1_1 : Int) (A1_2 : Option Addr) (c1_2 : Nat) (l1_2 : List Int) (r : Bool) (w : World) (hr0_2 : Kd.C (Kd.int .i64) w A0_2 l0_2.length l0_2) (hc0_2 : l0_2.length ≤ c0_2) (hr1_2 : Kd.C (Kd.int .i64) w A1_2 l1_2.length l1_2) (hc1_2 : l1_2.length ≤ c1_2) (h : laws_same.f k a0_0 a0_1 l0_2 a1_0 a1_1 l1_2 = some r) :
  Calls Try.prog 15 #[.agg #[.int .i64 a0_0, .int .i64 a0_1, .slice A0_2 l0_2.length c0_2], .agg #[.int .i64 a1_0, .int .i64 a1_1, .slice A1_2 l1_2.length c1_2]] w fun e w' => e = .returned (.bool r) ∧ Below w.heap.size w w' := by
 have hu31 := Try.underlying31
 have HR0_2 := z0h hr0_2
 have HC0_2 := z0h hc0_2
 clear hr0_2 hc0_2
 have HR1_2 := z0h hr1_2
 have HC1_2 := z0h hc1_2
 clear hr1_2 hc1_2
 have HB := z0h (Below.refl w.heap.size w)
 have H : (if a0_0 = a1_0 then (if a0_1 = a1_1 then ((laws_ints.f k l0_2 l1_2).bind fun t261 => (some t261)) else (some false)) else (some false)) = some r := h
 clear h
 by_cases c3 : a0_0 = a1_0
 ·rw [if_pos c3] at H
  have c3b0 : (a0_0 == a1_0) = true := beq_iff_eq.mpr c3
  have c3b1 : (a0_0 != a1_0) = false := bne_eq_false_iff_eq.mpr c3
  clear c3
  by_cases c4 : a0_1 = a1_1
  ·rw [if_pos c4] at H
   have c4b0 : (a0_1 == a1_1) = true := beq_iff_eq.mpr c4
   have c4b1 : (a0_1 != a1_1) = false := bne_eq_false_iff_eq.mpr c4
   clear c4
   replace H := Option.bind_eq_some_iff.mp H
   obtain ⟨t261, A50, H⟩ := H
   replace H : (some t261) = some r := H
   have A5 := z0h A50
   clear A50
   obtain rfl := Option.some.inj H
   go_enter Try.func15, Try.ntmps15
   go_wp2_with (first|((with_reducible refine gate_dst (N := 2) rfl ?_);refine box_event ?hg (N := 2) ?hd (cs := #[.int .i64 a0_0, .int .i64 a0_1, .slice A0_2 l0_2.length c0_2]) (t := 31) ?hr ?_;(case hd => rfl);(case hg => rfl);(case hr => first|(go_simp;done)|(go_simp;rfl));intro gb259 hg w6 hbox hb;have n0_ := z0h (y6h (by repeat (first|(with_reducible first|exact HB.out|apply z4h|apply z5h|apply z6h)|exact HB.out)) hb);have n1_ := z0h (hbox);have n2_ := z0h ((by rw [hg];exact (y7h (by repeat (first|(with_reducible first|exact HB.out|apply z4h|apply z5h|apply z6h)|exact HB.out))) : w.heap.size ≤ gb259));have n3_ := z0h ((by rw [hg];exact (y7h (by repeat (first|(with_reducible first|exact HB.out|apply z4h|apply z5h|apply z6h)|exact HB.out))) : w.heap.size ≤ gb259));clear HB;have HB := n0_;have BK259 := n1_;have GW259 := n2_;have GE259 := n3_;clear n0_ n1_ n2_ n3_;clear hb hbox hg)|((with_reducible refine gate_dst (N := 3) rfl ?_);refine box_event ?hg (N := 3) ?hd (cs := #[.int .i64 a1_0, .int .i64 a1_1, .slice A1_2 l1_2.length c1_2]) (t := 31) ?hr ?_;(case hd => rfl);(case hg => rfl);(case hr => first|(go_simp;done)|(go_simp;rfl));intro gb260 hg w7 hbox hb;have n0_ := z0h (y5h (g := gb259) (o := .cells #[.int .i64 a0_0, .int .i64 a0_1, .slice A0_2 l0_2.length c0_2] 31 (0, 0)) (by (with_reducible repeat (first|refine z1h ?_ _|refine z3h ?_|refine z2h ?_ _));exact BK259.out) hb);have n1_ := z0h (y6h (by repeat (first|(with_reducible first|exact HB.out|apply z4h|apply z5h|apply z6h|refine z7h ?_ GE259.out)|exact HB.out)) hb);have n2_ := z0h (hbox);have n3_ := z0h ((by rw [hg];exact (y7h (by repeat (first|(with_reducible first|exact HB.out|apply z4h|apply z5h|apply z6h|refine z7h ?_ GE259.out)|exact HB.out))) : w.heap.size ≤ gb260));have n4_ := z0h ((by rw [hg];exact (y7h (by repeat (first|(with_reducible first|exact HB.out|apply z4h|apply z5h|apply z6h|refine z7h ?_ GE259.out)|exact HB.out))) : w.heap.size ≤ gb260));have n5_ := z0h ((by rw [hg];exact Nat.ne_of_lt (blk_lt (g := gb259) (o := .cells #[.int .i64 a0_0, .int .i64 a0_1, .slice A0_2 l0_2.length c0_2] 31 (0, 0)) (by (with_reducible repeat (first|refine z1h ?_ _|refine z3h ?_|refine z2h ?_ _));exact BK259.out)) : gb259 ≠ gb260));have n6_ := z0h ((by rw [hg];exact Nat.ne_of_gt (blk_lt (g := gb259) (o := .cells #[.int .i64 a0_0, .int .i64 a0_1, .slice A0_2 l0_2.length c0_2] 31 (0, 0)) (by (with_reducible repeat (first|refine z1h ?_ _|refine z3h ?_|refine z2h ?_ _));exact BK259.out)) : gb260 ≠ gb259));clear BK259;clear HB;have BK259 := n0_;have HB := n1_;have BK260 := n2_;have GW260 := n3_;have GE260 := n4_;have NB259_260 := n5_;have NB260_259 := n6_;clear n0_ n1_ n2_ n3_ n4_ n5_ n6_;clear hb hbox hg;have hnb8 := NB259_260.out;have hnc8 := NB260_259.out;have hcz9_0 : w7.cell? ⟨gb259, 0, none⟩ = some (.int .i64 a0_0) := (x3h BK259.out 0).trans rfl;have hcz9_1 : w7.cell? ⟨gb259, 1, none⟩ = some (.int .i64 a0_1) := (x3h BK259.out 1).trans rfl;have hcz9_2 : w7.cell? ⟨gb259, 2, none⟩ = some (.slice A0_2 l0_2.length c0_2) := (x3h BK259.out 2).trans rfl;have hfz9_0 := x2h BK259.out 0;have hfz9_1 := x2h BK259.out 1;have hfz9_2 := x2h BK259.out 2;have hcz10_0 : w7.cell? ⟨gb260, 0, none⟩ = some (.int .i64 a1_0) := (x3h BK260.out 0).trans rfl;have hcz10_1 : w7.cell? ⟨gb260, 1, none⟩ = some (.int .i64 a1_1) := (x3h BK260.out 1).trans rfl;have hcz10_2 : w7.cell? ⟨gb260, 2, none⟩ = some (.slice A1_2 l1_2.length c1_2) := (x3h BK260.out 2).trans rfl;have hfz10_0 := x2h BK260.out 0;have hfz10_1 := x2h BK260.out 1;have hfz10_2 := x2h BK260.out 2)|(go_at_call 46;(with_reducible refine (laws_ints.calls k _ _ l0_2 _ _ l1_2 t261 _ ?side1 ?side2 ?side3 ?side4 A5.out).mono ?_);(case side1 => repeat (first|exact HR0_2.out|exact (y9h HR0_2.out HB.out)|(with_reducible refine y2h ?_ _)|(with_reducible refine y3h ?_ _)|(with_reducible refine y4h ?_)));(case side2 => exact HC0_2.out);(case side3 => repeat (first|exact HR1_2.out|exact (y9h HR1_2.out HB.out)|(with_reducible refine y2h ?_ _)|(with_reducible refine y3h ?_ _)|(with_reducible refine y4h ?_)));(case side4 => exact HC1_2.out);rintro e w' ⟨rfl, ⟨nd, rfl⟩⟩))
   go_ret
   exact ⟨by first |rfl|(simp [errW_none, errW_some] <;> rfl)|(simp [*, errW_none, errW_some] <;> rfl), by repeat (first|(with_reducible first|exact HB.out|apply z4h|apply z5h|apply z6h|refine z7h ?_ GE259.out|refine z7h ?_ GE260.out)|exact HB.out)⟩
  ·rw [if_neg c4] at H
   have c4b0 : (a0_1 == a1_1) = false := beq_eq_false_iff_ne.mpr c4
   have c4b1 : (a0_1 != a1_1) = true := bne_iff_ne.mpr c4
   obtain rfl := Option.some.inj H
   go_enter Try.func15, Try.ntmps15
   go_wp2_with (first|((with_reducible refine gate_dst (N := 2) rfl ?_);refine box_event ?hg (N := 2) ?hd (cs := #[.int .i64 a0_0, .int .i64 a0_1, .slice A0_2 l0_2.length c0_2]) (t := 31) ?hr ?_;(case hd => rfl);(case hg => rfl);(case hr => first|(go_simp;done)|(go_simp;rfl));intro gb259 hg w11 hbox hb;have n0_ := z0h (y6h (by repeat (first|(with_reducible first|exact HB.out|apply z4h|apply z5h|apply z6h)|exact HB.out)) hb);have n1_ := z0h (hbox);have n2_ := z0h ((by rw [hg];exact (y7h (by repeat (first|(with_reducible first|exact HB.out|apply z4h|apply z5h|apply z6h)|exact HB.out))) : w.heap.size ≤ gb259));have n3_ := z0h ((by rw [hg];exact (y7h (by repeat (first|(with_reducible first|exact HB.out|apply z4h|apply z5h|apply z6h)|exact HB.out))) : w.heap.size ≤ gb259));clear HB;have HB := n0_;have BK259 := n1_;have GW259 := n2_;have GE259 := n3_;clear n0_ n1_ n2_ n3_;clear hb hbox hg)|((with_reducible refine gate_dst (N := 3) rfl ?_);refine box_event ?hg (N := 3) ?hd (cs := #[.int .i64 a1_0, .int .i64 a1_1, .slice A1_2 l1_2.length c1_2]) (t := 31) ?hr ?_;(case hd => rfl);(case hg => rfl);(case hr => first|(go_simp;done)|(go_simp;rfl));intro gb260 hg w12 hbox hb;have n0_ := z0h (y5h (g := gb259) (o := .cells #[.int .i64 a0_0, .int .i64 a0_1, .slice A0_2 l0_2.length c0_2] 31 (0, 0)) (by (with_reducible repeat (first|refine z1h ?_ _|refine z3h ?_|refine z2h ?_ _));exact BK259.out) hb);have n1_ := z0h (y6h (by repeat (first|(with_reducible first|exact HB.out|apply z4h|apply z5h|apply z6h|refine z7h ?_ GE259.out)|exact HB.out)) hb);have n2_ := z0h (hbox);have n3_ := z0h ((by rw [hg];exact (y7h (by repeat (first|(with_reducible first|exact HB.out|apply z4h|apply z5h|apply z6h|refine z7h ?_ GE259.out)|exact HB.out))) : w.heap.size ≤ gb260));have n4_ := z0h ((by rw [hg];exact (y7h (by repeat (first|(with_reducible first|exact HB.out|apply z4h|apply z5h|apply z6h|refine z7h ?_ GE259.out)|exact HB.out))) : w.heap.size ≤ gb260));have n5_ := z0h ((by rw [hg];exact Nat.ne_of_lt (blk_lt (g := gb259) (o := .cells #[.int .i64 a0_0, .int .i64 a0_1, .slice A0_2 l0_2.length c0_2] 31 (0, 0)) (by (with_reducible repeat (first|refine z1h ?_ _|refine z3h ?_|refine z2h ?_ _));exact BK259.out)) : gb259 ≠ gb260));have n6_ := z0h ((by rw [hg];exact Nat.ne_of_gt (blk_lt (g := gb259) (o := .cells #[.int .i64 a0_0, .int .i64 a0_1, .slice A0_2 l0_2.length c0_2] 31 (0, 0)) (by (with_reducible repeat (first|refine z1h ?_ _|refine z3h ?_|refine z2h ?_ _));exact BK259.out)) : gb260 ≠ gb259));clear BK259;clear HB;have BK259 := n0_;have HB := n1_;have BK260 := n2_;have GW260 := n3_;have GE260 := n4_;have NB259_260 := n5_;have NB260_259 := n6_;clear n0_ n1_ n2_ n3_ n4_ n5_ n6_;clear hb hbox hg;have hnb13 := NB259_260.out;have hnc13 := NB260_259.out;have hcz14_0 : w12.cell? ⟨gb259, 0, none⟩ = some (.int .i64 a0_0) := (x3h BK259.out 0).trans rfl;have hcz14_1 : w12.cell? ⟨gb259, 1, none⟩ = some (.int .i64 a0_1) := (x3h BK259.out 1).trans rfl;have hcz14_2 : w12.cell? ⟨gb259, 2, none⟩ = some (.slice A0_2 l0_2.length c0_2) := (x3h BK259.out 2).trans rfl;have hfz14_0 := x2h BK259.out 0;have hfz14_1 := x2h BK259.out 1;have hfz14_2 := x2h BK259.out 2;have hcz15_0 : w12.cell? ⟨gb260, 0, none⟩ = some (.int .i64 a1_0) := (x3h BK260.out 0).trans rfl;have hcz15_1 : w12.cell? ⟨gb260, 1, none⟩ = some (.int .i64 a1_1) := (x3h BK260.out 1).trans rfl;have hcz15_2 : w12.cell? ⟨gb260, 2, none⟩ = some (.slice A1_2 l1_2.length c1_2) := (x3h BK260.out 2).trans rfl;have hfz15_0 := x2h BK260.out 0;have hfz15_1 := x2h BK260.out 1;have hfz15_2 := x2h BK260.out 2))
   go_ret
   exact ⟨by first |rfl|(simp [errW_none, errW_some] <;> rfl)|(simp [*, errW_none, errW_some] <;> rfl), by repeat (first|(with_reducible first|exact HB.out|apply z4h|apply z5h|apply z6h|refine z7h ?_ GE259.out|refine z7h ?_ GE260.out)|exact HB.out)⟩
 ·rw [if_neg c3] at H
  have c3b0 : (a0_0 == a1_0) = false := beq_eq_false_iff_ne.mpr c3
  have c3b1 : (a0_0 != a1_0) = true := bne_iff_ne.mpr c3
  obtain rfl := Option.some.inj H
  go_enter Try.func15, Try.ntmps15
  go_wp2_with (first|((with_reducible refine gate_dst (N := 2) rfl ?_);refine box_event ?hg (N := 2) ?hd (cs := #[.int .i64 a0_0, .int .i64 a0_1, .slice A0_2 l0_2.length c0_2]) (t := 31) ?hr ?_;(case hd => rfl);(case hg => rfl);(case hr => first|(go_simp;done)|(go_simp;rfl));intro gb259 hg w16 hbox hb;have n0_ := z0h (y6h (by repeat (first|(with_reducible first|exact HB.out|apply z4h|apply z5h|apply z6h)|exact HB.out)) hb);have n1_ := z0h (hbox);have n2_ := z0h ((by rw [hg];exact (y7h (by repeat (first|(with_reducible first|exact HB.out|apply z4h|apply z5h|apply z6h)|exact HB.out))) : w.heap.size ≤ gb259));have n3_ := z0h ((by rw [hg];exact (y7h (by repeat (first|(with_reducible first|exact HB.out|apply z4h|apply z5h|apply z6h)|exact HB.out))) : w.heap.size ≤ gb259));clear HB;have HB := n0_;have BK259 := n1_;have GW259 := n2_;have GE259 := n3_;clear n0_ n1_ n2_ n3_;clear hb hbox hg)|((with_reducible refine gate_dst (N := 3) rfl ?_);refine box_event ?hg (N := 3) ?hd (cs := #[.int .i64 a1_0, .int .i64 a1_1, .slice A1_2 l1_2.length c1_2]) (t := 31) ?hr ?_;(case hd => rfl);(case hg => rfl);(case hr => first|(go_simp;done)|(go_simp;rfl));intro gb260 hg w17 hbox hb;have n0_ := z0h (y5h (g := gb259) (o := .cells #[.int .i64 a0_0, .int .i64 a0_1, .slice A0_2 l0_2.length c0_2] 31 (0, 0)) (by (with_reducible repeat (first|refine z1h ?_ _|refine z3h ?_|refine z2h ?_ _));exact BK259.out) hb);have n1_ := z0h (y6h (by repeat (first|(with_reducible first|exact HB.out|apply z4h|apply z5h|apply z6h|refine z7h ?_ GE259.out)|exact HB.out)) hb);have n2_ := z0h (hbox);have n3_ := z0h ((by rw [hg];exact (y7h (by repeat (first|(with_reducible first|exact HB.out|apply z4h|apply z5h|apply z6h|refine z7h ?_ GE259.out)|exact HB.out))) : w.heap.size ≤ gb260));have n4_ := z0h ((by rw [hg];exact (y7h (by repeat (first|(with_reducible first|exact HB.out|apply z4h|apply z5h|apply z6h|refine z7h ?_ GE259.out)|exact HB.out))) : w.heap.size ≤ gb260));have n5_ := z0h ((by rw [hg];exact Nat.ne_of_lt (blk_lt (g := gb259) (o := .cells #[.int .i64 a0_0, .int .i64 a0_1, .slice A0_2 l0_2.length c0_2] 31 (0, 0)) (by (with_reducible repeat (first|refine z1h ?_ _|refine z3h ?_|refine z2h ?_ _));exact BK259.out)) : gb259 ≠ gb260));have n6_ := z0h ((by rw [hg];exact Nat.ne_of_gt (blk_lt (g := gb259) (o := .cells #[.int .i64 a0_0, .int .i64 a0_1, .slice A0_2 l0_2.length c0_2] 31 (0, 0)) (by (with_reducible repeat (first|refine z1h ?_ _|refine z3h ?_|refine z2h ?_ _));exact BK259.out)) : gb260 ≠ gb259));clear BK259;clear HB;have BK259 := n0_;have HB := n1_;have BK260 := n2_;have GW260 := n3_;have GE260 := n4_;have NB259_260 := n5_;have NB260_259 := n6_;clear n0_ n1_ n2_ n3_ n4_ n5_ n6_;clear hb hbox hg;have hnb18 := NB259_260.out;have hnc18 := NB260_259.out;have hcz19_0 : w17.cell? ⟨gb259, 0, none⟩ = some (.int .i64 a0_0) := (x3h BK259.out 0).trans rfl;have hcz19_1 : w17.cell? ⟨gb259, 1, none⟩ = some (.int .i64 a0_1) := (x3h BK259.out 1).trans rfl;have hcz19_2 : w17.cell? ⟨gb259, 2, none⟩ = some (.slice A0_2 l0_2.length c0_2) := (x3h BK259.out 2).trans rfl;have hfz19_0 := x2h BK259.out 0;have hfz19_1 := x2h BK259.out 1;have hfz19_2 := x2h BK259.out 2;have hcz20_0 : w17.cell? ⟨gb260, 0, none⟩ = some (.int .i64 a1_0) := (x3h BK260.out 0).trans rfl;have hcz20_1 : w17.cell? ⟨gb260, 1, none⟩ = some (.int .i64 a1_1) := (x3h BK260.out 1).trans rfl;have hcz20_2 : w17.cell? ⟨gb260, 2, none⟩ = some (.slice A1_2 l1_2.length c1_2) := (x3h BK260.out 2).trans rfl;have hfz20_0 := x2h BK260.out 0;have hfz20_1 := x2h BK260.out 1;have hfz20_2 := x2h BK260.out 2))
  go_ret
  exact ⟨by first |rfl|(simp [errW_none, errW_some] <;> rfl)|(simp [*, errW_none, errW_some] <;> rfl), by repeat (first|(with_reducible first|exact HB.out|apply z4h|apply z5h|apply z6h|refine z7h ?_ GE259.out|refine z7h ?_ GE260.out)|exact HB.out)⟩

def spec_l1In.f (a0 : Int) (a1 : Int) (a2 : Int) : Option (Bool) := if a0 ≥ a1 then (some (decide (a0 ≤ a2))) else (some false)
set_option maxHeartbeats 8000000 in
set_option maxRecDepth 100000 in
theorem spec_l1In.calls (a0 : Int) (a1 : Int) (a2 : Int) (r : Bool) (w : World) (h : spec_l1In.f a0 a1 a2 = some r) :
  Calls Try.prog 53 #[.int .i64 a0, .int .i64 a1, .int .i64 a2] w fun e w' => e = .returned (.bool r) ∧ Drawn0 w w' := by
 have H : (if a0 ≥ a1 then (some (decide (a0 ≤ a2))) else (some false)) = some r := h
 clear h
 by_cases c4 : a0 ≥ a1
 ·rw [if_pos c4] at H
  have c4b0 : decide (a1 ≤ a0) = true := decide_eq_true c4
  clear c4
  obtain rfl := Option.some.inj H
  go_enter Try.func53, Try.ntmps53
  go_wp2
  go_ret
  exact ⟨by first |rfl|(simp;done)|(simp [*];done), by repeat (first|exact Drawn0.refl _|apply Drawn0.step)⟩
 ·rw [if_neg c4] at H
  have c4b0 : decide (a1 ≤ a0) = false := decide_eq_false c4
  clear c4
  obtain rfl := Option.some.inj H
  go_enter Try.func53, Try.ntmps53
  go_wp2
  go_ret
  exact ⟨by first |rfl|(simp;done)|(simp [*];done), by repeat (first|exact Drawn0.refl _|apply Drawn0.step)⟩

end Go.Proofs.Ytnohdgbfgdnpfaa.PFnCausal
