/- Machine side of laws FnCausal: written for this claim by the kit's print program under this session's wip/tools/mp_setup.py (with contracts of the session's own, wip/ext). -/
import Derived.Test.YtnohdgbfgdnpfaaPFnCausalx0
import Derived.Test.YtnohdgbfgdnpfaaPFnCausalx4
namespace Go.Proofs.Ytnohdgbfgdnpfaa.PFnCausal
open Go.RowKit Go.Proofs.YtnohdgbfgdnpfaaW.PrintWords Go.Proofs.YtnohdgbfgdnpfaaW.PrintLast Go.Proofs.YtnohdgbfgdnpfaaW.PrintMore
attribute [local go_sem] max2_int min2_int max_two min_two max_three min_three max_four min_four   -- for this text's walks alone
set_option linter.unusedVariables false
set_option linter.unusedSimpArgs false
-- squeezed: words under short names
set_option linter.defProp false in
def z0f := @Aside0.mk
set_option linter.defProp false in
def z1f := @blk_drewN
set_option linter.defProp false in
def z2f := @blk_alloc
set_option linter.defProp false in
def z3f := @blk_drew
set_option linter.defProp false in
def z4f := @below_alloc
set_option linter.defProp false in
def z5f := @pw_below_drewN
set_option linter.defProp false in
def z6f := @below_drew1
set_option linter.defProp false in
def z7f := @below_set
set_option linter.defProp false in
def z8f := @Kd.R_alloc
set_option linter.defProp false in
def z9f := @Kd.R_drewN
set_option linter.defProp false in
def y1f := @Kd.R_drew
set_option linter.defProp false in
def y6f := @below_step
set_option linter.defProp false in
def y7f := @below_size
set_option linter.defProp false in
def x1f := @Kd.R_far
set_option linter.defProp false in
def x2f := @blk_frozen
set_option linter.defProp false in
def x3f := @blk_cell
def bsf_ (n m : Nat) : Array Bool := ((List.range n).map fun i => m.testBit i).toArray
theorem s1f_ {α : Type} (l : List α) (i : Nat) (a : α) : l.toArray.setIfInBounds i a = (l.set i a).toArray := List.setIfInBounds_toArray l i a
theorem s2f_ {α : Type} (a b : α) (l : List α) : (a :: l).set 0 b = b :: l := rfl
theorem s3f_ {α : Type} (a b : α) (n : Nat) (l : List α) : (a :: l).set (n + 1) b = a :: l.set n b := rfl

def impl_IsPicture.f (a0_0 : Int) (a0_1 : Int) (l0_2 : List Int) : Option (Bool) := (impl_sized.f a0_0 a0_1).bind fun t188 => (if t188 = true then (if (l0_2.length : Int) = (wrap64 (a0_0 * a0_1)) then ((impl_within.f l0_2 255).bind fun t189 => (some t189)) else (some false)) else (some false))
set_option maxHeartbeats 8000000 in
set_option maxRecDepth 100000 in
theorem impl_IsPicture.calls (a0_0 : Int) (a0_1 : Int) (A0_2 : Option Addr) (c0_2 : Nat) (l0_2 : List Int) (r : Bool) (w : World) (hr0_2 : Kd.C (Kd.int .i64) w A0_2 l0_2.length l0_2) (hc0_2 : l0_2.length ≤ c0_2) (h : impl_IsPicture.f a0_0 a0_1 l0_2 = some r) :
  Calls Try.prog 42 #[.agg #[.int .i64 a0_0, .int .i64 a0_1, .slice A0_2 l0_2.length c0_2]] w fun e w' => e = .returned (.bool r) ∧ Below w.heap.size w w' := by
 have hu31 := Try.underlying31
 have HR0_2 := z0f hr0_2
 have HC0_2 := z0f hc0_2
 clear hr0_2 hc0_2
 have HB := z0f (Below.refl w.heap.size w)
 have H : ((impl_sized.f a0_0 a0_1).bind fun t188 => (if t188 = true then (if (l0_2.length : Int) = (wrap64 (a0_0 * a0_1)) then ((impl_within.f l0_2 255).bind fun t189 => (some t189)) else (some false)) else (some false))) = some r := h
 clear h
 replace H := Option.bind_eq_some_iff.mp H
 obtain ⟨t188, A20, H⟩ := H
 replace H : (if t188 = true then (if (l0_2.length : Int) = (wrap64 (a0_0 * a0_1)) then ((impl_within.f l0_2 255).bind fun t189 => (some t189)) else (some false)) else (some false)) = some r := H
 have A2 := z0f A20
 clear A20
 by_cases c3 : t188 = true
 ·subst c3
  have H1 : (if (l0_2.length : Int) = (wrap64 (a0_0 * a0_1)) then ((impl_within.f l0_2 255).bind fun t189 => (some t189)) else (some false)) = some r := by rw [if_pos rfl] at H;first|exact H|(simp only [if_true] at H ⊢;exact H)
  clear H
  have H := H1
  clear H1
  by_cases c4 : (l0_2.length : Int) = (wrap64 (a0_0 * a0_1))
  ·rw [if_pos c4] at H
   have c4b0 : ((l0_2.length : Int) == (wrap64 (a0_0 * a0_1))) = true := beq_iff_eq.mpr c4
   have c4b1 : ((l0_2.length : Int) != (wrap64 (a0_0 * a0_1))) = false := bne_eq_false_iff_eq.mpr c4
   clear c4
   replace H := Option.bind_eq_some_iff.mp H
   obtain ⟨t189, A50, H⟩ := H
   replace H : (some t189) = some r := H
   have A5 := z0f A50
   clear A50
   obtain rfl := Option.some.inj H
   go_enter Try.func42, Try.ntmps42
   go_wp2_with (first|((with_reducible refine gate_dst (N := 1) rfl ?_);(try (refine gate_guard (by rfl) ?_;dsimp only));refine box_event ?hg (N := 1) ?hd (cs := #[.int .i64 a0_0, .int .i64 a0_1, .slice A0_2 l0_2.length c0_2]) (t := 31) ?hr ?_;(case hd => rfl);(case hg => rfl);(case hr => first|(go_simp;done)|(go_simp;rfl));intro gb187 hg w6 hbox hb;have n0_ := z0f (y6f (by repeat (first|(with_reducible first|exact HB.out|apply z4f|apply z5f|apply z6f)|exact HB.out)) hb);have n1_ := z0f (hbox);have n2_ := z0f ((by rw [hg];exact (y7f (by repeat (first|(with_reducible first|exact HB.out|apply z4f|apply z5f|apply z6f)|exact HB.out))) : w.heap.size ≤ gb187));have n3_ := z0f ((by rw [hg];exact (y7f (by repeat (first|(with_reducible first|exact HB.out|apply z4f|apply z5f|apply z6f)|exact HB.out))) : w.heap.size ≤ gb187));clear HB;have HB := n0_;have BK187 := n1_;have GW187 := n2_;have GE187 := n3_;clear n0_ n1_ n2_ n3_;clear hb hbox hg;have hcz7_0 : w6.cell? ⟨gb187, 0, none⟩ = some (.int .i64 a0_0) := (x3f BK187.out 0).trans rfl;have hcz7_1 : w6.cell? ⟨gb187, 1, none⟩ = some (.int .i64 a0_1) := (x3f BK187.out 1).trans rfl;have hcz7_2 : w6.cell? ⟨gb187, 2, none⟩ = some (.slice A0_2 l0_2.length c0_2) := (x3f BK187.out 2).trans rfl;have hfz7_0 := x2f BK187.out 0;have hfz7_1 := x2f BK187.out 1;have hfz7_2 := x2f BK187.out 2)|((with_reducible refine gate_callee (f := 50) rfl ?_);refine goesL_ (some 7) rfl rfl Try.func50 (by kernel_rfl) rfl #[.int .i64 a0_0, .int .i64 a0_1] rfl (by (try simp only [List.map_toArray, List.map_cons, List.map_nil]);first | done |rfl|(simp only [List.length_drop, List.length_take];rfl)) ?_;(with_reducible refine (impl_sized.calls a0_0 a0_1 true _ A2.out).mono ?_);rintro e w' ⟨rfl, ⟨nd, rfl⟩⟩;refine ⟨_, rfl, ?_⟩)|(go_at_call 61;(with_reducible refine (impl_within.calls _ _ l0_2 255 t189 _ ?side1 ?side2 A5.out).mono ?_);(case side1 => repeat (first|exact (Kd.C_below HR0_2.out (by repeat (first|(with_reducible first|exact HB.out|apply z4f|apply z5f|apply z6f|refine z7f ?_ GE187.out)|exact HB.out)))|(with_reducible refine Kd.C_alloc ?_ _)|(with_reducible refine Kd.C_drewN ?_ _)|(with_reducible refine Kd.C_drew ?_)));(case side2 => exact HC0_2.out);rintro e w8 ⟨rfl, hb⟩;have n0_ := z0f (blk_below (g := gb187) (o := .cells #[.int .i64 a0_0, .int .i64 a0_1, .slice A0_2 l0_2.length c0_2] 31 (0, 0)) (by (with_reducible repeat (first|refine z1f ?_ _|refine z3f ?_|refine z2f ?_ _));exact BK187.out) hb);have n1_ := z0f (y6f (by repeat (first|(with_reducible first|exact HB.out|apply z4f|apply z5f|apply z6f|refine z7f ?_ GE187.out)|exact HB.out)) hb);clear BK187;clear HB;have BK187 := n0_;have HB := n1_;clear n0_ n1_;(try clear hb);(try clear hk)))
   go_ret
   exact ⟨by first |rfl|(simp [errW_none, errW_some] <;> rfl)|(simp [*, errW_none, errW_some] <;> rfl), by repeat (first|(with_reducible first|exact HB.out|apply z4f|apply z5f|apply z6f|refine z7f ?_ GE187.out)|exact HB.out)⟩
  ·rw [if_neg c4] at H
   have c4b0 : ((l0_2.length : Int) == (wrap64 (a0_0 * a0_1))) = false := beq_eq_false_iff_ne.mpr c4
   have c4b1 : ((l0_2.length : Int) != (wrap64 (a0_0 * a0_1))) = true := bne_iff_ne.mpr c4
   obtain rfl := Option.some.inj H
   go_enter Try.func42, Try.ntmps42
   go_wp2_with (first|((with_reducible refine gate_dst (N := 1) rfl ?_);(try (refine gate_guard (by rfl) ?_;dsimp only));refine box_event ?hg (N := 1) ?hd (cs := #[.int .i64 a0_0, .int .i64 a0_1, .slice A0_2 l0_2.length c0_2]) (t := 31) ?hr ?_;(case hd => rfl);(case hg => rfl);(case hr => first|(go_simp;done)|(go_simp;rfl));intro gb187 hg w9 hbox hb;have n0_ := z0f (y6f (by repeat (first|(with_reducible first|exact HB.out|apply z4f|apply z5f|apply z6f)|exact HB.out)) hb);have n1_ := z0f (hbox);have n2_ := z0f ((by rw [hg];exact (y7f (by repeat (first|(with_reducible first|exact HB.out|apply z4f|apply z5f|apply z6f)|exact HB.out))) : w.heap.size ≤ gb187));have n3_ := z0f ((by rw [hg];exact (y7f (by repeat (first|(with_reducible first|exact HB.out|apply z4f|apply z5f|apply z6f)|exact HB.out))) : w.heap.size ≤ gb187));clear HB;have HB := n0_;have BK187 := n1_;have GW187 := n2_;have GE187 := n3_;clear n0_ n1_ n2_ n3_;clear hb hbox hg;have hcz10_0 : w9.cell? ⟨gb187, 0, none⟩ = some (.int .i64 a0_0) := (x3f BK187.out 0).trans rfl;have hcz10_1 : w9.cell? ⟨gb187, 1, none⟩ = some (.int .i64 a0_1) := (x3f BK187.out 1).trans rfl;have hcz10_2 : w9.cell? ⟨gb187, 2, none⟩ = some (.slice A0_2 l0_2.length c0_2) := (x3f BK187.out 2).trans rfl;have hfz10_0 := x2f BK187.out 0;have hfz10_1 := x2f BK187.out 1;have hfz10_2 := x2f BK187.out 2)|((with_reducible refine gate_callee (f := 50) rfl ?_);refine goesL_ (some 7) rfl rfl Try.func50 (by kernel_rfl) rfl #[.int .i64 a0_0, .int .i64 a0_1] rfl (by (try simp only [List.map_toArray, List.map_cons, List.map_nil]);first | done |rfl|(simp only [List.length_drop, List.length_take];rfl)) ?_;(with_reducible refine (impl_sized.calls a0_0 a0_1 true _ A2.out).mono ?_);rintro e w' ⟨rfl, ⟨nd, rfl⟩⟩;refine ⟨_, rfl, ?_⟩))
   go_ret
   exact ⟨by first |rfl|(simp [errW_none, errW_some] <;> rfl)|(simp [*, errW_none, errW_some] <;> rfl), by repeat (first|(with_reducible first|exact HB.out|apply z4f|apply z5f|apply z6f|refine z7f ?_ GE187.out)|exact HB.out)⟩
 ·replace c3 := Bool.eq_false_iff.mpr c3
  subst c3
  have H1 : (some false) = some r := by rw [if_neg (show ¬ (false = true) by decide)] at H;first|exact H|(simp only [if_true] at H ⊢;exact H)
  clear H
  have H := H1
  clear H1
  obtain rfl := Option.some.inj H
  go_enter Try.func42, Try.ntmps42
  go_wp2_with (first|((with_reducible refine gate_dst (N := 1) rfl ?_);(try (refine gate_guard (by rfl) ?_;dsimp only));refine box_event ?hg (N := 1) ?hd (cs := #[.int .i64 a0_0, .int .i64 a0_1, .slice A0_2 l0_2.length c0_2]) (t := 31) ?hr ?_;(case hd => rfl);(case hg => rfl);(case hr => first|(go_simp;done)|(go_simp;rfl));intro gb187 hg w11 hbox hb;have n0_ := z0f (y6f (by repeat (first|(with_reducible first|exact HB.out|apply z4f|apply z5f|apply z6f)|exact HB.out)) hb);have n1_ := z0f (hbox);have n2_ := z0f ((by rw [hg];exact (y7f (by repeat (first|(with_reducible first|exact HB.out|apply z4f|apply z5f|apply z6f)|exact HB.out))) : w.heap.size ≤ gb187));have n3_ := z0f ((by rw [hg];exact (y7f (by repeat (first|(with_reducible first|exact HB.out|apply z4f|apply z5f|apply z6f)|exact HB.out))) : w.heap.size ≤ gb187));clear HB;have HB := n0_;have BK187 := n1_;have GW187 := n2_;have GE187 := n3_;clear n0_ n1_ n2_ n3_;clear hb hbox hg;have hcz12_0 : w11.cell? ⟨gb187, 0, none⟩ = some (.int .i64 a0_0) := (x3f BK187.out 0).trans rfl;have hcz12_1 : w11.cell? ⟨gb187, 1, none⟩ = some (.int .i64 a0_1) := (x3f BK187.out 1).trans rfl;have hcz12_2 : w11.cell? ⟨gb187, 2, none⟩ = some (.slice A0_2 l0_2.length c0_2) := (x3f BK187.out 2).trans rfl;have hfz12_0 := x2f BK187.out 0;have hfz12_1 := x2f BK187.out 1;have hfz12_2 := x2f BK187.out 2)|((with_reducible refine gate_callee (f := 50) rfl ?_);refine goesL_ (some 7) rfl rfl Try.func50 (by kernel_rfl) rfl #[.int .i64 a0_0, .int .i64 a0_1] rfl (by (try simp only [List.map_toArray, List.map_cons, List.map_nil]);first | done |rfl|(simp only [List.length_drop, List.length_take];rfl)) ?_;(with_reducible refine (impl_sized.calls a0_0 a0_1 false _ A2.out).mono ?_);rintro e w' ⟨rfl, ⟨nd, rfl⟩⟩;refine ⟨_, rfl, ?_⟩))
  go_ret
  exact ⟨by first |rfl|(simp [errW_none, errW_some] <;> rfl)|(simp [*, errW_none, errW_some] <;> rfl), by repeat (first|(with_reducible first|exact HB.out|apply z4f|apply z5f|apply z6f|refine z7f ?_ GE187.out)|exact HB.out)⟩

mutual
def impl_drawn.l0 (AT : Int → Int → Option Int) : Nat → Int → Int → Int → Int → Int → List Int → Option (Int × Int × List Int)
 | 0, _, _, _, _, _, _ => none
 | k + 1, x0, x13, x14, x192000, x192001, x192002 => if x14 < x13 then (impl_drawn.l1 AT k x0 x14 x13 x14 x0 0 x192000 x192001 x192002) else (some (x192000, x192001, x192002))
def impl_drawn.l1 (AT : Int → Int → Option Int) : Nat → Int → Int → Int → Int → Int → Int → Int → Int → List Int → Option (Int × Int × List Int)
 | 0, _, _, _, _, _, _, _, _, _ => none
 | k + 1, x0, x8, x13, x14, x17, x18, x192000, x192001, x192002 => if x18 < x17 then ((AT x18 x8).bind fun t192 => (if x192002.length < 17592186044416 then (impl_drawn.l1 AT k x0 x8 x13 x14 x17 (wrap64 (x18 + 1)) x192000 x192001 (x192002 ++ [t192])) else (none))) else (impl_drawn.l0 AT k x0 x13 (wrap64 (x14 + 1)) x192000 x192001 x192002)
end
def impl_drawn.f (AT : Int → Int → Option Int) (k : Nat) (a0 : Int) (a1 : Int)  : Option (Int × Int × List Int) := impl_drawn.l0 AT k a0 a1 0 a0 a1 ([] : List Int)
def impl_drawn.T8 : Bool × List (List Nat × List Nat) := (true, [([], []), ([0], [0]), ([], []), ([], []), ([], []), ([2, 3, 4], [2, 3, 4]), ([5], [5]), ([1, 6, 5], [1, 6]), ([0, 1, 2, 3, 4, 5, 6, 7], []), ([8, 7, 7, 0, 1, 2, 3, 4, 5, 6, 7], [7, 8])])
def impl_drawn.B8 : List Nat := [0, 1, 0, 0, 0, 28, 60, 127, 255, 511]
theorem impl_drawn.tab8 : rtab .any (opsOf Try.f47 8) = impl_drawn.T8 := by kernel_rfl
theorem impl_drawn.bits8 : waitsOk impl_drawn.T8.2 impl_drawn.B8 = true := by kernel_rfl
set_option maxHeartbeats 8000000 in
set_option maxRecDepth 100000 in
theorem impl_drawn.calls (k : Nat) (a0 : Int) (a1 : Int) (AT : Int → Int → Option Int) (gF : Nat) (lbF : Array Value) (r1 : Int) (r2 : Int) (r3 : List Int) (w : World) (eF : ∀ args w, (callFunc gF args).run Try.prog w = .ok (.enter gF args) w) (hAT : ∀ (x y : Int) (r : Int) (W : World), Below w.heap.size w W → AT x y = some r → Calls Try.prog gF (#[.int .i64 x, .int .i64 y] ++ lbF) W fun e w' => e = .returned (.int .i64 r) ∧ Below W.heap.size W w') (h : impl_drawn.f AT k a0 a1  = some (r1, r2, r3)) :
  Calls Try.prog 47 #[.int .i64 a0, .int .i64 a1, .func (.func gF) #[] lbF] w fun e w' => ∃ v2_ : Value, e = .returned (.agg #[.int .i64 r1, .int .i64 r2, v2_]) ∧ Kd.R (Kd.int .i64) 3 w' w.heap.size (fun _ => True) v2_ r3 ∧ Below w.heap.size w w' := by
 have HEF := z0f eF
 have HAT := z0f hAT
 clear eF hAT
 have hu31 := Try.underlying31
 have HB := z0f (Below.refl w.heap.size w)
 have H : (impl_drawn.l0 AT k a0 a1 0 a0 a1 ([] : List Int)) = some (r1, r2, r3) := h
 clear h
 have H' := z0f H
 clear H
 go_enter Try.func47, Try.ntmps47
 go_wp2_with (first|((with_reducible refine gate_dst (N := 6) rfl ?_);refine box_event ?hg (N := 6) ?hd (cs := #[.int .i64 0, .int .i64 0, .slice none 0 0]) (t := 31) ?hr ?_;(case hd => rfl);(case hg => rfl);(case hr => first|(go_simp;done)|(go_simp;rfl));intro gb190 hg w4 hbox hb;have n0_ := z0f (y6f (by repeat (first|(with_reducible first|exact HB.out|apply z4f|apply z5f|apply z6f)|exact HB.out)) hb);have n1_ := z0f (hbox);have n2_ := z0f ((by rw [hg];exact (y7f (by repeat (first|(with_reducible first|exact HB.out|apply z4f|apply z5f|apply z6f)|exact HB.out))) : w.heap.size ≤ gb190));have n3_ := z0f ((by rw [hg];exact (y7f (by repeat (first|(with_reducible first|exact HB.out|apply z4f|apply z5f|apply z6f)|exact HB.out))) : w.heap.size ≤ gb190));clear HB;have HB := n0_;have BK190 := n1_;have GW190 := n2_;have GE190 := n3_;clear n0_ n1_ n2_ n3_;clear hb hbox hg)|((with_reducible refine gate_dst (N := 7) rfl ?_);refine box_event ?hg (N := 7) ?hd (cs := #[.int .i64 0, .int .i64 0, .slice none 0 0]) (t := 31) ?hr ?_;(case hd => rfl);(case hg => rfl);(case hr => first|(go_simp;done)|(go_simp;rfl));intro gb191 hg w5 hbox hb;have n0_ := z0f (blk_below (g := gb190) (o := .cells #[.int .i64 0, .int .i64 0, .slice none 0 0] 31 (0, 0)) (by (with_reducible repeat (first|refine z1f ?_ _|refine z3f ?_|refine z2f ?_ _));exact BK190.out) hb);have n1_ := z0f (y6f (by repeat (first|(with_reducible first|exact HB.out|apply z4f|apply z5f|apply z6f|refine z7f ?_ GE190.out)|exact HB.out)) hb);have n2_ := z0f (hbox);have n3_ := z0f ((by rw [hg];exact (y7f (by repeat (first|(with_reducible first|exact HB.out|apply z4f|apply z5f|apply z6f|refine z7f ?_ GE190.out)|exact HB.out))) : w.heap.size ≤ gb191));have n4_ := z0f ((by rw [hg];exact (y7f (by repeat (first|(with_reducible first|exact HB.out|apply z4f|apply z5f|apply z6f|refine z7f ?_ GE190.out)|exact HB.out))) : w.heap.size ≤ gb191));have n5_ := z0f ((by rw [hg];exact Nat.ne_of_lt (blk_lt (g := gb190) (o := .cells #[.int .i64 0, .int .i64 0, .slice none 0 0] 31 (0, 0)) (by (with_reducible repeat (first|refine z1f ?_ _|refine z3f ?_|refine z2f ?_ _));exact BK190.out)) : gb190 ≠ gb191));have n6_ := z0f ((by rw [hg];exact Nat.ne_of_gt (blk_lt (g := gb190) (o := .cells #[.int .i64 0, .int .i64 0, .slice none 0 0] 31 (0, 0)) (by (with_reducible repeat (first|refine z1f ?_ _|refine z3f ?_|refine z2f ?_ _));exact BK190.out)) : gb191 ≠ gb190));clear BK190;clear HB;have BK190 := n0_;have HB := n1_;have BK191 := n2_;have GW191 := n3_;have GE191 := n4_;have NB190_191 := n5_;have NB191_190 := n6_;clear n0_ n1_ n2_ n3_ n4_ n5_ n6_;clear hb hbox hg;have hnb6 := NB191_190.out;have hnc6 := NB190_191.out;have hcz7_0 : w5.cell? ⟨gb191, 0, none⟩ = some (.int .i64 0) := (x3f BK191.out 0).trans rfl;have hcz7_1 : w5.cell? ⟨gb191, 1, none⟩ = some (.int .i64 0) := (x3f BK191.out 1).trans rfl;have hcz7_2 : w5.cell? ⟨gb191, 2, none⟩ = some (.slice none 0 0) := (x3f BK191.out 2).trans rfl;have hfz7_0 := x2f BK191.out 0;have hfz7_1 := x2f BK191.out 1;have hfz7_2 := x2f BK191.out 2))
 go_loopg [14] k (fun kq v14 w' => ∃ (x14_1 : Int) (x192002_1 : List Int) (u192002 : Value), v14 = .int .i64 x14_1 ∧ Aside0 (impl_drawn.l0 AT kq a0 a1 x14_1 a0 a1 x192002_1 = some (r1, r2, r3)) ∧ Aside0 (kq ≤ k) ∧ Aside0 (Kd.R (Kd.int .i64) 3 w' w.heap.size (fun _ => True) u192002 x192002_1) ∧ Aside0 (w'.heap[gb190]? = some (.cells #[.int .i64 0, .int .i64 0, (.slice none 0 0)] 31 (0, 0))) ∧ Aside0 (w'.heap[gb191]? = some (.cells #[.int .i64 a0, .int .i64 a1, u192002] 31 (0, 0))) ∧ Aside0 (Below w.heap.size w w'))
 case atStart => exact ⟨(0), (([] : List Int)), (.slice none 0 0), (by first |rfl|(simp;done)|(simp [*];done)), H', ⟨Nat.le_refl _⟩, ⟨by first|exact Kd.R_nil _ _ _ _ _|exact Kd.N_nil _ _ _ _ _|exact Kd.V_nil _ _ _ _ _|exact Kd.Q_nil _ _ _ _ _|exact Kd.S_nil _ _ _ _ _⟩, ⟨by (with_reducible repeat (first|refine z1f ?_ _|refine z3f ?_|refine z2f ?_ _));refine blk_far ?_ NB190_191.out _;(with_reducible repeat (first|refine z1f ?_ _|refine z3f ?_|refine z2f ?_ _));refine blk_far ?_ NB190_191.out _;(with_reducible repeat (first|refine z1f ?_ _|refine z3f ?_|refine z2f ?_ _));refine blk_far ?_ NB190_191.out _;(with_reducible repeat (first|refine z1f ?_ _|refine z3f ?_|refine z2f ?_ _));exact BK190.out⟩, ⟨by (with_reducible repeat (first|refine z1f ?_ _|refine z3f ?_|refine z2f ?_ _));refine blk_put (cs := #[.int .i64 a0, .int .i64 a1, .slice none 0 0]) ?_ 2 _ rfl;(with_reducible repeat (first|refine z1f ?_ _|refine z3f ?_|refine z2f ?_ _));refine blk_put (cs := #[.int .i64 a0, .int .i64 0, .slice none 0 0]) ?_ 1 _ rfl;(with_reducible repeat (first|refine z1f ?_ _|refine z3f ?_|refine z2f ?_ _));refine blk_put (cs := #[.int .i64 0, .int .i64 0, .slice none 0 0]) ?_ 0 _ rfl;(with_reducible repeat (first|refine z1f ?_ _|refine z3f ?_|refine z2f ?_ _));exact BK191.out⟩, ⟨by repeat (first|(with_reducible first|exact HB.out|apply z4f|apply z5f|apply z6f|refine z7f ?_ GE190.out|refine z7f ?_ GE191.out)|exact HB.out)⟩⟩
 case round =>
  clear H'
  (try clear p2);(try clear c4);(try clear c6);(try clear hcz7_0);(try clear hcz7_1);(try clear hcz7_2);(try clear hfz7_0);(try clear hfz7_1);(try clear hfz7_2)
  obtain ⟨x14_1, x192002_1, u192002, rfl, HA, HK1, Ha_, BK190, BK191, HB⟩ := hrel
  cases gk with
  | zero => exact absurd HA.out (by simp [impl_drawn.l0])
  | succ k1 =>
   have H := HA.out
   clear HA
   simp only [impl_drawn.l0] at H
   by_cases c8 : x14_1 < a1
   ·rw [if_pos c8] at H
    have c8b0 : decide (x14_1 < a1) = true := decide_eq_true c8
    clear c8
    have H' := z0f H
    clear H
    go_wp2
    go_loopg [18] k1 (fun kq v18 w' => ∃ (x18_2 : Int) (x192002_2 : List Int) (u192002 : Value), v18 = .int .i64 x18_2 ∧ Aside0 (impl_drawn.l1 AT kq a0 x14_1 a1 x14_1 a0 x18_2 a0 a1 x192002_2 = some (r1, r2, r3)) ∧ Aside0 (kq ≤ k1) ∧ Aside0 (Kd.R (Kd.int .i64) 3 w' w.heap.size (fun _ => True) u192002 x192002_2) ∧ Aside0 (w'.heap[gb190]? = some (.cells #[.int .i64 0, .int .i64 0, (.slice none 0 0)] 31 (0, 0))) ∧ Aside0 (w'.heap[gb191]? = some (.cells #[.int .i64 a0, .int .i64 a1, u192002] 31 (0, 0))) ∧ Aside0 (Below w.heap.size w w'))
    case atStart => exact ⟨(0), (x192002_1), (u192002), (by first |rfl|(simp;done)|(simp [*];done)), H', ⟨Nat.le_refl _⟩, ⟨by (with_reducible repeat (first|apply z8f|apply z9f|apply y1f));exact Ha_.out⟩, ⟨by (with_reducible repeat (first|refine z1f ?_ _|refine z3f ?_|refine z2f ?_ _));exact BK190.out⟩, ⟨by (with_reducible repeat (first|refine z1f ?_ _|refine z3f ?_|refine z2f ?_ _));exact BK191.out⟩, ⟨by repeat (first|(with_reducible first|exact HB.out|apply z4f|apply z5f|apply z6f|refine z7f ?_ GE190.out|refine z7f ?_ GE191.out)|exact HB.out)⟩⟩
    case round =>
     clear H'
     (try clear p2);(try clear c4);(try clear c6);(try clear c8);(try clear c8b0);(try clear hcz7_0);(try clear hcz7_1);(try clear hcz7_2);(try clear hfz7_0);(try clear hfz7_1);(try clear hfz7_2);(try clear p2)
     obtain ⟨x18_2, x192002_2, u192002, rfl, HA, HK2, Ha_, BK190, BK191, HB⟩ := hrel
     cases gk with
     | zero => exact absurd HA.out (by simp [impl_drawn.l1])
     | succ k2 =>
      have H := HA.out
      clear HA
      simp only [impl_drawn.l1] at H
      by_cases c9 : x18_2 < a0
      ·rw [if_pos c9] at H
       have c9b0 : decide (x18_2 < a0) = true := decide_eq_true c9
       clear c9
       replace H := Option.bind_eq_some_iff.mp H
       obtain ⟨t192, A100, H⟩ := H
       replace H : (if x192002_2.length < 17592186044416 then (impl_drawn.l1 AT k2 a0 x14_1 a1 x14_1 a0 (wrap64 (x18_2 + 1)) a0 a1 (x192002_2 ++ [t192])) else (none)) = some (r1, r2, r3) := H
       have A10 := z0f A100
       clear A100
       by_cases c11 : x192002_2.length < 17592186044416
       ·rw [if_pos c11] at H
        have LMc11 := z0f c11
        clear c11
        obtain ⟨y193, hy193⟩ : ∃ y_ : List Int, y_ = (x192002_2 ++ [t192]) := ⟨_, rfl⟩
        replace H : (impl_drawn.l1 AT k2 a0 x14_1 a1 x14_1 a0 (wrap64 (x18_2 + 1)) a0 a1 y193) = some (r1, r2, r3) := by first|(rw [hy193];with_reducible exact H)|(have H2_ := (Option.bind_some _ _).symm.trans H;rw [hy193];with_reducible exact H2_)|(have H2_ := (Option.bind_some _ _).symm.trans H;with_reducible exact H2_) | with_reducible exact H|(rw [hy193];exact H)|exact H
        have Ny193 := z0f hy193
        clear hy193
        have H' := z0f H
        clear H
        try go_wp2
        have n0_ := z0f (y1f Ha_.out)
        have n1_ := z0f (z3f BK190.out)
        have n2_ := z0f (z3f BK191.out)
        have n3_ := z0f (z6f HB.out)
        clear Ha_
        clear BK190
        clear BK191
        clear HB
        have Ha_ := n0_
        have BK190 := n1_
        have BK191 := n2_
        have HB := n3_
        clear n0_ n1_ n2_ n3_
        refine start_ (n := 10) (S := fun w' => w'.cell? ⟨gb191, 0, none⟩ = some (.int .i64 a0) ∧ w'.cell? ⟨gb191, 1, none⟩ = some (.int .i64 a1) ∧ w'.cell? ⟨gb191, 2, none⟩ = some (u192002)) (ds := [9]) (bsf_ 10 0) (by kernel_rfl) rfl rfl ⟨(x3f BK191.out 0).trans rfl, (x3f BK191.out 1).trans rfl, (x3f BK191.out 2).trans rfl⟩ (fun hHeld => ?_);refine with_tabW impl_drawn.tab8 impl_drawn.bits8 (fun HT_ HW_ => ?_)
        generalize wr.drew = w12 at Ha_ BK190 BK191 HB hHeld ⊢
        refine pure_ (i := 0) (N := some 21) (v := ?_) (a' := ?_) (bsf_ 10 1) rfl rfl (any_of HT_.out (by kernel_rfl)) (fun _ _ _ h => h) (Or.inl ⟨by rfl, ?_⟩) ?_ ?_
        rotate_left
        ·intro w'
         go_simp
         with_reducible rfl
        rotate_left
        ·simp only [Act.put, s1f_, s2f_, s3f_, i64_w, i32_w]
         rfl
        refine pure_ (i := 2) (N := some 23) (v := ?_) (a' := ?_) (bsf_ 10 5) rfl rfl (any_of HT_.out (by kernel_rfl)) (fun _ _ _ h => h) (Or.inl ⟨by rfl, ?_⟩) ?_ ?_
        rotate_left
        ·intro w'
         go_simp
         with_reducible rfl
        rotate_left
        ·simp only [Act.put, s1f_, s2f_, s3f_, i64_w, i32_w]
         rfl
        refine pure_ (i := 3) (N := some 24) (v := ?_) (a' := ?_) (bsf_ 10 13) rfl rfl (any_of HT_.out (by kernel_rfl)) (fun _ _ _ h => h) (Or.inl ⟨by rfl, ?_⟩) ?_ ?_
        rotate_left
        ·intro w'
         go_simp
         with_reducible rfl
        rotate_left
        ·simp only [Act.put, s1f_, s2f_, s3f_, i64_w, i32_w]
         rfl
        refine pure_ (i := 4) (N := some 25) (v := ?_) (a' := ?_) (bsf_ 10 29) rfl rfl (any_of HT_.out (by kernel_rfl)) (fun _ _ _ h => h) (Or.inl ⟨by rfl, ?_⟩) ?_ ?_
        rotate_left
        ·intro w'
         go_simp
         with_reducible rfl
        rotate_left
        ·simp only [Act.put, s1f_, s2f_, s3f_, i64_w, i32_w]
         rfl
        refine take_ (i := 1) (N := some 22) (v := ?_) (a' := ?_) (bsf_ 10 31) rfl rfl (take_ofW HT_.out HW_.out (by kernel_rfl)) (fun _ _ _ h => h) (Or.inl ⟨by rfl, ?_⟩) hHeld ?_ ?_
        rotate_left
        ·rintro w' ⟨s0, s1, s2⟩
         go_simp
         with_reducible rfl
        rotate_left
        ·simp only [Act.put, s1f_, s2f_, s3f_, i64_w, i32_w]
         rfl
        refine one_ (i := 5) (N := some 26) (bsf_ 10 63) rfl rfl (one_of HT_.out (by kernel_rfl)) (by decide) (fun K hK => ?_)
        refine Ext.goesV_ HEF.out #[.int .i64 x18_2, .int .i64 x14_1] (by rfl) rfl rfl rfl (by (try simp only [List.map_toArray, List.map_cons, List.map_nil]);first | done |rfl|(simp only [List.length_drop, List.length_take];rfl)) ?_
        with_reducible refine (HAT.out x18_2 x14_1 t192 _ (by repeat (first|(with_reducible first|exact HB.out|apply z4f|apply z5f|apply z6f)|exact HB.out)) A10.out).mono ?_
        rintro e w13 ⟨rfl, hb⟩
        refine ⟨_, rfl, ?_⟩
        have n0_ := z0f (Kd.R_below (by (with_reducible repeat (first|apply z8f|apply z9f|apply y1f));exact Ha_.out) hb)
        have n1_ := z0f (blk_below (g := gb190) (o := .cells #[.int .i64 0, .int .i64 0, .slice none 0 0] 31 (0, 0)) (by (with_reducible repeat (first|refine z1f ?_ _|refine z3f ?_|refine z2f ?_ _));exact BK190.out) hb)
        have n2_ := z0f (blk_below (g := gb191) (o := .cells #[.int .i64 a0, .int .i64 a1, u192002] 31 (0, 0)) (by (with_reducible repeat (first|refine z1f ?_ _|refine z3f ?_|refine z2f ?_ _));exact BK191.out) hb)
        have n3_ := z0f (y6f (by repeat (first|(with_reducible first|exact HB.out|apply z4f|apply z5f|apply z6f|refine z7f ?_ GE190.out|refine z7f ?_ GE191.out)|exact HB.out)) hb)
        clear Ha_
        clear BK190
        clear BK191
        clear HB
        have Ha_ := n0_
        have BK190 := n1_
        have BK191 := n2_
        have HB := n3_
        clear n0_ n1_ n2_ n3_
        (try clear hb)
        (try clear hb2)
        (try clear hk)
        (try clear hi)
        refine hK.out _ _ ⟨(x3f BK191.out 0).trans rfl, (x3f BK191.out 1).trans rfl, (x3f BK191.out 2).trans rfl⟩ (fun hHeld => ?_)
        clear hK K
        refine norm_ (a' := ?_) ?_ ?_
        rotate_left
        ·show Act.put _ (some 26) _ = _
         simp only [Act.put, s1f_, s2f_, s3f_, i64_w, i32_w]
         rfl
        refine one_ (i := 6) (N := some 27) (bsf_ 10 127) rfl rfl (one_of HT_.out (by kernel_rfl)) (by decide) (fun K hK => ?_)
        refine value_ (w1 := ?_) (v := ?_) (by rfl) rfl ?_ ?_
        rotate_left 2
        ·go_simp
         constructor
         ·rfl
         ·rfl
        refine hK.out _ _ ⟨(x3f (z2f BK191.out _) 0).trans rfl, (x3f (z2f BK191.out _) 1).trans rfl, (x3f (z2f BK191.out _) 2).trans rfl⟩ (fun hHeld => ?_)
        clear hK K
        refine norm_ (a' := ?_) ?_ ?_
        rotate_left
        ·show Act.put _ (some 27) _ = _
         simp only [Act.put, s1f_, s2f_, s3f_, i64_w, i32_w]
         rfl
        refine one_ (i := 7) (N := some 28) (bsf_ 10 255) rfl rfl (one_of HT_.out (by kernel_rfl)) (by decide) (fun K hK => ?_)
        refine Kd.R_append_step (Kd.int .i64) (w0 := w) w.heap.size (by rfl) (.tmp 22) (.tmp 27) 29 3 (.int .i64 0) 8 rfl Try.underlying29 info3 rfl (by decide) (by omega) u192002 x192002_2 t192 [.int .i64 t192] (fun _ => True) (fun _ => False) rfl rfl ?aP (fun _ hk => hk.elim) ?aF ?aO ?aB ?aS ?aL ?_
        (case aP => exact rfl)
        (case aB => exact (by repeat (first|(with_reducible first|exact HB.out|apply z4f|apply z5f|apply z6f|refine z7f ?_ GE190.out|refine z7f ?_ GE191.out)|exact HB.out)))
        (case aF => exact (fun _ _ => trivial))
        (case aO => exact (by (with_reducible repeat (first|apply z8f|apply z9f|apply y1f));exact Ha_.out))
        (case aS => exact (y7f (by repeat (first|(with_reducible first|exact HB.out|apply z4f|apply z5f|apply z6f|refine z7f ?_ GE190.out|refine z7f ?_ GE191.out)|exact HB.out))))
        (case aL => have := LMc11.out;omega)
        intro v194 w14 ho hb hg hat
        rw [← Ny193.out] at ho
        have n0_ := z0f (blk_grown (g := gb190) (o := .cells #[.int .i64 0, .int .i64 0, .slice none 0 0] 31 (0, 0)) (by (with_reducible repeat (first|refine z1f ?_ _|refine z3f ?_|refine z2f ?_ _));exact BK190.out) hg (Kd.R_ne Ha_.out BK190.out (by decide)))
        have n1_ := z0f (blk_grown (g := gb191) (o := .cells #[.int .i64 a0, .int .i64 a1, u192002] 31 (0, 0)) (by (with_reducible repeat (first|refine z1f ?_ _|refine z3f ?_|refine z2f ?_ _));exact BK191.out) hg (Kd.R_ne Ha_.out BK191.out (by decide)))
        have n2_ := z0f (hb)
        have n3_ := z0f (ho)
        clear BK190
        clear BK191
        clear HB
        clear Ha_
        have BK190 := n0_
        have BK191 := n1_
        have HB := n2_
        have HO195 := n3_
        clear n0_ n1_ n2_ n3_
        clear ho hb hg hat
        obtain ⟨Ao15, co15, eo15⟩ := Kd.R_slice HO195.out
        (first | subst eo15|(injection eo15 with f1_ f2_ f3_;have f4_ := f1_.symm;have f5_ := f3_.symm;clear f1_ f2_ f3_;subst f4_;subst f5_))
        refine hK.out _ _ ⟨(x3f BK191.out 0).trans rfl, (x3f BK191.out 1).trans rfl, (x3f BK191.out 2).trans rfl⟩ (fun hHeld => ?_)
        clear hK K
        refine norm_ (a' := ?_) ?_ ?_
        rotate_left
        ·show Act.put _ (some 28) _ = _
         simp only [Act.put, s1f_, s2f_, s3f_, i64_w, i32_w]
         rfl
        refine pure_ (i := 8) (N := some 29) (v := ?_) (a' := ?_) (bsf_ 10 511) rfl rfl (any_of HT_.out (by kernel_rfl)) (fun _ _ _ h => h) (Or.inl ⟨by rfl, ?_⟩) ?_ ?_
        rotate_left
        ·intro w'
         go_simp
         with_reducible rfl
        rotate_left
        ·simp only [Act.put, s1f_, s2f_, s3f_, i64_w, i32_w]
         rfl
        refine last_ (i := 9) (N := none) (bsf_ 10 1023) rfl rfl (one_of HT_.out (by kernel_rfl)) (by decide) (fun K hK => ?_)
        have hs16 : w14.cell? ⟨gb191, 2, none⟩ = some (u192002) := (x3f BK191.out 2).trans rfl
        have hfs16 := x2f BK191.out 2
        have hns16_0 := NB190_191.out
        have hms16_0 := NB191_190.out
        refine skip_ (w1 := ?_) (by rfl) rfl ?_ ?_
        rotate_left
        ·go_simp
         rfl
        refine hK.out _ _ ?_
        clear hK K
        refine done_ (done_of HT_.out (by kernel_rfl)) ?_
        try go_wp2
        go_roundg k2
        case measure => have := HK1.out;have := HK2.out;omega
        case rel => exact ⟨(wrap64 (x18_2 + 1)), (y193), (.slice Ao15 y193.length co15), (by first |rfl|(simp;done)|(simp [*];done)), H', ⟨by have := HK1.out;have := HK2.out;omega⟩, ⟨by (with_reducible repeat (first|apply z8f|apply z9f|apply y1f));exact Kd.R_mono (x1f (p := ⟨gb191, 2, none⟩) (Kd.R_types HO195.out BK191.out (by decide)) (fun _ hk => hk.2) (.slice Ao15 y193.length co15)) (fun _ hk => trivial)⟩, ⟨by (with_reducible repeat (first|refine z1f ?_ _|refine z3f ?_|refine z2f ?_ _));refine blk_far ?_ NB190_191.out _;(with_reducible repeat (first|refine z1f ?_ _|refine z3f ?_|refine z2f ?_ _));exact BK190.out⟩, ⟨by (with_reducible repeat (first|refine z1f ?_ _|refine z3f ?_|refine z2f ?_ _));refine blk_put (cs := #[.int .i64 a0, .int .i64 a1, u192002]) ?_ 2 _ rfl;(with_reducible repeat (first|refine z1f ?_ _|refine z3f ?_|refine z2f ?_ _));exact BK191.out⟩, ⟨by repeat (first|(with_reducible first|exact HB.out|apply z4f|apply z5f|apply z6f|refine z7f ?_ GE190.out|refine z7f ?_ GE191.out)|exact HB.out)⟩⟩
       ·rw [if_neg c11] at H
        exact absurd H (by simp)
      ·rw [if_neg c9] at H
       have c9b0 : decide (x18_2 < a0) = false := decide_eq_false c9
       clear c9
       have H' := z0f H
       clear H
       go_wp2
       go_roundg k2
       case measure => have := HK1.out;have := HK2.out;omega
       case rel => exact ⟨(wrap64 (x14_1 + 1)), (x192002_2), (u192002), (by first |rfl|(simp;done)|(simp [*];done)), H', ⟨by have := HK1.out;have := HK2.out;omega⟩, ⟨by (with_reducible repeat (first|apply z8f|apply z9f|apply y1f));exact Ha_.out⟩, ⟨by (with_reducible repeat (first|refine z1f ?_ _|refine z3f ?_|refine z2f ?_ _));exact BK190.out⟩, ⟨by (with_reducible repeat (first|refine z1f ?_ _|refine z3f ?_|refine z2f ?_ _));exact BK191.out⟩, ⟨by repeat (first|(with_reducible first|exact HB.out|apply z4f|apply z5f|apply z6f|refine z7f ?_ GE190.out|refine z7f ?_ GE191.out)|exact HB.out)⟩⟩
   ·rw [if_neg c8] at H
    have c8b0 : decide (x14_1 < a1) = false := decide_eq_false c8
    clear c8
    simp only [Option.some.injEq, Prod.mk.injEq] at H
    obtain ⟨rfl, rfl, rfl⟩ := H
    have hnb17 := NB191_190.out
    have hnc17 := NB190_191.out
    have hcz18_0 : wr.cell? ⟨gb191, 0, none⟩ = some (.int .i64 a0) := (x3f BK191.out 0).trans rfl
    have hcz18_1 : wr.cell? ⟨gb191, 1, none⟩ = some (.int .i64 a1) := (x3f BK191.out 1).trans rfl
    have hcz18_2 : wr.cell? ⟨gb191, 2, none⟩ = some (u192002) := (x3f BK191.out 2).trans rfl
    have hfz18_0 := x2f BK191.out 0
    have hfz18_1 := x2f BK191.out 1
    have hfz18_2 := x2f BK191.out 2
    have hcz19_0 : wr.cell? ⟨gb190, 0, none⟩ = some (.int .i64 0) := (x3f BK190.out 0).trans rfl
    have hcz19_1 : wr.cell? ⟨gb190, 1, none⟩ = some (.int .i64 0) := (x3f BK190.out 1).trans rfl
    have hcz19_2 : wr.cell? ⟨gb190, 2, none⟩ = some (.slice none 0 0) := (x3f BK190.out 2).trans rfl
    have hfz19_0 := x2f BK190.out 0
    have hfz19_1 := x2f BK190.out 1
    have hfz19_2 := x2f BK190.out 2
    obtain ⟨Ao20, co20, eo20⟩ := Kd.R_slice Ha_.out
    subst eo20
    go_wp2
    refine bodyPost_ret (results_cell_row rfl _ _ gb190 31 #[.int .i64 a0, .int .i64 a1, .slice Ao20 x192002_1.length co20] (0, 0) _ rfl (by (with_reducible repeat (first|refine z1f ?_ _|refine z3f ?_|refine z2f ?_ _));refine blk_put (cs := #[.int .i64 a0, .int .i64 a1, .slice none 0 0]) ?_ 2 _ rfl;(with_reducible repeat (first|refine z1f ?_ _|refine z3f ?_|refine z2f ?_ _));refine blk_put (cs := #[.int .i64 a0, .int .i64 0, .slice none 0 0]) ?_ 1 _ rfl;(with_reducible repeat (first|refine z1f ?_ _|refine z3f ?_|refine z2f ?_ _));refine blk_put (cs := #[.int .i64 0, .int .i64 0, .slice none 0 0]) ?_ 0 _ rfl;(with_reducible repeat (first|refine z1f ?_ _|refine z3f ?_|refine z2f ?_ _));exact BK190.out) Try.underlying31 rfl (by kernel_rfl)) rfl ?_
    exact ⟨_, by first |rfl|(simp [errW_none, errW_some] <;> rfl)|(simp [*, errW_none, errW_some] <;> rfl), by (with_reducible repeat (first|apply z8f|apply z9f|apply y1f));exact Kd.R_mono (x1f (p := ⟨gb190, 2, none⟩) (x1f (p := ⟨gb190, 1, none⟩) (x1f (p := ⟨gb190, 0, none⟩) (Kd.R_types Ha_.out BK190.out (by decide)) (fun _ hk => hk.2) (.int .i64 a0)) (fun _ hk => hk.2) (.int .i64 a1)) (fun _ hk => hk.2) (.slice Ao20 x192002_1.length co20)) (fun _ hk => trivial), by repeat (first|(with_reducible first|exact HB.out|apply z4f|apply z5f|apply z6f|refine z7f ?_ GE190.out|refine z7f ?_ GE191.out)|exact HB.out)⟩

theorem impl_drawn.row {AT : Int → Int → Option Int} {g : Int → Int → Int} {W H y : Int} (hW : 1 ≤ W) (hW2 : W ≤ 1024) (hH : H ≤ 1024) (hWH : W * H ≤ 1024) (hy : 0 ≤ y) (hyH : y < H) (hAT : ∀ x, 0 ≤ x → x < W → AT x y = some (g x y)) (d : Nat) : ∀ (k : Nat) (x : Int), 0 ≤ x → x + d = W →
  impl_drawn.l1 AT (k + d + 1) W y H y W x W H (Ext.pref W g (y * W + x).toNat) = impl_drawn.l0 AT k W H (y + 1) W H (Ext.pref W g ((y + 1) * W).toNat) := by
 have hb := Ext.row_bound hW hy hyH
 induction d with
 | zero =>
  intro k x h0 hd
  obtain rfl : x = W := by omega
  rw [impl_drawn.l1, if_neg (by omega), Ext.wrap_in (by omega) (by omega), Int.add_mul, Int.one_mul]
 | succ d ih =>
  intro k x h0 hd
  rw [show k + (d + 1) + 1 = (k + d + 1) + 1 by omega, impl_drawn.l1, if_pos (by omega), hAT x h0 (by omega), Option.bind_some, if_pos (by rw [Ext.pref_length];omega), Ext.wrap_in (by omega) (by omega), ← Ext.pref_step g hy h0 (by omega)]
  exact ih k (x + 1) (by omega) (by omega)
theorem impl_drawn.rows {AT : Int → Int → Option Int} {g : Int → Int → Int} {W H : Int} (hW : 1 ≤ W) (hW2 : W ≤ 1024) (hH : H ≤ 1024) (hWH : W * H ≤ 1024) (hAT : ∀ x y, 0 ≤ x → x < W → 0 ≤ y → y < H → AT x y = some (g x y)) (d : Nat) : ∀ (k : Nat) (y : Int), 0 ≤ y → y + d = H → d * (W.toNat + 2) < k →
  impl_drawn.l0 AT k W H y W H (Ext.pref W g (y * W).toNat) = some (W, H, Ext.grid W H g) := by
 induction d with
 | zero =>
  intro k y h0 hd hk
  obtain ⟨k, rfl⟩ : ∃ m, k = m + 1 := ⟨k - 1, by omega⟩
  obtain rfl : y = H := by omega
  rw [impl_drawn.l0, if_neg (by omega)]
  unfold Ext.grid;rw [Int.mul_comm y W]
 | succ d ih =>
  intro k y h0 hd hk
  rw [Nat.add_mul] at hk
  obtain ⟨k, rfl⟩ : ∃ m, k = (m + W.toNat + 1) + 1 := ⟨k - (W.toNat + 2), by omega⟩
  rw [impl_drawn.l0, if_pos (by omega)]
  have := impl_drawn.row hW hW2 hH hWH h0 (show y < H by omega) (fun x h1 h2 => hAT x y h1 h2 h0 (by omega)) W.toNat k 0 (by omega) (by omega)
  rw [Int.add_zero] at this
  rw [this]
  exact ih k (y + 1) (by omega) (by omega) (by omega)
theorem impl_drawn.tells {AT : Int → Int → Option Int} {g : Int → Int → Int} {W H : Int} (hW : 1 ≤ W) (hW2 : W ≤ 1024) (hH0 : 0 ≤ H) (hH : H ≤ 1024) (hWH : W * H ≤ 1024) (hAT : ∀ x y, 0 ≤ x → x < W → 0 ≤ y → y < H → AT x y = some (g x y)) :
  impl_drawn.f AT 4000 W H = some (W, H, Ext.grid W H g) := by
 unfold impl_drawn.f
 have h2 : H.toNat * (W.toNat + 2) < 4000 := by
  have : ((H.toNat * W.toNat : Nat) : Int) = W * H := by
   rw [Int.natCast_mul, show ((H.toNat : Nat) : Int) = H by omega, show ((W.toNat : Nat) : Int) = W by omega, Int.mul_comm]
  rw [Nat.mul_add];omega
 have := impl_drawn.rows hW hW2 hH hWH hAT H.toNat 4000 0 (by omega) (by omega) h2
 rw [Int.zero_mul] at this
 exact this

def slices_Clone_int_int.f (l0 : List Int) : Option (List Int) := if l0.length < 17592186044416 then some l0 else none
theorem slices_Clone_int_int.calls (A0 : Option Addr) (c0 : Nat) (l0 : List Int) (r : List Int) (w : World) (hr0 : Kd.C (Kd.int .i64) w A0 l0.length l0) (hc0 : l0.length ≤ c0) (h : slices_Clone_int_int.f l0 = some r) :
  Calls Try.prog 72 #[.slice A0 l0.length c0] w fun e w' => ∃ v0_ : Value, e = .returned (v0_) ∧ Kd.R (Kd.int .i64) 3 w' w.heap.size (fun _ => True) v0_ r ∧ Below w.heap.size w w' := by
 unfold slices_Clone_int_int.f at h
 split at h
 ·rename_i hl
  obtain rfl := Option.some.inj h
  exact Ext.Clone A0 c0 l0 w hr0 hl
 ·exact absurd h (by simp)

def impl_copied.f (a0_0 : Int) (a0_1 : Int) (l0_2 : List Int) : Option (Int × Int × List Int) := (slices_Clone_int_int.f l0_2).bind fun t198 => (some (a0_0, a0_1, t198))
set_option maxHeartbeats 8000000 in
set_option maxRecDepth 100000 in
theorem impl_copied.calls (a0_0 : Int) (a0_1 : Int) (A0_2 : Option Addr) (c0_2 : Nat) (l0_2 : List Int) (r1 : Int) (r2 : Int) (r3 : List Int) (w : World) (hr0_2 : Kd.C (Kd.int .i64) w A0_2 l0_2.length l0_2) (hc0_2 : l0_2.length ≤ c0_2) (h : impl_copied.f a0_0 a0_1 l0_2 = some (r1, r2, r3)) :
  Calls Try.prog 62 #[.agg #[.int .i64 a0_0, .int .i64 a0_1, .slice A0_2 l0_2.length c0_2]] w fun e w' => ∃ v2_ : Value, e = .returned (.agg #[.int .i64 r1, .int .i64 r2, v2_]) ∧ Kd.R (Kd.int .i64) 3 w' w.heap.size (fun _ => True) v2_ r3 ∧ Below w.heap.size w w' := by
 have hu31 := Try.underlying31
 have HR0_2 := z0f hr0_2
 have HC0_2 := z0f hc0_2
 clear hr0_2 hc0_2
 have HB := z0f (Below.refl w.heap.size w)
 have H : ((slices_Clone_int_int.f l0_2).bind fun t198 => (some (a0_0, a0_1, t198))) = some (r1, r2, r3) := h
 clear h
 replace H := Option.bind_eq_some_iff.mp H
 obtain ⟨t198, A20, H⟩ := H
 replace H : (some (a0_0, a0_1, t198)) = some (r1, r2, r3) := H
 have A2 := z0f A20
 clear A20
 simp only [Option.some.injEq, Prod.mk.injEq] at H
 obtain ⟨rfl, rfl, rfl⟩ := H
 go_enter Try.func62, Try.ntmps62
 go_wp2_with (first|((with_reducible refine gate_dst (N := 1) rfl ?_);refine box_event ?hg (N := 1) ?hd (cs := #[.int .i64 a0_0, .int .i64 a0_1, .slice A0_2 l0_2.length c0_2]) (t := 31) ?hr ?_;(case hd => rfl);(case hg => rfl);(case hr => first|(go_simp;done)|(go_simp;rfl));intro gb196 hg w3 hbox hb;have n0_ := z0f (y6f (by repeat (first|(with_reducible first|exact HB.out|apply z4f|apply z5f|apply z6f)|exact HB.out)) hb);have n1_ := z0f (hbox);have n2_ := z0f ((by rw [hg];exact (y7f (by repeat (first|(with_reducible first|exact HB.out|apply z4f|apply z5f|apply z6f)|exact HB.out))) : w.heap.size ≤ gb196));have n3_ := z0f ((by rw [hg];exact (y7f (by repeat (first|(with_reducible first|exact HB.out|apply z4f|apply z5f|apply z6f)|exact HB.out))) : w.heap.size ≤ gb196));clear HB;have HB := n0_;have BK196 := n1_;have GW196 := n2_;have GE196 := n3_;clear n0_ n1_ n2_ n3_;clear hb hbox hg)|((with_reducible refine gate_dst (N := 2) rfl ?_);refine box_event ?hg (N := 2) ?hd (cs := #[.int .i64 0, .int .i64 0, .slice none 0 0]) (t := 31) ?hr ?_;(case hd => rfl);(case hg => rfl);(case hr => first|(go_simp;done)|(go_simp;rfl));intro gb197 hg w4 hbox hb;have n0_ := z0f (blk_below (g := gb196) (o := .cells #[.int .i64 a0_0, .int .i64 a0_1, .slice A0_2 l0_2.length c0_2] 31 (0, 0)) (by (with_reducible repeat (first|refine z1f ?_ _|refine z3f ?_|refine z2f ?_ _));exact BK196.out) hb);have n1_ := z0f (y6f (by repeat (first|(with_reducible first|exact HB.out|apply z4f|apply z5f|apply z6f|refine z7f ?_ GE196.out)|exact HB.out)) hb);have n2_ := z0f (hbox);have n3_ := z0f ((by rw [hg];exact (y7f (by repeat (first|(with_reducible first|exact HB.out|apply z4f|apply z5f|apply z6f|refine z7f ?_ GE196.out)|exact HB.out))) : w.heap.size ≤ gb197));have n4_ := z0f ((by rw [hg];exact (y7f (by repeat (first|(with_reducible first|exact HB.out|apply z4f|apply z5f|apply z6f|refine z7f ?_ GE196.out)|exact HB.out))) : w.heap.size ≤ gb197));have n5_ := z0f ((by rw [hg];exact Nat.ne_of_lt (blk_lt (g := gb196) (o := .cells #[.int .i64 a0_0, .int .i64 a0_1, .slice A0_2 l0_2.length c0_2] 31 (0, 0)) (by (with_reducible repeat (first|refine z1f ?_ _|refine z3f ?_|refine z2f ?_ _));exact BK196.out)) : gb196 ≠ gb197));have n6_ := z0f ((by rw [hg];exact Nat.ne_of_gt (blk_lt (g := gb196) (o := .cells #[.int .i64 a0_0, .int .i64 a0_1, .slice A0_2 l0_2.length c0_2] 31 (0, 0)) (by (with_reducible repeat (first|refine z1f ?_ _|refine z3f ?_|refine z2f ?_ _));exact BK196.out)) : gb197 ≠ gb196));clear BK196;clear HB;have BK196 := n0_;have HB := n1_;have BK197 := n2_;have GW197 := n3_;have GE197 := n4_;have NB196_197 := n5_;have NB197_196 := n6_;clear n0_ n1_ n2_ n3_ n4_ n5_ n6_;clear hb hbox hg;have hnb5 := NB196_197.out;have hnc5 := NB197_196.out;have hcz6_0 : w4.cell? ⟨gb196, 0, none⟩ = some (.int .i64 a0_0) := (x3f BK196.out 0).trans rfl;have hcz6_1 : w4.cell? ⟨gb196, 1, none⟩ = some (.int .i64 a0_1) := (x3f BK196.out 1).trans rfl;have hcz6_2 : w4.cell? ⟨gb196, 2, none⟩ = some (.slice A0_2 l0_2.length c0_2) := (x3f BK196.out 2).trans rfl;have hfz6_0 := x2f BK196.out 0;have hfz6_1 := x2f BK196.out 1;have hfz6_2 := x2f BK196.out 2)|((with_reducible refine gate_callee (f := 72) rfl ?_);refine goesL_ (some 5) rfl rfl Try.func72 (by kernel_rfl) rfl #[.slice A0_2 l0_2.length c0_2] rfl (by (try simp only [List.map_toArray, List.map_cons, List.map_nil]);first | done |rfl|(simp only [List.length_drop, List.length_take];rfl)) ?_;(with_reducible refine (slices_Clone_int_int.calls _ _ l0_2 t198 _ ?side1 ?side2 A2.out).mono ?_);(case side1 => repeat (first|exact HR0_2.out|exact (Kd.C_below HR0_2.out HB.out)|(with_reducible refine Kd.C_alloc ?_ _)|(with_reducible refine Kd.C_drewN ?_ _)|(with_reducible refine Kd.C_drew ?_)));(case side2 => exact HC0_2.out);rintro e w7 ⟨v199, rfl, ho0, hb⟩;refine ⟨_, rfl, ?_⟩;have n0_ := z0f (Kd.R_lower ho0 (y7f (by repeat (first|(with_reducible first|exact HB.out|apply z4f|apply z5f|apply z6f|refine z7f ?_ GE196.out|refine z7f ?_ GE197.out)|exact HB.out))));have n1_ := z0f (blk_below (g := gb196) (o := .cells #[.int .i64 a0_0, .int .i64 a0_1, .slice A0_2 l0_2.length c0_2] 31 (0, 0)) (by (with_reducible repeat (first|refine z1f ?_ _|refine z3f ?_|refine z2f ?_ _));exact BK196.out) hb);have n2_ := z0f (blk_below (g := gb197) (o := .cells #[.int .i64 0, .int .i64 0, .slice none 0 0] 31 (0, 0)) (by (with_reducible repeat (first|refine z1f ?_ _|refine z3f ?_|refine z2f ?_ _));exact BK197.out) hb);have n3_ := z0f (y6f (by repeat (first|(with_reducible first|exact HB.out|apply z4f|apply z5f|apply z6f|refine z7f ?_ GE196.out|refine z7f ?_ GE197.out)|exact HB.out)) hb);clear BK196;clear BK197;clear HB;have HO200 := n0_;have BK196 := n1_;have BK197 := n2_;have HB := n3_;clear n0_ n1_ n2_ n3_;(try clear hb);(try clear hk);(try clear ho0);obtain ⟨Ao8, co8, eo8⟩ := Kd.R_slice HO200.out;subst eo8;have hcz9_0 : w7.cell? ⟨gb196, 0, none⟩ = some (.int .i64 a0_0) := (x3f BK196.out 0).trans rfl;have hcz9_1 : w7.cell? ⟨gb196, 1, none⟩ = some (.int .i64 a0_1) := (x3f BK196.out 1).trans rfl;have hcz9_2 : w7.cell? ⟨gb196, 2, none⟩ = some (.slice A0_2 l0_2.length c0_2) := (x3f BK196.out 2).trans rfl;have hfz9_0 := x2f BK196.out 0;have hfz9_1 := x2f BK196.out 1;have hfz9_2 := x2f BK196.out 2;have hcz10_0 : w7.cell? ⟨gb197, 0, none⟩ = some (.int .i64 0) := (x3f BK197.out 0).trans rfl;have hcz10_1 : w7.cell? ⟨gb197, 1, none⟩ = some (.int .i64 0) := (x3f BK197.out 1).trans rfl;have hcz10_2 : w7.cell? ⟨gb197, 2, none⟩ = some (.slice none 0 0) := (x3f BK197.out 2).trans rfl;have hfz10_0 := x2f BK197.out 0;have hfz10_1 := x2f BK197.out 1;have hfz10_2 := x2f BK197.out 2))
 refine bodyPost_ret (results_cell_row rfl _ _ gb197 31 #[.int .i64 a0_0, .int .i64 a0_1, .slice Ao8 t198.length co8] (0, 0) _ rfl (by (with_reducible repeat (first|refine z1f ?_ _|refine z3f ?_|refine z2f ?_ _));refine blk_put (cs := #[.int .i64 a0_0, .int .i64 a0_1, .slice none 0 0]) ?_ 2 _ rfl;(with_reducible repeat (first|refine z1f ?_ _|refine z3f ?_|refine z2f ?_ _));refine blk_put (cs := #[.int .i64 a0_0, .int .i64 0, .slice none 0 0]) ?_ 1 _ rfl;(with_reducible repeat (first|refine z1f ?_ _|refine z3f ?_|refine z2f ?_ _));refine blk_put (cs := #[.int .i64 0, .int .i64 0, .slice none 0 0]) ?_ 0 _ rfl;(with_reducible repeat (first|refine z1f ?_ _|refine z3f ?_|refine z2f ?_ _));refine blk_far ?_ NB197_196.out _;(with_reducible repeat (first|refine z1f ?_ _|refine z3f ?_|refine z2f ?_ _));exact BK197.out) Try.underlying31 rfl (by kernel_rfl)) rfl ?_
 exact ⟨_, by first |rfl|(simp [errW_none, errW_some] <;> rfl)|(simp [*, errW_none, errW_some] <;> rfl), by (with_reducible repeat (first|apply z8f|apply z9f|apply y1f));exact Kd.R_mono (x1f (p := ⟨gb197, 2, none⟩) (x1f (p := ⟨gb197, 1, none⟩) (x1f (p := ⟨gb197, 0, none⟩) (x1f (p := ⟨gb196, 2, none⟩) (Kd.R_types (Kd.R_types HO200.out BK196.out (by decide)) BK197.out (by decide)) (fun _ hk => hk.1.2) (.slice Ao8 t198.length co8)) (fun _ hk => hk.2) (.int .i64 a0_0)) (fun _ hk => hk.2) (.int .i64 a0_1)) (fun _ hk => hk.2) (.slice Ao8 t198.length co8)) (fun _ hk => trivial), by repeat (first|(with_reducible first|exact HB.out|apply z4f|apply z5f|apply z6f|refine z7f ?_ GE196.out|refine z7f ?_ GE197.out)|exact HB.out)⟩

def impl_diffused_1.f (a0 : Int) (a1 : Int) : Option (Int) := some 0
set_option maxHeartbeats 8000000 in
set_option maxRecDepth 100000 in
theorem impl_diffused_1.calls  (a0 : Int) (a1 : Int) (r : Int) (w : World)  (h : impl_diffused_1.f a0 a1 = some r) :
  Calls Try.prog 63 #[.int .i64 a0, .int .i64 a1] w fun e w' => e = .returned (.int .i64 r) ∧ Drawn0 w w' := by
 have H : (some 0) = some r := h
 clear h
 obtain rfl := Option.some.inj H
 go_enter Try.func63, Try.ntmps63
 go_wp2
 go_ret
 exact ⟨by first |rfl|(simp;done)|(simp [*];done), by repeat (first|exact Drawn0.refl _|apply Drawn0.step)⟩

def impl_diffused_1.drawn.f (w_ h_ : Int) : Option (Int × Int × List Int) := if 1 ≤ w_ ∧ w_ ≤ 1024 ∧ 0 ≤ h_ ∧ h_ ≤ 1024 ∧ w_ * h_ ≤ 1024 then (Ext.gridO w_ h_ fun x y => impl_diffused_1.f x y).map fun l => (w_, h_, l) else none
theorem impl_diffused_1.drawn.calls (w_ h_ : Int) (r1 r2 : Int) (r3 : List Int) (w : World) (h : impl_diffused_1.drawn.f w_ h_ = some (r1, r2, r3)) :
  Calls Try.prog 47 #[.int .i64 w_, .int .i64 h_, .func (.func 63) #[] #[]] w fun e w' => ∃ v2_ : Value, e = .returned (.agg #[.int .i64 r1, .int .i64 r2, v2_]) ∧ Kd.R (Kd.int .i64) 3 w' w.heap.size (fun _ => True) v2_ r3 ∧ Below w.heap.size w w' := by
 unfold impl_diffused_1.drawn.f at h
 split at h
 ·rename_i hc_
  obtain ⟨l_, hl_, he_⟩ := Option.map_eq_some_iff.mp h
  obtain ⟨hat_, hg_⟩ := Ext.gridO_some hl_
  injection he_ with e1_ e2_;injection e2_ with e2_ e3_;subst e1_ e2_ e3_
  have ht_ := impl_drawn.tells (AT := fun x y => impl_diffused_1.f x y) hc_.1 hc_.2.1 hc_.2.2.1 hc_.2.2.2.1 hc_.2.2.2.2 hat_
  rw [hg_] at ht_
  exact impl_drawn.calls 4000 w_ h_ _ 63 #[] _ _ _ w (enters_ Try.func63 (by kernel_rfl) rfl) (fun x y r W hW hr => Ext.calls_app (by simp) ((impl_diffused_1.calls x y r W hr).mono fun e w' he => ⟨he.1, he.2.below⟩)) ht_
 ·exact absurd h (by simp)

abbrev impl_diffused_1.V.f := @impl_diffused_1.f
set_option linter.defProp false in
def impl_diffused_1.V.calls := @impl_diffused_1.calls

def impl_weight.l0 : Nat → Int → List (S60) → Int → Int → Option (Int)
 | 0, _, _, _, _ => none
 | k + 1, x3, x6, x7, x8 => if x8 < x7 then (if 0 ≤ x8 then (if x8 < (x6.length : Int) then (impl_weight.l0 k (wrap64 (x3 + ((rd_T60 x6 x8).f2))) x6 x7 (wrap64 (x8 + 1))) else (none)) else (none)) else (some x3)
def impl_weight.f (k : Nat) (l0 : List (S60)) : Option (Int) := impl_weight.l0 k 0 l0 (l0.length : Int) 0
set_option maxHeartbeats 8000000 in
set_option maxRecDepth 100000 in
theorem impl_weight.calls (k : Nat) (A0 : Option Addr) (c0 : Nat) (l0 : List (S60)) (r : Int) (w : World) (hr0 : Kd.C k60 w A0 l0.length l0) (hc0 : l0.length ≤ c0) (h : impl_weight.f k l0 = some r) :
  Calls Try.prog 40 #[.slice A0 l0.length c0] w fun e w' => e = .returned (.int .i64 r) ∧ Below w.heap.size w w' := by
 have hu60 := Try.underlying60
 have HR0 := z0f hr0
 have HC0 := z0f hc0
 clear hr0 hc0
 have HB := z0f (Below.refl w.heap.size w)
 have H : (impl_weight.l0 k 0 l0 (l0.length : Int) 0) = some r := h
 clear h
 have H' := z0f H
 clear H
 go_enter Try.func40, Try.ntmps40
 go_wp2
 go_loopg [3, 8] k (fun kq v3 v8 w' => ∃ (x3_1 : Int) (x8_1 : Int), v3 = .int .i64 x3_1 ∧ v8 = .int .i64 x8_1 ∧ Aside0 (impl_weight.l0 kq x3_1 l0 (l0.length : Int) x8_1 = some r) ∧ Aside0 (kq ≤ k) ∧ Aside0 (Below w.heap.size w w'))
 case atStart => exact ⟨(0), (0), (by first |rfl|(simp;done)|(simp [*];done)), (by first |rfl|(simp;done)|(simp [*];done)), H', ⟨Nat.le_refl _⟩, ⟨by repeat (first|(with_reducible first|exact HB.out|apply z4f|apply z5f|apply z6f)|exact HB.out)⟩⟩
 case round =>
  clear H'
  obtain ⟨x3_1, x8_1, rfl, rfl, HA, HK1, HB⟩ := hrel
  cases gk with
  | zero => exact absurd HA.out (by simp [impl_weight.l0])
  | succ k1 =>
   have H := HA.out
   clear HA
   simp only [impl_weight.l0] at H
   by_cases c2 : x8_1 < (l0.length : Int)
   ·rw [if_pos c2] at H
    have c2b0 : decide (x8_1 < (l0.length : Int)) = true := decide_eq_true c2
    clear c2
    by_cases c3 : 0 ≤ x8_1
    ·rw [if_pos c3] at H
     have c3b0 : decide (0 ≤ x8_1) = true := decide_eq_true c3
     clear c3
     by_cases c4 : x8_1 < (l0.length : Int)
     ·rw [if_pos c4] at H
      have c4b0 : decide (x8_1 < (l0.length : Int)) = true := decide_eq_true c4
      clear c4
      have H' := z0f H
      clear H
      have p201 : 0 ≤ (x8_1 : Int) := of_decide_eq_true (by first|(with_reducible assumption) | assumption)
      have q201 : x8_1 < (l0.length : Int) := of_decide_eq_true (by first|(with_reducible assumption) | assumption)
      obtain ⟨ad201, e201, hx201_0, hx201_1, hx201_2⟩ := at_T60 HR0.out x8_1 p201 q201
      cases e201
      replace hx201_0 := (HB.out.cell (World.block_lt_of_cell? w _ hx201_0)).trans hx201_0
      replace hx201_1 := (HB.out.cell (World.block_lt_of_cell? w _ hx201_1)).trans hx201_1
      replace hx201_2 := (HB.out.cell (World.block_lt_of_cell? w _ hx201_2)).trans hx201_2
      replace p201 := eq_true p201
      replace q201 := eq_true q201
      go_wp2_with (first|((with_reducible refine gate_dst (N := 5) rfl ?_);refine box_event ?hg (N := 5) ?hd (cs := #[.int .i64 0, .int .i64 0, .int .i64 0]) (t := 60) ?hr ?_;(case hd => rfl);(case hg => rfl);(case hr => first|(go_simp;done)|(go_simp;rfl));intro gb202 hg w5 hbox hb;have n0_ := z0f (y6f (by repeat (first|(with_reducible first|exact HB.out|apply z4f|apply z5f|apply z6f)|exact HB.out)) hb);have n1_ := z0f (hbox);have n2_ := z0f ((by rw [hg];exact (y7f (by repeat (first|(with_reducible first|exact HB.out|apply z4f|apply z5f|apply z6f)|exact HB.out))) : w.heap.size ≤ gb202));have n3_ := z0f ((by rw [hg];exact (y7f (by repeat (first|(with_reducible first|exact HB.out|apply z4f|apply z5f|apply z6f)|exact HB.out))) : w.heap.size ≤ gb202));clear HB;have HB := n0_;have BK202 := n1_;have GW202 := n2_;have GE202 := n3_;clear n0_ n1_ n2_ n3_;clear hb hbox hg;have hcz6_0 : w5.cell? ⟨gb202, 0, none⟩ = some (.int .i64 0) := (x3f BK202.out 0).trans rfl;have hcz6_1 : w5.cell? ⟨gb202, 1, none⟩ = some (.int .i64 0) := (x3f BK202.out 1).trans rfl;have hcz6_2 : w5.cell? ⟨gb202, 2, none⟩ = some (.int .i64 0) := (x3f BK202.out 2).trans rfl;have hfz6_0 := x2f BK202.out 0;have hfz6_1 := x2f BK202.out 1;have hfz6_2 := x2f BK202.out 2))
      go_roundg k1
      case measure => have := HK1.out;omega
      case rel => exact ⟨(wrap64 (x3_1 + ((rd_T60 l0 x8_1).f2))), (wrap64 (x8_1 + 1)), (by first |rfl|(simp;done)|(simp [*];done)), (by first |rfl|(simp;done)|(simp [*];done)), H', ⟨by have := HK1.out;omega⟩, ⟨by repeat (first|(with_reducible first|exact HB.out|apply z4f|apply z5f|apply z6f|refine z7f ?_ GE202.out)|exact HB.out)⟩⟩
     ·rw [if_neg c4] at H
      exact absurd H (by simp)
    ·rw [if_neg c3] at H
     exact absurd H (by simp)
   ·rw [if_neg c2] at H
    have c2b0 : decide (x8_1 < (l0.length : Int)) = false := decide_eq_false c2
    clear c2
    obtain rfl := Option.some.inj H
    go_wp2
    go_ret
    exact ⟨by first |rfl|(simp [errW_none, errW_some] <;> rfl)|(simp [*, errW_none, errW_some] <;> rfl), by repeat (first|(with_reducible first|exact HB.out|apply z4f|apply z5f|apply z6f)|exact HB.out)⟩

def impl_mod.f (a0 : Int) (a1 : Int) : Option (Int) := if a1 = 0 then (none) else (if (Int.tmod a0 a1) < 0 then (some (wrap64 ((Int.tmod a0 a1) + a1))) else (some (Int.tmod a0 a1)))
set_option maxHeartbeats 8000000 in
set_option maxRecDepth 100000 in
theorem impl_mod.calls (a0 : Int) (a1 : Int) (r : Int) (w : World) (h : impl_mod.f a0 a1 = some r) :
  Calls Try.prog 76 #[.int .i64 a0, .int .i64 a1] w fun e w' => e = .returned (.int .i64 r) ∧ Drawn0 w w' := by
 have H : (if a1 = 0 then (none) else (if (Int.tmod a0 a1) < 0 then (some (wrap64 ((Int.tmod a0 a1) + a1))) else (some (Int.tmod a0 a1)))) = some r := h
 clear h
 by_cases c3 : a1 = 0
 ·rw [if_pos c3] at H
  exact absurd H (by simp)
 ·rw [if_neg c3] at H
  have c3b0 : (a1 == 0) = false := beq_eq_false_iff_ne.mpr c3
  have c3b1 : (a1 != 0) = true := bne_iff_ne.mpr c3
  by_cases c4 : (Int.tmod a0 a1) < 0
  ·rw [if_pos c4] at H
   have c4b0 : decide ((Int.tmod a0 a1) < 0) = true := decide_eq_true c4
   clear c4
   obtain rfl := Option.some.inj H
   go_enter Try.func76, Try.ntmps76
   go_wp2
   go_ret
   exact ⟨by first |rfl|(simp;done)|(simp [*];done), by repeat (first|exact Drawn0.refl _|apply Drawn0.step)⟩
  ·rw [if_neg c4] at H
   have c4b0 : decide ((Int.tmod a0 a1) < 0) = false := decide_eq_false c4
   clear c4
   obtain rfl := Option.some.inj H
   go_enter Try.func76, Try.ntmps76
   go_wp2
   go_ret
   exact ⟨by first |rfl|(simp;done)|(simp [*];done), by repeat (first|exact Drawn0.refl _|apply Drawn0.step)⟩

def impl_down.f (a0 : Int) (a1 : Int) : Option (Int) := (impl_mod.f a0 a1).bind fun t203 => (if a1 = 0 then (none) else (some (wrap64 (Int.tdiv (wrap64 (a0 - t203)) a1))))
set_option maxHeartbeats 8000000 in
set_option maxRecDepth 100000 in
theorem impl_down.calls (a0 : Int) (a1 : Int) (r : Int) (w : World) (h : impl_down.f a0 a1 = some r) :
  Calls Try.prog 73 #[.int .i64 a0, .int .i64 a1] w fun e w' => e = .returned (.int .i64 r) ∧ Drawn0 w w' := by
 have H : ((impl_mod.f a0 a1).bind fun t203 => (if a1 = 0 then (none) else (some (wrap64 (Int.tdiv (wrap64 (a0 - t203)) a1))))) = some r := h
 clear h
 replace H := Option.bind_eq_some_iff.mp H
 obtain ⟨t203, A30, H⟩ := H
 replace H : (if a1 = 0 then (none) else (some (wrap64 (Int.tdiv (wrap64 (a0 - t203)) a1)))) = some r := H
 have A3 := z0f A30
 clear A30
 by_cases c4 : a1 = 0
 ·rw [if_pos c4] at H
  exact absurd H (by simp)
 ·rw [if_neg c4] at H
  have c4b0 : (a1 == 0) = false := beq_eq_false_iff_ne.mpr c4
  have c4b1 : (a1 != 0) = true := bne_iff_ne.mpr c4
  obtain rfl := Option.some.inj H
  go_enter Try.func73, Try.ntmps73
  go_wp2_with (first|((with_reducible refine gate_callee (f := 76) rfl ?_);refine goesL_ (some 8) rfl rfl Try.func76 (by kernel_rfl) rfl #[.int .i64 a0, .int .i64 a1] rfl (by (try simp only [List.map_toArray, List.map_cons, List.map_nil]);first | done |rfl|(simp only [List.length_drop, List.length_take];rfl)) ?_;(with_reducible refine (impl_mod.calls a0 a1 t203 _ A3.out).mono ?_);rintro e w' ⟨rfl, ⟨nd, rfl⟩⟩;refine ⟨_, rfl, ?_⟩))
  go_ret
  exact ⟨by first |rfl|(simp;done)|(simp [*];done), by repeat (first|exact Drawn0.refl _|apply Drawn0.step)⟩

def impl_shares.l0 : Nat → Int → Int → List Int → Int → List (S60) → Int → Int → Option (List Int)
 | 0, _, _, _, _, _, _, _ => none
 | k + 1, x1, x5, x6, x7, x15, x16, x17 => if x17 < x16 then (if 0 ≤ x17 then (if x17 < (x15.length : Int) then ((impl_down.f (wrap64 (x1 * ((rd_T60 x15 x17).f2))) x5).bind fun t210 => (if x6.length < 17592186044416 then (impl_shares.l0 k x1 x5 (x6 ++ [t210]) (wrap64 (x7 - t210)) x15 x16 (wrap64 (x17 + 1))) else (none))) else (none)) else (none)) else (if 0 < (x6.length : Int) then (some (x6.set (0 : Int).toNat (wrap64 ((rd x6 0) + x7)))) else (none))
def impl_shares.f (k : Nat) (l0 : List (S60)) (a1 : Int) : Option (List Int) := (impl_weight.f k l0).bind fun t204 => (impl_shares.l0 k a1 t204 (([] : List Int)) a1 l0 (l0.length : Int) 0)
set_option maxHeartbeats 8000000 in
set_option maxRecDepth 100000 in
theorem impl_shares.calls (k : Nat) (A0 : Option Addr) (c0 : Nat) (l0 : List (S60)) (a1 : Int) (r : List Int) (w : World) (hr0 : Kd.C k60 w A0 l0.length l0) (hc0 : l0.length ≤ c0) (h : impl_shares.f k l0 a1 = some r) :
  Calls Try.prog 64 #[.slice A0 l0.length c0, .int .i64 a1] w fun e w' => ∃ v0_ : Value, e = .returned (v0_) ∧ Kd.R (Kd.int .i64) 3 w' w.heap.size (fun _ => True) v0_ r ∧ Below w.heap.size w w' := by
 have hu60 := Try.underlying60
 have HR0 := z0f hr0
 have HC0 := z0f hc0
 clear hr0 hc0
 have HB := z0f (Below.refl w.heap.size w)
 have H : ((impl_weight.f k l0).bind fun t204 => (impl_shares.l0 k a1 t204 (([] : List Int)) a1 l0 (l0.length : Int) 0)) = some r := h
 clear h
 replace H := Option.bind_eq_some_iff.mp H
 obtain ⟨t204, A30, H⟩ := H
 replace H : (impl_shares.l0 k a1 t204 (([] : List Int)) a1 l0 (l0.length : Int) 0) = some r := H
 have A3 := z0f A30
 clear A30
 obtain ⟨y205, hy205⟩ : ∃ y_ : List Int, y_ = (([] : List Int)) := ⟨_, rfl⟩
 replace H : (impl_shares.l0 k a1 t204 y205 a1 l0 (l0.length : Int) 0) = some r := by first|(rw [hy205];with_reducible exact H)|(have H2_ := (Option.bind_some _ _).symm.trans H;rw [hy205];with_reducible exact H2_)|(have H2_ := (Option.bind_some _ _).symm.trans H;with_reducible exact H2_) | with_reducible exact H|(rw [hy205];exact H)|exact H
 have Ny205 := z0f hy205
 clear hy205
 have H' := z0f H
 clear H
 go_enter Try.func64, Try.ntmps64
 go_wp2_with (first|((with_reducible refine gate_callee (f := 40) rfl ?_);refine goesL_ (some 12) rfl rfl Try.func40 (by kernel_rfl) rfl #[.slice A0 l0.length c0] rfl (by (try simp only [List.map_toArray, List.map_cons, List.map_nil]);first | done |rfl|(simp only [List.length_drop, List.length_take];rfl)) ?_;(with_reducible refine (impl_weight.calls k _ _ l0 t204 _ ?side1 ?side2 A3.out).mono ?_);(case side1 => repeat (first|exact HR0.out|(with_reducible refine Kd.C_alloc ?_ _)|(with_reducible refine Kd.C_drewN ?_ _)|(with_reducible refine Kd.C_drew ?_)));(case side2 => exact HC0.out);rintro e w4 ⟨rfl, hb⟩;refine ⟨_, rfl, ?_⟩;have n0_ := z0f (y6f (by repeat (first|(with_reducible first|exact HB.out|apply z4f|apply z5f|apply z6f)|exact HB.out)) hb);clear HB;have HB := n0_;clear n0_;(try clear hb);(try clear hk))|((with_reducible refine gate_dst (N := 13) rfl ?_);refine Kd.R_lit (Kd.int .i64) _ 3 ?hg (N := 13) ?hd (xs := ([] : List Int)) (inner := []) (ok := fun _ => True) (okp := fun _ => True) ?hr ?hp (fun _ hk => hk) trivial (Below.refl _ _) (Nat.le_refl _) (by simp) ?_;(case hd => rfl);(case hg => rfl);(case hr => first|(go_simp;done)|(go_simp;rfl));(case hp => exact (Reps.none _ _));intro v206 w5 ho6 hb hg_ hnew_;clear hg_ hnew_;(first | rw [← Ny205.out] at ho6|(simp only [Int.reduceToNat] at ho6;rw [← Ny205.out] at ho6));have n0_ := z0f (Kd.R_lower ho6 (y7f (by repeat (first|(with_reducible first|exact HB.out|apply z4f|apply z5f|apply z6f)|exact HB.out))));have n1_ := z0f (y6f (by repeat (first|(with_reducible first|exact HB.out|apply z4f|apply z5f|apply z6f)|exact HB.out)) hb);clear HB;have HO207 := n0_;have HB := n1_;clear n0_ n1_;clear hb ho6))
 go_loopg [6, 7, 17] k (fun kq v6 v7 v17 w' => ∃ (x6_1 : List Int) (x7_1 : Int) (x17_1 : Int), v7 = .int .i64 x7_1 ∧ v17 = .int .i64 x17_1 ∧ Aside0 (impl_shares.l0 kq a1 t204 x6_1 x7_1 l0 (l0.length : Int) x17_1 = some r) ∧ Aside0 (kq ≤ k) ∧ Aside0 (Kd.R (Kd.int .i64) 3 w' w.heap.size (fun _ => True) v6 x6_1) ∧ Aside0 (Below w.heap.size w w'))
 case atStart => exact ⟨(y205), (a1), (0), (by first |rfl|(simp;done)|(simp [*];done)), (by first |rfl|(simp;done)|(simp [*];done)), H', ⟨Nat.le_refl _⟩, ⟨by (with_reducible repeat (first|apply z8f|apply z9f|apply y1f));exact HO207.out⟩, ⟨by repeat (first|(with_reducible first|exact HB.out|apply z4f|apply z5f|apply z6f)|exact HB.out)⟩⟩
 case round =>
  clear H'
  (try clear p2);(try clear c4);(try clear c6)
  obtain ⟨x6_1, x7_1, x17_1, rfl, rfl, HA, HK1, HO_6, HB⟩ := hrel
  cases gk with
  | zero => exact absurd HA.out (by simp [impl_shares.l0])
  | succ k1 =>
   have H := HA.out
   clear HA
   simp only [impl_shares.l0] at H
   by_cases c7 : x17_1 < (l0.length : Int)
   ·rw [if_pos c7] at H
    have c7b0 : decide (x17_1 < (l0.length : Int)) = true := decide_eq_true c7
    clear c7
    by_cases c8 : 0 ≤ x17_1
    ·rw [if_pos c8] at H
     have c8b0 : decide (0 ≤ x17_1) = true := decide_eq_true c8
     clear c8
     by_cases c9 : x17_1 < (l0.length : Int)
     ·rw [if_pos c9] at H
      have c9b0 : decide (x17_1 < (l0.length : Int)) = true := decide_eq_true c9
      clear c9
      replace H := Option.bind_eq_some_iff.mp H
      obtain ⟨t210, A100, H⟩ := H
      replace H : (if x6_1.length < 17592186044416 then (impl_shares.l0 k1 a1 t204 (x6_1 ++ [t210]) (wrap64 (x7_1 - t210)) l0 (l0.length : Int) (wrap64 (x17_1 + 1))) else (none)) = some r := H
      have A10 := z0f A100
      clear A100
      by_cases c11 : x6_1.length < 17592186044416
      ·rw [if_pos c11] at H
       have LMc11 := z0f c11
       clear c11
       obtain ⟨y211, hy211⟩ : ∃ y_ : List Int, y_ = (x6_1 ++ [t210]) := ⟨_, rfl⟩
       replace H : (impl_shares.l0 k1 a1 t204 y211 (wrap64 (x7_1 - t210)) l0 (l0.length : Int) (wrap64 (x17_1 + 1))) = some r := by first|(rw [hy211];with_reducible exact H)|(have H2_ := (Option.bind_some _ _).symm.trans H;rw [hy211];with_reducible exact H2_)|(have H2_ := (Option.bind_some _ _).symm.trans H;with_reducible exact H2_) | with_reducible exact H|(rw [hy211];exact H)|exact H
       have Ny211 := z0f hy211
       clear hy211
       have H' := z0f H
       clear H
       have p208 : 0 ≤ (x17_1 : Int) := of_decide_eq_true (by first|(with_reducible assumption) | assumption)
       have q208 : x17_1 < (l0.length : Int) := of_decide_eq_true (by first|(with_reducible assumption) | assumption)
       obtain ⟨ad208, e208, hx208_0, hx208_1, hx208_2⟩ := at_T60 HR0.out x17_1 p208 q208
       cases e208
       replace hx208_0 := (HB.out.cell (World.block_lt_of_cell? w _ hx208_0)).trans hx208_0
       replace hx208_1 := (HB.out.cell (World.block_lt_of_cell? w _ hx208_1)).trans hx208_1
       replace hx208_2 := (HB.out.cell (World.block_lt_of_cell? w _ hx208_2)).trans hx208_2
       replace p208 := eq_true p208
       replace q208 := eq_true q208
       go_wp2_with (first|((with_reducible refine gate_dst (N := 9) rfl ?_);refine box_event ?hg (N := 9) ?hd (cs := #[.int .i64 0, .int .i64 0, .int .i64 0]) (t := 60) ?hr ?_;(case hd => rfl);(case hg => rfl);(case hr => first|(go_simp;done)|(go_simp;rfl));intro gb209 hg w12 hbox hb;have n0_ := z0f (Kd.R_below (by (with_reducible repeat (first|apply z8f|apply z9f|apply y1f));exact HO_6.out) hb);have n1_ := z0f (y6f (by repeat (first|(with_reducible first|exact HB.out|apply z4f|apply z5f|apply z6f)|exact HB.out)) hb);have n2_ := z0f (hbox);have n3_ := z0f ((by rw [hg];exact (y7f (by repeat (first|(with_reducible first|exact HB.out|apply z4f|apply z5f|apply z6f)|exact HB.out))) : w.heap.size ≤ gb209));have n4_ := z0f ((by rw [hg];exact (y7f (by repeat (first|(with_reducible first|exact HB.out|apply z4f|apply z5f|apply z6f)|exact HB.out))) : w.heap.size ≤ gb209));clear HO_6;clear HB;have HO_6 := n0_;have HB := n1_;have BK209 := n2_;have GW209 := n3_;have GE209 := n4_;clear n0_ n1_ n2_ n3_ n4_;clear hb hbox hg;have hcz13_0 : w12.cell? ⟨gb209, 0, none⟩ = some (.int .i64 0) := (x3f BK209.out 0).trans rfl;have hcz13_1 : w12.cell? ⟨gb209, 1, none⟩ = some (.int .i64 0) := (x3f BK209.out 1).trans rfl;have hcz13_2 : w12.cell? ⟨gb209, 2, none⟩ = some (.int .i64 0) := (x3f BK209.out 2).trans rfl;have hfz13_0 := x2f BK209.out 0;have hfz13_1 := x2f BK209.out 1;have hfz13_2 := x2f BK209.out 2)|((with_reducible refine gate_callee (f := 73) rfl ?_);refine goesL_ (some 26) rfl rfl Try.func73 (by kernel_rfl) rfl #[.int .i64 (wrap64 (a1 * ((rd_T60 l0 x17_1).f2))), .int .i64 t204] rfl (by (try simp only [List.map_toArray, List.map_cons, List.map_nil]);first | done |rfl|(simp only [List.length_drop, List.length_take];rfl)) ?_;(with_reducible refine (impl_down.calls (wrap64 (a1 * ((rd_T60 l0 x17_1).f2))) t204 t210 _ A10.out).mono ?_);rintro e w' ⟨rfl, ⟨nd, rfl⟩⟩;refine ⟨_, rfl, ?_⟩)|((with_reducible refine gate_builtin (b := .append) (xs := #[.tmp 27, .tmp 29]) rfl ?_);at_builtin;refine Kd.R_append (Kd.int .i64) (w0 := w) w.heap.size rfl (.tmp 27) (.tmp 29) 29 3 (.int .i64 0) 8 rfl Try.underlying29 info3 rfl (by decide) (by omega) u6 x6_1 t210 [.int .i64 t210] (fun _ => True) (fun _ => False) rfl (by first|(go_simp;done)|(go_simp;rfl)) ?aP (fun _ hk => hk.elim) ?aF ?aO ?aB ?aS ?aL ?_;(case aP => exact rfl);(case aB => exact (by repeat (first|(with_reducible first|exact HB.out|apply z4f|apply z5f|apply z6f|refine z7f ?_ GE209.out)|exact HB.out)));(case aF => exact (fun _ _ => trivial));(case aO => exact (by (with_reducible repeat (first|apply z8f|apply z9f|apply y1f));exact Kd.R_mono (x1f (p := ⟨gb209, 2, none⟩) (x1f (p := ⟨gb209, 1, none⟩) (x1f (p := ⟨gb209, 0, none⟩) (Kd.R_types HO_6.out BK209.out (by decide)) (fun _ hk => hk.2) (.int .i64 ((rd_T60 l0 x17_1).f0))) (fun _ hk => hk.2) (.int .i64 ((rd_T60 l0 x17_1).f1))) (fun _ hk => hk.2) (.int .i64 ((rd_T60 l0 x17_1).f2))) (fun _ hk => trivial)));(case aS => exact (y7f (by repeat (first|(with_reducible first|exact HB.out|apply z4f|apply z5f|apply z6f|refine z7f ?_ GE209.out)|exact HB.out))));(case aL => have := LMc11.out;omega);intro v212 w14 ho hb hg hat;rw [← Ny211.out] at ho;have n0_ := z0f (blk_grown (g := gb209) (o := .cells #[.int .i64 ((rd_T60 l0 x17_1).f0), .int .i64 ((rd_T60 l0 x17_1).f1), .int .i64 ((rd_T60 l0 x17_1).f2)] 60 (0, 0)) (by (with_reducible repeat (first|refine z1f ?_ _|refine z3f ?_|refine z2f ?_ _));refine blk_put (cs := #[.int .i64 ((rd_T60 l0 x17_1).f0), .int .i64 ((rd_T60 l0 x17_1).f1), .int .i64 0]) ?_ 2 _ rfl;(with_reducible repeat (first|refine z1f ?_ _|refine z3f ?_|refine z2f ?_ _));refine blk_put (cs := #[.int .i64 ((rd_T60 l0 x17_1).f0), .int .i64 0, .int .i64 0]) ?_ 1 _ rfl;(with_reducible repeat (first|refine z1f ?_ _|refine z3f ?_|refine z2f ?_ _));refine blk_put (cs := #[.int .i64 0, .int .i64 0, .int .i64 0]) ?_ 0 _ rfl;(with_reducible repeat (first|refine z1f ?_ _|refine z3f ?_|refine z2f ?_ _));exact BK209.out) hg (Kd.R_ne HO_6.out BK209.out (by decide)));have n1_ := z0f (hb);have n2_ := z0f (ho);clear BK209;clear HB;clear HO_6;have BK209 := n0_;have HB := n1_;have HO213 := n2_;clear n0_ n1_ n2_;clear ho hb hg hat))
       go_roundg k1
       case measure => have := HK1.out;omega
       case rel => exact ⟨(y211), (wrap64 (x7_1 - t210)), (wrap64 (x17_1 + 1)), (by first |rfl|(simp;done)|(simp [*];done)), (by first |rfl|(simp;done)|(simp [*];done)), H', ⟨by have := HK1.out;omega⟩, ⟨by (with_reducible repeat (first|apply z8f|apply z9f|apply y1f));exact HO213.out⟩, ⟨by repeat (first|(with_reducible first|exact HB.out|apply z4f|apply z5f|apply z6f|refine z7f ?_ GE209.out)|exact HB.out)⟩⟩
      ·rw [if_neg c11] at H
       exact absurd H (by simp)
     ·rw [if_neg c9] at H
      exact absurd H (by simp)
    ·rw [if_neg c8] at H
     exact absurd H (by simp)
   ·rw [if_neg c7] at H
    have c7b0 : decide (x17_1 < (l0.length : Int)) = false := decide_eq_false c7
    clear c7
    by_cases c15 : 0 < (x6_1.length : Int)
    ·rw [if_pos c15] at H
     have c15b0 : decide (0 < (x6_1.length : Int)) = true := decide_eq_true c15
     have c15b1 : decide (0 < x6_1.length) = true := decide_eq_true (by omega)
     clear c15
     obtain ⟨y215, hy215⟩ : ∃ y_ : List Int, y_ = (x6_1.set (0 : Int).toNat (wrap64 ((rd x6_1 0) + x7_1))) := ⟨_, rfl⟩
     replace H : (some y215) = some r := by first|(rw [hy215];with_reducible exact H)|(have H2_ := (Option.bind_some _ _).symm.trans H;rw [hy215];with_reducible exact H2_)|(have H2_ := (Option.bind_some _ _).symm.trans H;with_reducible exact H2_) | with_reducible exact H|(rw [hy215];exact H)|exact H
     have Ny215 := z0f hy215
     clear hy215
     obtain rfl := Option.some.inj H
     obtain ⟨Ao17, co17, eo17⟩ := Kd.R_slice HO_6.out
     subst eo17
     have p214 : 0 ≤ (0 : Int) := (by omega)
     have q214 : 0 < (x6_1.length : Int) := of_decide_eq_true (by first|(with_reducible assumption) | assumption)
     obtain ⟨ad214, e214, hx214_0⟩ := Kd.at_int (Kd.R_reads' HO_6.out).2.2 0 p214 q214
     cases e214
     have qi214 : (0 < x6_1.length) = True := eq_true (by omega)
     (try rw [show ((0 : Int)).toNat = 0 from rfl] at hx214_0)
     (try rw [Addr.add_zero'] at hx214_0)
     replace p214 := eq_true p214
     replace q214 := eq_true q214
     have p16 : 0 ≤ (0 : Int) := (by omega)
     have q16 : (0 : Int) < ((x6_1.length : Int) : Int) := of_decide_eq_true (by first|(with_reducible assumption) | assumption)
     have qi16 : (0 < x6_1.length) = True := eq_true (by omega)
     obtain ⟨go16, co16, eo16, gb16, gl16, cl16, HG16⟩ := Kd.R_form HO_6.out (by omega)
     (first | cases eo16|(injection eo16 with ea_ en_ ec_;(first | subst ea_|(injection ea_ with ea_;subst ea_));subst ec_;clear en_))
     have GB16 := z0f gb16
     have GG16 := z0f HG16
     clear gb16 gl16 HG16
     (first | simp only [add_plain] at hx214_0 | skip)
     obtain ⟨hx16_0, hf16_0⟩ := Kd.R_celln 0 HO_6.out (0 : Int) p16 q16
     (try rw [show ((0 : Int)).toNat = 0 from rfl] at hx16_0)
     (try simp only [Nat.reduceMul, Nat.zero_mul, Nat.zero_add, Nat.reduceAdd] at hx16_0)
     (try rw [show ((0 : Int)).toNat = 0 from rfl] at hf16_0)
     (try simp only [Nat.reduceMul, Nat.zero_mul, Nat.zero_add, Nat.reduceAdd] at hf16_0)
     replace p16 := eq_true p16
     replace q16 := eq_true q16
     have HP18 := Kd.R_putg HO_6.out (0 : Int) (wrap64 ((rd x6_1 0) + x7_1))
     go_wp2_with (first|((with_reducible refine gate_store (t := 3) (p := 40) rfl ?_);refine store_event (t := 3) (p := 40) (v := ?vo_w19) (w1 := (wr.setCell ⟨go16, (0 : Int).toNat, none⟩ (.int .i64 (wrap64 ((rd x6_1 0) + x7_1))))) ?hg ?ho ?hn ?hr ?_;(case ho => rfl);(case hg => rfl);(case hn => rfl);(case hr => first|(go_simp;done)|(go_simp;rfl));intro w19 hw;have hg : wr.grownBy w19 (some go16) := (by rw [hw];exact HP18.2);have hp_ : Kd.R (Kd.int .i64) 3 w19 w.heap.size (fun _ => True) (.slice (some ⟨go16, 0, none⟩) x6_1.length co17) y215 := (by rw [hw, Ny215.out];exact HP18.1);clear HP18;have n0_ := z0f (hp_);have n1_ := z0f ((by rw [hw];exact z7f (HB.out) GB16.out : Below w.heap.size w w19));clear HO_6;clear HB;have HO_6 := n0_;have HB := n1_;clear n0_ n1_;clear hg hw hp_))
     go_ret
     exact ⟨_, by first |rfl|(simp [errW_none, errW_some] <;> rfl)|(simp [*, errW_none, errW_some] <;> rfl), by (with_reducible repeat (first|apply z8f|apply z9f|apply y1f));exact HO_6.out, by repeat (first|(with_reducible first|exact HB.out|apply z4f|apply z5f|apply z6f)|exact HB.out)⟩
    ·rw [if_neg c15] at H
     exact absurd H (by simp)

end Go.Proofs.Ytnohdgbfgdnpfaa.PFnCausal
