/- Machine side of laws FnCausal: written for this claim by the kit's print program under this session's wip/tools/mp_setup.py (with contracts of the session's own, wip/ext). -/
import Derived.Test.YtnohdgbfgdnpfaaPFnCausalx0
import Derived.Test.YtnohdgbfgdnpfaaPFnCausalx1
import Derived.Test.YtnohdgbfgdnpfaaPFnCausalx8
namespace Go.Proofs.Ytnohdgbfgdnpfaa.PFnCausal
open Go.RowKit Go.Proofs.YtnohdgbfgdnpfaaW.PrintWords Go.Proofs.YtnohdgbfgdnpfaaW.PrintLast Go.Proofs.YtnohdgbfgdnpfaaW.PrintMore
attribute [local go_sem] max2_int min2_int max_two min_two max_three min_three max_four min_four   -- for this text's walks alone
set_option linter.unusedVariables false
set_option linter.unusedSimpArgs false
-- squeezed: words under short names
set_option linter.defProp false in
def z0j := @Aside0.mk
set_option linter.defProp false in
def z1j := @blk_drewN
set_option linter.defProp false in
def z2j := @blk_alloc
set_option linter.defProp false in
def z3j := @blk_drew
set_option linter.defProp false in
def z4j := @below_alloc
set_option linter.defProp false in
def z5j := @pw_below_drewN
set_option linter.defProp false in
def z6j := @below_drew1
set_option linter.defProp false in
def z7j := @below_set
set_option linter.defProp false in
def z8j := @Kd.R_alloc
set_option linter.defProp false in
def z9j := @Kd.R_drewN
set_option linter.defProp false in
def y1j := @Kd.R_drew
set_option linter.defProp false in
def y2j := @Kd.C_alloc
set_option linter.defProp false in
def y3j := @Kd.C_drewN
set_option linter.defProp false in
def y4j := @Kd.C_drew
set_option linter.defProp false in
def y5j := @blk_below
set_option linter.defProp false in
def y6j := @below_step
set_option linter.defProp false in
def y8j := @Kd.R_elder'
set_option linter.defProp false in
def x3j := @blk_cell
set_option linter.defProp false in
def x5j := @Kd.R_reads'
set_option linter.defProp false in
def x6j := @Kd.R_mono
set_option linter.defProp false in
def w1_j := @Kd.R_lower
set_option linter.defProp false in
def w2_j := @Kd.R_base
def bsj_ (n m : Nat) : Array Bool := ((List.range n).map fun i => m.testBit i).toArray
theorem s1j_ {α : Type} (l : List α) (i : Nat) (a : α) : l.toArray.setIfInBounds i a = (l.set i a).toArray := List.setIfInBounds_toArray l i a
theorem s2j_ {α : Type} (a b : α) (l : List α) : (a :: l).set 0 b = b :: l := rfl
theorem s3j_ {α : Type} (a b : α) (n : Nat) (l : List α) : (a :: l).set (n + 1) b = a :: l.set n b := rfl

def spec_l4Draw.l0 : Nat → List (S60) → Int → List Int → Int → Int → Option ((List (S60)) × Int × Int)
 | 0, _, _, _, _, _ => none
 | k + 1, x3, x4, x1000, x1001, x1002 => if x4 > 0 then ((spec_l01Below.f x1000 x1001 x1002 9).bind fun bt302 => ((spec_l01Below.f x1000 bt302.2.1 bt302.2.2 5).bind fun bt305 => ((spec_l01Below.f x1000 bt305.2.1 bt305.2.2 30).bind fun bt308 => ((some (([] : List (S60)) : List (S60))).bind fun y312 => (if y312.length + x3.length < 5864062014805 then ((some (y312 ++ x3 : List (S60))).bind fun y315 => ((some (([(⟨wrap64 (bt302.1 - 4), bt305.1, wrap64 (1 + bt308.1)⟩ : S60)] : List (S60)) : List (S60))).bind fun y318 => (if y315.length + y318.length < 5864062014805 then ((some (y315 ++ y318 : List (S60))).bind fun y321 => ((spec_IsKernel.f k y321).bind fun t324 => (if t324 = true then (spec_l4Draw.l0 k y321 (wrap64 (x4 - 1)) x1000 bt308.2.1 bt308.2.2) else (spec_l4Draw.l0 k x3 (wrap64 (x4 - 1)) x1000 bt308.2.1 bt308.2.2)))) else (none)))) else (none)))))) else (some (x3, x1001, x1002))
def spec_l4Draw.f (k : Nat) (s0_0 : List Int) (s0_1 : Int) (s0_2 : Int) : Option ((List (S60)) × Int × Int) := (spec_l01Below.f s0_0 s0_1 s0_2 4).bind fun bt281 => (if bt281.1 = 0 then ((spec_SteinKernel.f).bind fun t284 => (some (t284, bt281.2.1, bt281.2.2))) else (if bt281.1 = 1 then ((spec_PlainKernel.f).bind fun t287 => (some (t287, bt281.2.1, bt281.2.2))) else (if bt281.1 = 2 then (some ((([(⟨1, 0, 8⟩ : S60), (⟨2, 0, 4⟩ : S60), (⟨(-2), 1, 2⟩ : S60), (⟨(-1), 1, 4⟩ : S60), (⟨0, 1, 8⟩ : S60), (⟨1, 1, 4⟩ : S60), (⟨2, 1, 2⟩ : S60)] : List (S60))), bt281.2.1, bt281.2.2)) else ((spec_l01Below.f s0_0 bt281.2.1 bt281.2.2 9).bind fun bt293 => ((spec_l01Below.f s0_0 bt293.2.1 bt293.2.2 4).bind fun bt299 => (spec_l4Draw.l0 k (([(⟨0, 1, wrap64 (1 + bt293.1)⟩ : S60)] : List (S60))) bt299.1 s0_0 bt299.2.1 bt299.2.2))))))
set_option maxHeartbeats 8000000 in
set_option maxRecDepth 100000 in
theorem spec_l4Draw.calls (k : Nat) (g : Nat) (s0_0 : List Int) (s0_1 : Int) (s0_2 : Int) (r1 : List (S60)) (r2 : Int) (r3 : Int) (w0 w : World) (hI : IsS78 w0 w g s0_0 s0_1 s0_2) (hB : Below w0.heap.size w0 w) (h : spec_l4Draw.f k s0_0 s0_1 s0_2 = some (r1, r2, r3)) :
  Calls Try.prog 49 #[.pointer (some ⟨g, 0, none⟩)] w fun e w' => ∃ v0_ : Value, e = .returned (v0_) ∧ Kd.R k60 60 w' w.heap.size (fun _ => True) v0_ r1 ∧ IsS78 w0 w' g s0_0 r2 r3 ∧ Below w0.heap.size w0 w' ∧ KeepBut w w' g none := by
 have hu60 := Try.underlying60
 have HI0 := z0j hI
 have HK := z0j (KeepBut.refl w g none)
 have HL := z0j hB.size
 clear hI
 have HW0 := z0j hB.size
 have HB := z0j hB
 clear hB
 have H : ((spec_l01Below.f s0_0 s0_1 s0_2 4).bind fun bt281 => (if bt281.1 = 0 then ((spec_SteinKernel.f).bind fun t284 => (some (t284, bt281.2.1, bt281.2.2))) else (if bt281.1 = 1 then ((spec_PlainKernel.f).bind fun t287 => (some (t287, bt281.2.1, bt281.2.2))) else (if bt281.1 = 2 then (some ((([(⟨1, 0, 8⟩ : S60), (⟨2, 0, 4⟩ : S60), (⟨(-2), 1, 2⟩ : S60), (⟨(-1), 1, 4⟩ : S60), (⟨0, 1, 8⟩ : S60), (⟨1, 1, 4⟩ : S60), (⟨2, 1, 2⟩ : S60)] : List (S60))), bt281.2.1, bt281.2.2)) else ((spec_l01Below.f s0_0 bt281.2.1 bt281.2.2 9).bind fun bt293 => ((spec_l01Below.f s0_0 bt293.2.1 bt293.2.2 4).bind fun bt299 => (spec_l4Draw.l0 k (([(⟨0, 1, wrap64 (1 + bt293.1)⟩ : S60)] : List (S60))) bt299.1 s0_0 bt299.2.1 bt299.2.2))))))) = some (r1, r2, r3) := h
 clear h
 replace H := Option.bind_eq_some_iff.mp H
 obtain ⟨⟨t281, t282, t283⟩, A20, H⟩ := H
 replace H : (if t281 = 0 then ((spec_SteinKernel.f).bind fun t284 => (some (t284, t282, t283))) else (if t281 = 1 then ((spec_PlainKernel.f).bind fun t287 => (some (t287, t282, t283))) else (if t281 = 2 then (some ((([(⟨1, 0, 8⟩ : S60), (⟨2, 0, 4⟩ : S60), (⟨(-2), 1, 2⟩ : S60), (⟨(-1), 1, 4⟩ : S60), (⟨0, 1, 8⟩ : S60), (⟨1, 1, 4⟩ : S60), (⟨2, 1, 2⟩ : S60)] : List (S60))), t282, t283)) else ((spec_l01Below.f s0_0 t282 t283 9).bind fun bt293 => ((spec_l01Below.f s0_0 bt293.2.1 bt293.2.2 4).bind fun bt299 => (spec_l4Draw.l0 k (([(⟨0, 1, wrap64 (1 + bt293.1)⟩ : S60)] : List (S60))) bt299.1 s0_0 bt299.2.1 bt299.2.2)))))) = some (r1, r2, r3) := H
 have A2 := z0j A20
 clear A20
 by_cases c3 : t281 = 0
 ·rw [if_pos c3] at H
  have c3b0 : (t281 == 0) = true := beq_iff_eq.mpr c3
  have c3b1 : (t281 != 0) = false := bne_eq_false_iff_eq.mpr c3
  clear c3
  replace H := Option.bind_eq_some_iff.mp H
  obtain ⟨t284, A40, H⟩ := H
  replace H : (some (t284, t282, t283)) = some (r1, r2, r3) := H
  have A4 := z0j A40
  clear A40
  simp only [Option.some.injEq, Prod.mk.injEq] at H
  obtain ⟨rfl, rfl, rfl⟩ := H
  go_enter Try.func49, Try.ntmps49
  go_wp2_with (first|((with_reducible refine gate_callee (f := 38) rfl ?_);refine goesL_ (some 8) rfl rfl Try.func38 (by kernel_rfl) rfl #[.pointer (some ⟨g, 0, none⟩), .int .i64 4] rfl (by (try simp only [List.map_toArray, List.map_cons, List.map_nil]);first | done |rfl|(simp only [List.length_drop, List.length_take];rfl)) ?_;(with_reducible refine (spec_l01Below.calls g s0_0 s0_1 s0_2 4 t281 t282 t283 w0 _ ?side1 ?side2 A2.out).mono ?_);(case side1 => repeat (first|(with_reducible first|exact HI0.out|apply IsS78.alloc|apply IsS78.drewN|apply IsS78.drew|apply IsS78.set_1|apply IsS78.set_2)|exact HI0.out));(case side2 => repeat (first|(with_reducible first|exact HB.out|apply z4j|apply z5j|apply z6j|refine z7j ?_ (IsS78.ge HI0.out))|exact HB.out));rintro e w5 ⟨rfl, hi, hb, hk⟩;refine ⟨_, rfl, ?_⟩;have n0_ := z0j (KeepBut.trans (by repeat (first|(with_reducible first|exact HK.out|apply KeepBut.set_|apply keep_drewN|apply keep_drew|apply keep_alloc)|exact HK.out)) hk (.inl rfl));have n1_ := z0j (hb);have n2_ := z0j (hi);clear HK;clear HB;clear HI0;have HK := n0_;have HB := n1_;have HI0 := n2_;clear n0_ n1_ n2_;(try clear hb);(try clear hk);(try clear hi))|((with_reducible refine gate_callee (f := 66) rfl ?_);refine goesL_ (some 11) rfl rfl Try.func66 (by kernel_rfl) rfl #[] rfl (by (try simp only [List.map_toArray, List.map_cons, List.map_nil]);first | done |rfl|(simp only [List.length_drop, List.length_take];rfl)) ?_;(with_reducible refine (spec_SteinKernel.calls  t284 _ A4.out).mono ?_);rintro e w6 ⟨v285, rfl, ho0, hb⟩;refine ⟨_, rfl, ?_⟩;have n0_ := z0j (w1_j ho0 (keep_size (w := w) (g := g) (row := none) (by repeat (first|(with_reducible first|exact HK.out|apply KeepBut.set_|apply keep_drewN|apply keep_drew|apply keep_alloc)|exact HK.out))));have n1_ := z0j (IsS78.below (by repeat (first|(with_reducible first|exact HI0.out|apply IsS78.alloc|apply IsS78.drewN|apply IsS78.drew|apply IsS78.set_1|apply IsS78.set_2)|exact HI0.out)) hb);have n2_ := z0j (KeepBut.trans (by repeat (first|(with_reducible first|exact HK.out|apply KeepBut.set_|apply keep_drewN|apply keep_drew|apply keep_alloc)|exact HK.out)) (KeepBut.of_below hb g none) (.inl rfl));have n3_ := z0j (y6j (by repeat (first|(with_reducible first|exact HB.out|apply z4j|apply z5j|apply z6j|refine z7j ?_ (IsS78.ge HI0.out))|exact HB.out)) hb);clear HI0;clear HK;clear HB;have HO286 := n0_;have HI0 := n1_;have HK := n2_;have HB := n3_;clear n0_ n1_ n2_ n3_;(try clear hb);(try clear hk);(try clear hi);(try clear ho0)))
  go_ret
  exact ⟨_, by first |rfl|(simp [errW_none, errW_some] <;> rfl)|(simp [*, errW_none, errW_some] <;> rfl), by (with_reducible repeat (first|apply z8j|apply z9j|apply y1j));exact HO286.out, by repeat (first|(with_reducible first|exact HI0.out|apply IsS78.alloc|apply IsS78.drewN|apply IsS78.drew|apply IsS78.set_1|apply IsS78.set_2)|exact HI0.out), by repeat (first|(with_reducible first|exact HB.out|apply z4j|apply z5j|apply z6j|refine z7j ?_ (IsS78.ge HI0.out))|exact HB.out), by repeat (first|(with_reducible first|exact HK.out|apply KeepBut.set_|apply keep_drewN|apply keep_drew|apply keep_alloc)|exact HK.out)⟩
 ·rw [if_neg c3] at H
  have c3b0 : (t281 == 0) = false := beq_eq_false_iff_ne.mpr c3
  have c3b1 : (t281 != 0) = true := bne_iff_ne.mpr c3
  by_cases c7 : t281 = 1
  ·rw [if_pos c7] at H
   have c7b0 : (t281 == 1) = true := beq_iff_eq.mpr c7
   have c7b1 : (t281 != 1) = false := bne_eq_false_iff_eq.mpr c7
   clear c7
   replace H := Option.bind_eq_some_iff.mp H
   obtain ⟨t287, A80, H⟩ := H
   replace H : (some (t287, t282, t283)) = some (r1, r2, r3) := H
   have A8 := z0j A80
   clear A80
   simp only [Option.some.injEq, Prod.mk.injEq] at H
   obtain ⟨rfl, rfl, rfl⟩ := H
   go_enter Try.func49, Try.ntmps49
   go_wp2_with (first|((with_reducible refine gate_callee (f := 38) rfl ?_);refine goesL_ (some 8) rfl rfl Try.func38 (by kernel_rfl) rfl #[.pointer (some ⟨g, 0, none⟩), .int .i64 4] rfl (by (try simp only [List.map_toArray, List.map_cons, List.map_nil]);first | done |rfl|(simp only [List.length_drop, List.length_take];rfl)) ?_;(with_reducible refine (spec_l01Below.calls g s0_0 s0_1 s0_2 4 t281 t282 t283 w0 _ ?side1 ?side2 A2.out).mono ?_);(case side1 => repeat (first|(with_reducible first|exact HI0.out|apply IsS78.alloc|apply IsS78.drewN|apply IsS78.drew|apply IsS78.set_1|apply IsS78.set_2)|exact HI0.out));(case side2 => repeat (first|(with_reducible first|exact HB.out|apply z4j|apply z5j|apply z6j|refine z7j ?_ (IsS78.ge HI0.out))|exact HB.out));rintro e w9 ⟨rfl, hi, hb, hk⟩;refine ⟨_, rfl, ?_⟩;have n0_ := z0j (KeepBut.trans (by repeat (first|(with_reducible first|exact HK.out|apply KeepBut.set_|apply keep_drewN|apply keep_drew|apply keep_alloc)|exact HK.out)) hk (.inl rfl));have n1_ := z0j (hb);have n2_ := z0j (hi);clear HK;clear HB;clear HI0;have HK := n0_;have HB := n1_;have HI0 := n2_;clear n0_ n1_ n2_;(try clear hb);(try clear hk);(try clear hi))|((with_reducible refine gate_callee (f := 67) rfl ?_);refine goesL_ (some 14) rfl rfl Try.func67 (by kernel_rfl) rfl #[] rfl (by (try simp only [List.map_toArray, List.map_cons, List.map_nil]);first | done |rfl|(simp only [List.length_drop, List.length_take];rfl)) ?_;(with_reducible refine (spec_PlainKernel.calls  t287 _ A8.out).mono ?_);rintro e w10 ⟨v288, rfl, ho0, hb⟩;refine ⟨_, rfl, ?_⟩;have n0_ := z0j (w1_j ho0 (keep_size (w := w) (g := g) (row := none) (by repeat (first|(with_reducible first|exact HK.out|apply KeepBut.set_|apply keep_drewN|apply keep_drew|apply keep_alloc)|exact HK.out))));have n1_ := z0j (IsS78.below (by repeat (first|(with_reducible first|exact HI0.out|apply IsS78.alloc|apply IsS78.drewN|apply IsS78.drew|apply IsS78.set_1|apply IsS78.set_2)|exact HI0.out)) hb);have n2_ := z0j (KeepBut.trans (by repeat (first|(with_reducible first|exact HK.out|apply KeepBut.set_|apply keep_drewN|apply keep_drew|apply keep_alloc)|exact HK.out)) (KeepBut.of_below hb g none) (.inl rfl));have n3_ := z0j (y6j (by repeat (first|(with_reducible first|exact HB.out|apply z4j|apply z5j|apply z6j|refine z7j ?_ (IsS78.ge HI0.out))|exact HB.out)) hb);clear HI0;clear HK;clear HB;have HO289 := n0_;have HI0 := n1_;have HK := n2_;have HB := n3_;clear n0_ n1_ n2_ n3_;(try clear hb);(try clear hk);(try clear hi);(try clear ho0)))
   go_ret
   exact ⟨_, by first |rfl|(simp [errW_none, errW_some] <;> rfl)|(simp [*, errW_none, errW_some] <;> rfl), by (with_reducible repeat (first|apply z8j|apply z9j|apply y1j));exact HO289.out, by repeat (first|(with_reducible first|exact HI0.out|apply IsS78.alloc|apply IsS78.drewN|apply IsS78.drew|apply IsS78.set_1|apply IsS78.set_2)|exact HI0.out), by repeat (first|(with_reducible first|exact HB.out|apply z4j|apply z5j|apply z6j|refine z7j ?_ (IsS78.ge HI0.out))|exact HB.out), by repeat (first|(with_reducible first|exact HK.out|apply KeepBut.set_|apply keep_drewN|apply keep_drew|apply keep_alloc)|exact HK.out)⟩
  ·rw [if_neg c7] at H
   have c7b0 : (t281 == 1) = false := beq_eq_false_iff_ne.mpr c7
   have c7b1 : (t281 != 1) = true := bne_iff_ne.mpr c7
   by_cases c11 : t281 = 2
   ·rw [if_pos c11] at H
    have c11b0 : (t281 == 2) = true := beq_iff_eq.mpr c11
    have c11b1 : (t281 != 2) = false := bne_eq_false_iff_eq.mpr c11
    clear c11
    obtain ⟨y290, hy290⟩ : ∃ y_ : List (S60), y_ = (([(⟨1, 0, 8⟩ : S60), (⟨2, 0, 4⟩ : S60), (⟨(-2), 1, 2⟩ : S60), (⟨(-1), 1, 4⟩ : S60), (⟨0, 1, 8⟩ : S60), (⟨1, 1, 4⟩ : S60), (⟨2, 1, 2⟩ : S60)] : List (S60))) := ⟨_, rfl⟩
    replace H : (some (y290, t282, t283)) = some (r1, r2, r3) := by first|(rw [hy290];with_reducible exact H)|(have H2_ := (Option.bind_some _ _).symm.trans H;rw [hy290];with_reducible exact H2_)|(have H2_ := (Option.bind_some _ _).symm.trans H;with_reducible exact H2_) | with_reducible exact H|(rw [hy290];exact H)|exact H
    have Ny290 := z0j hy290
    clear hy290
    simp only [Option.some.injEq, Prod.mk.injEq] at H
    obtain ⟨rfl, rfl, rfl⟩ := H
    go_enter Try.func49, Try.ntmps49
    go_wp2_with (first|((with_reducible refine gate_callee (f := 38) rfl ?_);refine goesL_ (some 8) rfl rfl Try.func38 (by kernel_rfl) rfl #[.pointer (some ⟨g, 0, none⟩), .int .i64 4] rfl (by (try simp only [List.map_toArray, List.map_cons, List.map_nil]);first | done |rfl|(simp only [List.length_drop, List.length_take];rfl)) ?_;(with_reducible refine (spec_l01Below.calls g s0_0 s0_1 s0_2 4 t281 t282 t283 w0 _ ?side1 ?side2 A2.out).mono ?_);(case side1 => repeat (first|(with_reducible first|exact HI0.out|apply IsS78.alloc|apply IsS78.drewN|apply IsS78.drew|apply IsS78.set_1|apply IsS78.set_2)|exact HI0.out));(case side2 => repeat (first|(with_reducible first|exact HB.out|apply z4j|apply z5j|apply z6j|refine z7j ?_ (IsS78.ge HI0.out))|exact HB.out));rintro e w12 ⟨rfl, hi, hb, hk⟩;refine ⟨_, rfl, ?_⟩;have n0_ := z0j (KeepBut.trans (by repeat (first|(with_reducible first|exact HK.out|apply KeepBut.set_|apply keep_drewN|apply keep_drew|apply keep_alloc)|exact HK.out)) hk (.inl rfl));have n1_ := z0j (hb);have n2_ := z0j (hi);clear HK;clear HB;clear HI0;have HK := n0_;have HB := n1_;have HI0 := n2_;clear n0_ n1_ n2_;(try clear hb);(try clear hk);(try clear hi))|((with_reducible refine gate_dst (N := 24) rfl ?_);refine Kd.R_lit k60 _ 60 ?hg (N := 24) ?hd (xs := ([(⟨1, 0, 8⟩ : S60), (⟨2, 0, 4⟩ : S60), (⟨(-2), 1, 2⟩ : S60), (⟨(-1), 1, 4⟩ : S60), (⟨0, 1, 8⟩ : S60), (⟨1, 1, 4⟩ : S60), (⟨2, 1, 2⟩ : S60)] : List (S60))) (inner := [.int .i64 1, .int .i64 0, .int .i64 8, .int .i64 2, .int .i64 0, .int .i64 4, .int .i64 (-2), .int .i64 1, .int .i64 2, .int .i64 (-1), .int .i64 1, .int .i64 4, .int .i64 0, .int .i64 1, .int .i64 8, .int .i64 1, .int .i64 1, .int .i64 4, .int .i64 2, .int .i64 1, .int .i64 2]) (ok := fun _ => True) (okp := fun _ => True) ?hr ?hp (fun _ hk => hk) trivial (Below.refl _ _) (Nat.le_refl _) (by simp) ?_;(case hd => rfl);(case hg => rfl);(case hr => first|(go_simp;done)|(go_simp;rfl));(case hp => exact (Reps.c3 (show Kd.M k60 _ _ _ (⟨1, 0, 8⟩ : S60) [.int .i64 1, .int .i64 0, .int .i64 8] from (k60_mkM _ _ _ (⟨1, 0, 8⟩ : S60) )) (Reps.c3 (show Kd.M k60 _ _ _ (⟨2, 0, 4⟩ : S60) [.int .i64 2, .int .i64 0, .int .i64 4] from (k60_mkM _ _ _ (⟨2, 0, 4⟩ : S60) )) (Reps.c3 (show Kd.M k60 _ _ _ (⟨(-2), 1, 2⟩ : S60) [.int .i64 (-2), .int .i64 1, .int .i64 2] from (k60_mkM _ _ _ (⟨(-2), 1, 2⟩ : S60) )) (Reps.c3 (show Kd.M k60 _ _ _ (⟨(-1), 1, 4⟩ : S60) [.int .i64 (-1), .int .i64 1, .int .i64 4] from (k60_mkM _ _ _ (⟨(-1), 1, 4⟩ : S60) )) (Reps.c3 (show Kd.M k60 _ _ _ (⟨0, 1, 8⟩ : S60) [.int .i64 0, .int .i64 1, .int .i64 8] from (k60_mkM _ _ _ (⟨0, 1, 8⟩ : S60) )) (Reps.c3 (show Kd.M k60 _ _ _ (⟨1, 1, 4⟩ : S60) [.int .i64 1, .int .i64 1, .int .i64 4] from (k60_mkM _ _ _ (⟨1, 1, 4⟩ : S60) )) (Reps.c3 (show Kd.M k60 _ _ _ (⟨2, 1, 2⟩ : S60) [.int .i64 2, .int .i64 1, .int .i64 2] from (k60_mkM _ _ _ (⟨2, 1, 2⟩ : S60) )) (Reps.none _ _)))))))));intro v291 w13 ho14 hb hg_ hnew_;clear hg_ hnew_;(first | rw [← Ny290.out] at ho14|(simp only [Int.reduceToNat] at ho14;rw [← Ny290.out] at ho14));have n0_ := z0j (w1_j ho14 (keep_size (w := w) (g := g) (row := none) (by repeat (first|(with_reducible first|exact HK.out|apply KeepBut.set_|apply keep_drewN|apply keep_drew|apply keep_alloc)|exact HK.out))));have n1_ := z0j (IsS78.below (by repeat (first|(with_reducible first|exact HI0.out|apply IsS78.alloc|apply IsS78.drewN|apply IsS78.drew|apply IsS78.set_1|apply IsS78.set_2)|exact HI0.out)) hb);have n2_ := z0j (KeepBut.trans (by repeat (first|(with_reducible first|exact HK.out|apply KeepBut.set_|apply keep_drewN|apply keep_drew|apply keep_alloc)|exact HK.out)) (KeepBut.of_below hb g none) (.inl rfl));have n3_ := z0j (y6j (by repeat (first|(with_reducible first|exact HB.out|apply z4j|apply z5j|apply z6j|refine z7j ?_ (IsS78.ge HI0.out))|exact HB.out)) hb);clear HI0;clear HK;clear HB;have HO292 := n0_;have HI0 := n1_;have HK := n2_;have HB := n3_;clear n0_ n1_ n2_ n3_;clear hb ho14))
    go_ret
    exact ⟨_, by first |rfl|(simp [errW_none, errW_some] <;> rfl)|(simp [*, errW_none, errW_some] <;> rfl), by (with_reducible repeat (first|apply z8j|apply z9j|apply y1j));exact HO292.out, by repeat (first|(with_reducible first|exact HI0.out|apply IsS78.alloc|apply IsS78.drewN|apply IsS78.drew|apply IsS78.set_1|apply IsS78.set_2)|exact HI0.out), by repeat (first|(with_reducible first|exact HB.out|apply z4j|apply z5j|apply z6j|refine z7j ?_ (IsS78.ge HI0.out))|exact HB.out), by repeat (first|(with_reducible first|exact HK.out|apply KeepBut.set_|apply keep_drewN|apply keep_drew|apply keep_alloc)|exact HK.out)⟩
   ·rw [if_neg c11] at H
    have c11b0 : (t281 == 2) = false := beq_eq_false_iff_ne.mpr c11
    have c11b1 : (t281 != 2) = true := bne_iff_ne.mpr c11
    replace H := Option.bind_eq_some_iff.mp H
    obtain ⟨⟨t293, t294, t295⟩, A150, H⟩ := H
    replace H : ((spec_l01Below.f s0_0 t294 t295 4).bind fun bt299 => (spec_l4Draw.l0 k (([(⟨0, 1, wrap64 (1 + t293)⟩ : S60)] : List (S60))) bt299.1 s0_0 bt299.2.1 bt299.2.2)) = some (r1, r2, r3) := H
    have A15 := z0j A150
    clear A150
    obtain ⟨y296, hy296⟩ : ∃ y_ : List (S60), y_ = (([(⟨0, 1, wrap64 (1 + t293)⟩ : S60)] : List (S60))) := ⟨_, rfl⟩
    replace H : ((spec_l01Below.f s0_0 t294 t295 4).bind fun bt299 => (spec_l4Draw.l0 k y296 bt299.1 s0_0 bt299.2.1 bt299.2.2)) = some (r1, r2, r3) := by first|(rw [hy296];with_reducible exact H)|(have H2_ := (Option.bind_some _ _).symm.trans H;rw [hy296];with_reducible exact H2_)|(have H2_ := (Option.bind_some _ _).symm.trans H;with_reducible exact H2_) | with_reducible exact H|(rw [hy296];exact H)|exact H
    have Ny296 := z0j hy296
    clear hy296
    replace H := Option.bind_eq_some_iff.mp H
    obtain ⟨⟨t299, t300, t301⟩, A160, H⟩ := H
    replace H : (spec_l4Draw.l0 k y296 t299 s0_0 t300 t301) = some (r1, r2, r3) := H
    have A16 := z0j A160
    clear A160
    have H' := z0j H
    clear H
    go_enter Try.func49, Try.ntmps49
    go_wp2_with (first|((with_reducible refine gate_callee (f := 38) rfl ?_);refine goesL_ (some 8) rfl rfl Try.func38 (by kernel_rfl) rfl #[.pointer (some ⟨g, 0, none⟩), .int .i64 4] rfl (by (try simp only [List.map_toArray, List.map_cons, List.map_nil]);first | done |rfl|(simp only [List.length_drop, List.length_take];rfl)) ?_;(with_reducible refine (spec_l01Below.calls g s0_0 s0_1 s0_2 4 t281 t282 t283 w0 _ ?side1 ?side2 A2.out).mono ?_);(case side1 => repeat (first|(with_reducible first|exact HI0.out|apply IsS78.alloc|apply IsS78.drewN|apply IsS78.drew|apply IsS78.set_1|apply IsS78.set_2)|exact HI0.out));(case side2 => repeat (first|(with_reducible first|exact HB.out|apply z4j|apply z5j|apply z6j|refine z7j ?_ (IsS78.ge HI0.out))|exact HB.out));rintro e w17 ⟨rfl, hi, hb, hk⟩;refine ⟨_, rfl, ?_⟩;have n0_ := z0j (KeepBut.trans (by repeat (first|(with_reducible first|exact HK.out|apply KeepBut.set_|apply keep_drewN|apply keep_drew|apply keep_alloc)|exact HK.out)) hk (.inl rfl));have n1_ := z0j (hb);have n2_ := z0j (hi);clear HK;clear HB;clear HI0;have HK := n0_;have HB := n1_;have HI0 := n2_;clear n0_ n1_ n2_;(try clear hb);(try clear hk);(try clear hi))|((with_reducible refine gate_callee (f := 38) rfl ?_);refine goesL_ (some 26) rfl rfl Try.func38 (by kernel_rfl) rfl #[.pointer (some ⟨g, 0, none⟩), .int .i64 9] rfl (by (try simp only [List.map_toArray, List.map_cons, List.map_nil]);first | done |rfl|(simp only [List.length_drop, List.length_take];rfl)) ?_;(with_reducible refine (spec_l01Below.calls g s0_0 t282 t283 9 t293 t294 t295 w0 _ ?side1 ?side2 A15.out).mono ?_);(case side1 => repeat (first|(with_reducible first|exact HI0.out|apply IsS78.alloc|apply IsS78.drewN|apply IsS78.drew|apply IsS78.set_1|apply IsS78.set_2)|exact HI0.out));(case side2 => repeat (first|(with_reducible first|exact HB.out|apply z4j|apply z5j|apply z6j|refine z7j ?_ (IsS78.ge HI0.out))|exact HB.out));rintro e w18 ⟨rfl, hi, hb, hk⟩;refine ⟨_, rfl, ?_⟩;have n0_ := z0j (KeepBut.trans (by repeat (first|(with_reducible first|exact HK.out|apply KeepBut.set_|apply keep_drewN|apply keep_drew|apply keep_alloc)|exact HK.out)) hk (.inl rfl));have n1_ := z0j (hb);have n2_ := z0j (hi);clear HK;clear HB;clear HI0;have HK := n0_;have HB := n1_;have HI0 := n2_;clear n0_ n1_ n2_;(try clear hb);(try clear hk);(try clear hi))|((with_reducible refine gate_dst (N := 29) rfl ?_);refine Kd.R_lit k60 _ 60 ?hg (N := 29) ?hd (xs := ([(⟨0, 1, wrap64 (1 + t293)⟩ : S60)] : List (S60))) (inner := [.int .i64 0, .int .i64 1, .int .i64 (wrap64 (1 + t293))]) (ok := fun _ => True) (okp := fun _ => True) ?hr ?hp (fun _ hk => hk) trivial (Below.refl _ _) (Nat.le_refl _) (by simp) ?_;(case hd => rfl);(case hg => rfl);(case hr => first|(go_simp;done)|(go_simp;rfl));(case hp => exact (Reps.c3 (show Kd.M k60 _ _ _ (⟨0, 1, wrap64 (1 + t293)⟩ : S60) [.int .i64 0, .int .i64 1, .int .i64 (wrap64 (1 + t293))] from (k60_mkM _ _ _ (⟨0, 1, wrap64 (1 + t293)⟩ : S60) )) (Reps.none _ _)));intro v297 w19 ho20 hb hg_ hnew_;clear hg_ hnew_;(first | rw [← Ny296.out] at ho20|(simp only [Int.reduceToNat] at ho20;rw [← Ny296.out] at ho20));have n0_ := z0j (w1_j ho20 (keep_size (w := w) (g := g) (row := none) (by repeat (first|(with_reducible first|exact HK.out|apply KeepBut.set_|apply keep_drewN|apply keep_drew|apply keep_alloc)|exact HK.out))));have n1_ := z0j (IsS78.below (by repeat (first|(with_reducible first|exact HI0.out|apply IsS78.alloc|apply IsS78.drewN|apply IsS78.drew|apply IsS78.set_1|apply IsS78.set_2)|exact HI0.out)) hb);have n2_ := z0j (KeepBut.trans (by repeat (first|(with_reducible first|exact HK.out|apply KeepBut.set_|apply keep_drewN|apply keep_drew|apply keep_alloc)|exact HK.out)) (KeepBut.of_below hb g none) (.inl rfl));have n3_ := z0j (y6j (by repeat (first|(with_reducible first|exact HB.out|apply z4j|apply z5j|apply z6j|refine z7j ?_ (IsS78.ge HI0.out))|exact HB.out)) hb);clear HI0;clear HK;clear HB;have HO298 := n0_;have HI0 := n1_;have HK := n2_;have HB := n3_;clear n0_ n1_ n2_ n3_;clear hb ho20)|((with_reducible refine gate_callee (f := 38) rfl ?_);refine goesL_ (some 31) rfl rfl Try.func38 (by kernel_rfl) rfl #[.pointer (some ⟨g, 0, none⟩), .int .i64 4] rfl (by (try simp only [List.map_toArray, List.map_cons, List.map_nil]);first | done |rfl|(simp only [List.length_drop, List.length_take];rfl)) ?_;(with_reducible refine (spec_l01Below.calls g s0_0 t294 t295 4 t299 t300 t301 w0 _ ?side1 ?side2 A16.out).mono ?_);(case side1 => repeat (first|(with_reducible first|exact HI0.out|apply IsS78.alloc|apply IsS78.drewN|apply IsS78.drew|apply IsS78.set_1|apply IsS78.set_2)|exact HI0.out));(case side2 => repeat (first|(with_reducible first|exact HB.out|apply z4j|apply z5j|apply z6j|refine z7j ?_ (IsS78.ge HI0.out))|exact HB.out));rintro e w21 ⟨rfl, hi, hb, hk⟩;refine ⟨_, rfl, ?_⟩;have n0_ := z0j (x6j (Kd.R_keep (IsS78.apart (show IsS78 w0 _ g s0_0 t294 t295 from by repeat (first|(with_reducible first|exact HI0.out|apply IsS78.alloc|apply IsS78.drewN|apply IsS78.drew|apply IsS78.set_1|apply IsS78.set_2)|exact HI0.out)) (by (with_reducible repeat (first|apply z8j|apply z9j|apply y1j));exact HO298.out) (by decide)) hk (fun _ h => h.2)) (fun _ h => h.1));have n1_ := z0j (KeepBut.trans (by repeat (first|(with_reducible first|exact HK.out|apply KeepBut.set_|apply keep_drewN|apply keep_drew|apply keep_alloc)|exact HK.out)) hk (.inl rfl));have n2_ := z0j (hb);have n3_ := z0j (hi);clear HO298;clear HK;clear HB;clear HI0;have HO298 := n0_;have HK := n1_;have HB := n2_;have HI0 := n3_;clear n0_ n1_ n2_ n3_;(try clear hb);(try clear hk);(try clear hi)))
    go_loopg [3, 4] k (fun kq v3 v4 w' => ∃ (x3_1 : List (S60)) (x4_1 : Int) (x1001_1 : Int) (x1002_1 : Int), v4 = .int .i64 x4_1 ∧ Aside0 (spec_l4Draw.l0 kq x3_1 x4_1 s0_0 x1001_1 x1002_1 = some (r1, r2, r3)) ∧ Aside0 (kq ≤ k) ∧ Aside0 (Kd.R k60 60 w' w.heap.size (fun _ => True) v3 x3_1) ∧ Aside0 (IsS78 w0 w' g s0_0 x1001_1 x1002_1) ∧ Aside0 (KeepBut w w' g none) ∧ Aside0 (Below w0.heap.size w0 w'))
    case atStart => exact ⟨(y296), (t299), (t300), (t301), (by first |rfl|(simp;done)|(simp [*];done)), H', ⟨Nat.le_refl _⟩, ⟨by (with_reducible repeat (first|apply z8j|apply z9j|apply y1j));exact HO298.out⟩, ⟨by repeat (first|(with_reducible first|exact HI0.out|apply IsS78.alloc|apply IsS78.drewN|apply IsS78.drew|apply IsS78.set_1|apply IsS78.set_2)|exact HI0.out)⟩, ⟨by repeat (first|(with_reducible first|exact HK.out|apply KeepBut.set_|apply keep_drewN|apply keep_drew|apply keep_alloc)|exact HK.out)⟩, ⟨by repeat (first|(with_reducible first|exact HB.out|apply z4j|apply z5j|apply z6j|refine z7j ?_ (IsS78.ge HI0.out))|exact HB.out)⟩⟩
    case round =>
     clear H'
     (try clear c1);(try clear p2);(try clear c3);(try clear c3b0);(try clear c3b1);(try clear c4);(try clear c6);(try clear p6);(try clear c7);(try clear c7b0);(try clear c7b1);(try clear c11);(try clear c11b0);(try clear c11b1)
     obtain ⟨x3_1, x4_1, x1001_1, x1002_1, rfl, HA, HK1, HO_3, HI0, HK, HB⟩ := hrel
     cases gk with
     | zero => exact absurd HA.out (by simp [spec_l4Draw.l0])
     | succ k1 =>
      have H := HA.out
      clear HA
      simp only [spec_l4Draw.l0] at H
      by_cases c22 : x4_1 > 0
      ·rw [if_pos c22] at H
       have c22b0 : decide (0 < x4_1) = true := decide_eq_true c22
       clear c22
       replace H := Option.bind_eq_some_iff.mp H
       obtain ⟨⟨t302, t303, t304⟩, A230, H⟩ := H
       replace H : ((spec_l01Below.f s0_0 t303 t304 5).bind fun bt305 => ((spec_l01Below.f s0_0 bt305.2.1 bt305.2.2 30).bind fun bt308 => ((some (([] : List (S60)) : List (S60))).bind fun y312 => (if y312.length + x3_1.length < 5864062014805 then ((some (y312 ++ x3_1 : List (S60))).bind fun y315 => ((some (([(⟨wrap64 (t302 - 4), bt305.1, wrap64 (1 + bt308.1)⟩ : S60)] : List (S60)) : List (S60))).bind fun y318 => (if y315.length + y318.length < 5864062014805 then ((some (y315 ++ y318 : List (S60))).bind fun y321 => ((spec_IsKernel.f k1 y321).bind fun t324 => (if t324 = true then (spec_l4Draw.l0 k1 y321 (wrap64 (x4_1 - 1)) s0_0 bt308.2.1 bt308.2.2) else (spec_l4Draw.l0 k1 x3_1 (wrap64 (x4_1 - 1)) s0_0 bt308.2.1 bt308.2.2)))) else (none)))) else (none))))) = some (r1, r2, r3) := H
       have A23 := z0j A230
       clear A230
       replace H := Option.bind_eq_some_iff.mp H
       obtain ⟨⟨t305, t306, t307⟩, A240, H⟩ := H
       replace H : ((spec_l01Below.f s0_0 t306 t307 30).bind fun bt308 => ((some (([] : List (S60)) : List (S60))).bind fun y312 => (if y312.length + x3_1.length < 5864062014805 then ((some (y312 ++ x3_1 : List (S60))).bind fun y315 => ((some (([(⟨wrap64 (t302 - 4), t305, wrap64 (1 + bt308.1)⟩ : S60)] : List (S60)) : List (S60))).bind fun y318 => (if y315.length + y318.length < 5864062014805 then ((some (y315 ++ y318 : List (S60))).bind fun y321 => ((spec_IsKernel.f k1 y321).bind fun t324 => (if t324 = true then (spec_l4Draw.l0 k1 y321 (wrap64 (x4_1 - 1)) s0_0 bt308.2.1 bt308.2.2) else (spec_l4Draw.l0 k1 x3_1 (wrap64 (x4_1 - 1)) s0_0 bt308.2.1 bt308.2.2)))) else (none)))) else (none)))) = some (r1, r2, r3) := H
       have A24 := z0j A240
       clear A240
       replace H := Option.bind_eq_some_iff.mp H
       obtain ⟨⟨t308, t309, t310⟩, A250, H⟩ := H
       replace H : ((some (([] : List (S60)) : List (S60))).bind fun y312 => (if y312.length + x3_1.length < 5864062014805 then ((some (y312 ++ x3_1 : List (S60))).bind fun y315 => ((some (([(⟨wrap64 (t302 - 4), t305, wrap64 (1 + t308)⟩ : S60)] : List (S60)) : List (S60))).bind fun y318 => (if y315.length + y318.length < 5864062014805 then ((some (y315 ++ y318 : List (S60))).bind fun y321 => ((spec_IsKernel.f k1 y321).bind fun t324 => (if t324 = true then (spec_l4Draw.l0 k1 y321 (wrap64 (x4_1 - 1)) s0_0 t309 t310) else (spec_l4Draw.l0 k1 x3_1 (wrap64 (x4_1 - 1)) s0_0 t309 t310)))) else (none)))) else (none))) = some (r1, r2, r3) := H
       have A25 := z0j A250
       clear A250
       obtain ⟨y312, hy312⟩ : ∃ y_ : List (S60), y_ = (([] : List (S60))) := ⟨_, rfl⟩
       replace H : (if y312.length + x3_1.length < 5864062014805 then ((some (y312 ++ x3_1 : List (S60))).bind fun y315 => ((some (([(⟨wrap64 (t302 - 4), t305, wrap64 (1 + t308)⟩ : S60)] : List (S60)) : List (S60))).bind fun y318 => (if y315.length + y318.length < 5864062014805 then ((some (y315 ++ y318 : List (S60))).bind fun y321 => ((spec_IsKernel.f k1 y321).bind fun t324 => (if t324 = true then (spec_l4Draw.l0 k1 y321 (wrap64 (x4_1 - 1)) s0_0 t309 t310) else (spec_l4Draw.l0 k1 x3_1 (wrap64 (x4_1 - 1)) s0_0 t309 t310)))) else (none)))) else (none)) = some (r1, r2, r3) := by first|(rw [hy312];with_reducible exact H)|(have H2_ := (Option.bind_some _ _).symm.trans H;rw [hy312];with_reducible exact H2_)|(have H2_ := (Option.bind_some _ _).symm.trans H;with_reducible exact H2_) | with_reducible exact H|(rw [hy312];exact H)|exact H
       have Ny312 := z0j hy312
       clear hy312
       by_cases c26 : y312.length + x3_1.length < 5864062014805
       ·rw [if_pos c26] at H
        have LMc26 := z0j c26
        clear c26
        obtain ⟨y315, hy315⟩ : ∃ y_ : List (S60), y_ = (y312 ++ x3_1) := ⟨_, rfl⟩
        replace H : ((some (([(⟨wrap64 (t302 - 4), t305, wrap64 (1 + t308)⟩ : S60)] : List (S60)) : List (S60))).bind fun y318 => (if y315.length + y318.length < 5864062014805 then ((some (y315 ++ y318 : List (S60))).bind fun y321 => ((spec_IsKernel.f k1 y321).bind fun t324 => (if t324 = true then (spec_l4Draw.l0 k1 y321 (wrap64 (x4_1 - 1)) s0_0 t309 t310) else (spec_l4Draw.l0 k1 x3_1 (wrap64 (x4_1 - 1)) s0_0 t309 t310)))) else (none))) = some (r1, r2, r3) := by first|(rw [hy315];with_reducible exact H)|(have H2_ := (Option.bind_some _ _).symm.trans H;rw [hy315];with_reducible exact H2_)|(have H2_ := (Option.bind_some _ _).symm.trans H;with_reducible exact H2_) | with_reducible exact H|(rw [hy315];exact H)|exact H
        have Ny315 := z0j hy315
        clear hy315
        obtain ⟨y318, hy318⟩ : ∃ y_ : List (S60), y_ = (([(⟨wrap64 (t302 - 4), t305, wrap64 (1 + t308)⟩ : S60)] : List (S60))) := ⟨_, rfl⟩
        replace H : (if y315.length + y318.length < 5864062014805 then ((some (y315 ++ y318 : List (S60))).bind fun y321 => ((spec_IsKernel.f k1 y321).bind fun t324 => (if t324 = true then (spec_l4Draw.l0 k1 y321 (wrap64 (x4_1 - 1)) s0_0 t309 t310) else (spec_l4Draw.l0 k1 x3_1 (wrap64 (x4_1 - 1)) s0_0 t309 t310)))) else (none)) = some (r1, r2, r3) := by first|(rw [hy318];with_reducible exact H)|(have H2_ := (Option.bind_some _ _).symm.trans H;rw [hy318];with_reducible exact H2_)|(have H2_ := (Option.bind_some _ _).symm.trans H;with_reducible exact H2_) | with_reducible exact H|(rw [hy318];exact H)|exact H
        have Ny318 := z0j hy318
        clear hy318
        by_cases c27 : y315.length + y318.length < 5864062014805
        ·rw [if_pos c27] at H
         have LMc27 := z0j c27
         clear c27
         obtain ⟨y321, hy321⟩ : ∃ y_ : List (S60), y_ = (y315 ++ y318) := ⟨_, rfl⟩
         replace H : ((spec_IsKernel.f k1 y321).bind fun t324 => (if t324 = true then (spec_l4Draw.l0 k1 y321 (wrap64 (x4_1 - 1)) s0_0 t309 t310) else (spec_l4Draw.l0 k1 x3_1 (wrap64 (x4_1 - 1)) s0_0 t309 t310))) = some (r1, r2, r3) := by first|(rw [hy321];with_reducible exact H)|(have H2_ := (Option.bind_some _ _).symm.trans H;rw [hy321];with_reducible exact H2_)|(have H2_ := (Option.bind_some _ _).symm.trans H;with_reducible exact H2_) | with_reducible exact H|(rw [hy321];exact H)|exact H
         have Ny321 := z0j hy321
         clear hy321
         replace H := Option.bind_eq_some_iff.mp H
         obtain ⟨t324, A280, H⟩ := H
         replace H : (if t324 = true then (spec_l4Draw.l0 k1 y321 (wrap64 (x4_1 - 1)) s0_0 t309 t310) else (spec_l4Draw.l0 k1 x3_1 (wrap64 (x4_1 - 1)) s0_0 t309 t310)) = some (r1, r2, r3) := H
         have A28 := z0j A280
         clear A280
         by_cases c29 : t324 = true
         ·subst c29
          have H1 : (spec_l4Draw.l0 k1 y321 (wrap64 (x4_1 - 1)) s0_0 t309 t310) = some (r1, r2, r3) := by rw [if_pos rfl] at H;first|exact H|(simp only [if_true] at H ⊢;exact H)
          clear H
          have H := H1
          clear H1
          have H' := z0j H
          clear H
          try go_wp2_with (first|((with_reducible refine gate_callee (f := 38) rfl ?_);refine goesL_ (some 37) rfl rfl Try.func38 (by kernel_rfl) rfl #[.pointer (some ⟨g, 0, none⟩), .int .i64 9] rfl (by (try simp only [List.map_toArray, List.map_cons, List.map_nil]);first | done |rfl|(simp only [List.length_drop, List.length_take];rfl)) ?_;(with_reducible refine (spec_l01Below.calls g s0_0 x1001_1 x1002_1 9 t302 t303 t304 w0 _ ?side1 ?side2 A23.out).mono ?_);(case side1 => repeat (first|(with_reducible first|exact HI0.out|apply IsS78.alloc|apply IsS78.drewN|apply IsS78.drew|apply IsS78.set_1|apply IsS78.set_2)|exact HI0.out));(case side2 => repeat (first|(with_reducible first|exact HB.out|apply z4j|apply z5j|apply z6j|refine z7j ?_ (IsS78.ge HI0.out))|exact HB.out));rintro e w30 ⟨rfl, hi, hb, hk⟩;refine ⟨_, rfl, ?_⟩;have n0_ := z0j (x6j (Kd.R_keep (IsS78.apart (show IsS78 w0 _ g s0_0 x1001_1 x1002_1 from by repeat (first|(with_reducible first|exact HI0.out|apply IsS78.alloc|apply IsS78.drewN|apply IsS78.drew|apply IsS78.set_1|apply IsS78.set_2)|exact HI0.out)) (by (with_reducible repeat (first|apply z8j|apply z9j|apply y1j));exact HO_3.out) (by decide)) hk (fun _ h => h.2)) (fun _ h => h.1));have n1_ := z0j (KeepBut.trans (by repeat (first|(with_reducible first|exact HK.out|apply KeepBut.set_|apply keep_drewN|apply keep_drew|apply keep_alloc)|exact HK.out)) hk (.inl rfl));have n2_ := z0j (hb);have n3_ := z0j (hi);clear HO_3;clear HK;clear HB;clear HI0;have HO_3 := n0_;have HK := n1_;have HB := n2_;have HI0 := n3_;clear n0_ n1_ n2_ n3_;(try clear hb);(try clear hk);(try clear hi))|((with_reducible refine gate_callee (f := 38) rfl ?_);refine goesL_ (some 40) rfl rfl Try.func38 (by kernel_rfl) rfl #[.pointer (some ⟨g, 0, none⟩), .int .i64 5] rfl (by (try simp only [List.map_toArray, List.map_cons, List.map_nil]);first | done |rfl|(simp only [List.length_drop, List.length_take];rfl)) ?_;(with_reducible refine (spec_l01Below.calls g s0_0 t303 t304 5 t305 t306 t307 w0 _ ?side1 ?side2 A24.out).mono ?_);(case side1 => repeat (first|(with_reducible first|exact HI0.out|apply IsS78.alloc|apply IsS78.drewN|apply IsS78.drew|apply IsS78.set_1|apply IsS78.set_2)|exact HI0.out));(case side2 => repeat (first|(with_reducible first|exact HB.out|apply z4j|apply z5j|apply z6j|refine z7j ?_ (IsS78.ge HI0.out))|exact HB.out));rintro e w31 ⟨rfl, hi, hb, hk⟩;refine ⟨_, rfl, ?_⟩;have n0_ := z0j (x6j (Kd.R_keep (IsS78.apart (show IsS78 w0 _ g s0_0 t303 t304 from by repeat (first|(with_reducible first|exact HI0.out|apply IsS78.alloc|apply IsS78.drewN|apply IsS78.drew|apply IsS78.set_1|apply IsS78.set_2)|exact HI0.out)) (by (with_reducible repeat (first|apply z8j|apply z9j|apply y1j));exact HO_3.out) (by decide)) hk (fun _ h => h.2)) (fun _ h => h.1));have n1_ := z0j (KeepBut.trans (by repeat (first|(with_reducible first|exact HK.out|apply KeepBut.set_|apply keep_drewN|apply keep_drew|apply keep_alloc)|exact HK.out)) hk (.inl rfl));have n2_ := z0j (hb);have n3_ := z0j (hi);clear HO_3;clear HK;clear HB;clear HI0;have HO_3 := n0_;have HK := n1_;have HB := n2_;have HI0 := n3_;clear n0_ n1_ n2_ n3_;(try clear hb);(try clear hk);(try clear hi))|((with_reducible refine gate_callee (f := 38) rfl ?_);refine goesL_ (some 42) rfl rfl Try.func38 (by kernel_rfl) rfl #[.pointer (some ⟨g, 0, none⟩), .int .i64 30] rfl (by (try simp only [List.map_toArray, List.map_cons, List.map_nil]);first | done |rfl|(simp only [List.length_drop, List.length_take];rfl)) ?_;(with_reducible refine (spec_l01Below.calls g s0_0 t306 t307 30 t308 t309 t310 w0 _ ?side1 ?side2 A25.out).mono ?_);(case side1 => repeat (first|(with_reducible first|exact HI0.out|apply IsS78.alloc|apply IsS78.drewN|apply IsS78.drew|apply IsS78.set_1|apply IsS78.set_2)|exact HI0.out));(case side2 => repeat (first|(with_reducible first|exact HB.out|apply z4j|apply z5j|apply z6j|refine z7j ?_ (IsS78.ge HI0.out))|exact HB.out));rintro e w32 ⟨rfl, hi, hb, hk⟩;refine ⟨_, rfl, ?_⟩;have n0_ := z0j (x6j (Kd.R_keep (IsS78.apart (show IsS78 w0 _ g s0_0 t306 t307 from by repeat (first|(with_reducible first|exact HI0.out|apply IsS78.alloc|apply IsS78.drewN|apply IsS78.drew|apply IsS78.set_1|apply IsS78.set_2)|exact HI0.out)) (by (with_reducible repeat (first|apply z8j|apply z9j|apply y1j));exact HO_3.out) (by decide)) hk (fun _ h => h.2)) (fun _ h => h.1));have n1_ := z0j (KeepBut.trans (by repeat (first|(with_reducible first|exact HK.out|apply KeepBut.set_|apply keep_drewN|apply keep_drew|apply keep_alloc)|exact HK.out)) hk (.inl rfl));have n2_ := z0j (hb);have n3_ := z0j (hi);clear HO_3;clear HK;clear HB;clear HI0;have HO_3 := n0_;have HK := n1_;have HB := n2_;have HI0 := n3_;clear n0_ n1_ n2_ n3_;(try clear hb);(try clear hk);(try clear hi))|((with_reducible refine gate_dst (N := 5) rfl ?_);refine box_event ?hg (N := 5) ?hd (cs := #[.int .i64 0, .int .i64 0, .int .i64 0]) (t := 60) ?hr ?_;(case hd => rfl);(case hg => rfl);(case hr => first|(go_simp;done)|(go_simp;rfl));intro gb311 hg w33 hbox hb;have n0_ := z0j (Kd.R_below (Kd.R_elderB (by (with_reducible repeat (first|apply z8j|apply z9j|apply y1j));exact HO_3.out) gb311 (Nat.le_of_eq hg.symm)) hb);have n1_ := z0j (IsS78.below (by repeat (first|(with_reducible first|exact HI0.out|apply IsS78.alloc|apply IsS78.drewN|apply IsS78.drew|apply IsS78.set_1|apply IsS78.set_2)|exact HI0.out)) hb);have n2_ := z0j (KeepBut.trans (by repeat (first|(with_reducible first|exact HK.out|apply KeepBut.set_|apply keep_drewN|apply keep_drew|apply keep_alloc)|exact HK.out)) (KeepBut.of_below hb g none) (.inl rfl));have n3_ := z0j (y6j (by repeat (first|(with_reducible first|exact HB.out|apply z4j|apply z5j|apply z6j|refine z7j ?_ (IsS78.ge HI0.out))|exact HB.out)) hb);have n4_ := z0j (hbox);have n5_ := z0j ((by rw [hg];exact (keep_size (w := w) (g := g) (row := none) (by repeat (first|(with_reducible first|exact HK.out|apply KeepBut.set_|apply keep_drewN|apply keep_drew|apply keep_alloc)|exact HK.out))) : w.heap.size ≤ gb311));have n6_ := z0j ((Nat.le_trans HW0.out (by rw [hg];exact (keep_size (w := w) (g := g) (row := none) (by repeat (first|(with_reducible first|exact HK.out|apply KeepBut.set_|apply keep_drewN|apply keep_drew|apply keep_alloc)|exact HK.out))) : w.heap.size ≤ gb311) : w0.heap.size ≤ gb311));have n7_ := z0j ((by rw [hg];exact Nat.ne_of_lt (IsS78.lt (show IsS78 w0 _ g s0_0 t309 t310 from by repeat (first|(with_reducible first|exact HI0.out|apply IsS78.alloc|apply IsS78.drewN|apply IsS78.drew|apply IsS78.set_1|apply IsS78.set_2)|exact HI0.out))) : g ≠ gb311));have n8_ := z0j ((by rw [hg];exact Nat.ne_of_gt (IsS78.lt (show IsS78 w0 _ g s0_0 t309 t310 from by repeat (first|(with_reducible first|exact HI0.out|apply IsS78.alloc|apply IsS78.drewN|apply IsS78.drew|apply IsS78.set_1|apply IsS78.set_2)|exact HI0.out))) : gb311 ≠ g));clear HO_3;clear HI0;clear HK;clear HB;have HO_3 := n0_;have HI0 := n1_;have HK := n2_;have HB := n3_;have BK311 := n4_;have GW311 := n5_;have GE311 := n6_;have NB0_311 := n7_;have NB311_0 := n8_;clear n0_ n1_ n2_ n3_ n4_ n5_ n6_ n7_ n8_;clear hb hbox hg;have hnb34 := NB311_0.out;have hnc34 := NB0_311.out;have hcz35_0 : w33.cell? ⟨gb311, 0, none⟩ = some (.int .i64 0) := (x3j BK311.out 0).trans rfl;have hcz35_1 : w33.cell? ⟨gb311, 1, none⟩ = some (.int .i64 0) := (x3j BK311.out 1).trans rfl;have hcz35_2 : w33.cell? ⟨gb311, 2, none⟩ = some (.int .i64 0) := (x3j BK311.out 2).trans rfl;have hfz35_0 := blk_frozen BK311.out 0;have hfz35_1 := blk_frozen BK311.out 1;have hfz35_2 := blk_frozen BK311.out 2;obtain ⟨Ao36, co36, eo36⟩ := Kd.R_slice HO_3.out;subst eo36))
          have n0_ : Aside0 (Kd.R k60 60 (((w33.setCell ⟨gb311, 0, none⟩ (.int .i64 (wrap64 (t302 - 4)))).setCell ⟨gb311, 1, none⟩ (.int .i64 t305)).setCell ⟨gb311, 2, none⟩ (.int .i64 (wrap64 (1 + t308)))) w.heap.size (fun k_ => k_ ≠ gb311) (.slice Ao36 x3_1.length co36) x3_1) := ⟨by (with_reducible repeat (first|apply z8j|apply z9j|apply y1j));exact x6j (Kd.R_far (p := ⟨gb311, 2, none⟩) (Kd.R_far (p := ⟨gb311, 1, none⟩) (Kd.R_far (p := ⟨gb311, 0, none⟩) (x6j HO_3.out (fun k_ hk => (⟨hk, hk.2⟩ : _ ∧ k_ ≠ gb311))) (fun _ hk => hk.2) (.int .i64 (wrap64 (t302 - 4)))) (fun _ hk => hk.2) (.int .i64 t305)) (fun _ hk => hk.2) (.int .i64 (wrap64 (1 + t308)))) (fun _ hk => hk.1.2)⟩
          have n1_ : Aside0 ((((w33.setCell ⟨gb311, 0, none⟩ (.int .i64 (wrap64 (t302 - 4)))).setCell ⟨gb311, 1, none⟩ (.int .i64 t305)).setCell ⟨gb311, 2, none⟩ (.int .i64 (wrap64 (1 + t308)))).heap[gb311]? = some (.cells #[.int .i64 (wrap64 (t302 - 4)), .int .i64 t305, .int .i64 (wrap64 (1 + t308))] 60 (0, 0))) := ⟨by (with_reducible repeat (first|refine z1j ?_ _|refine z3j ?_|refine z2j ?_ _));refine blk_put (cs := #[.int .i64 (wrap64 (t302 - 4)), .int .i64 t305, .int .i64 0]) ?_ 2 _ rfl;(with_reducible repeat (first|refine z1j ?_ _|refine z3j ?_|refine z2j ?_ _));refine blk_put (cs := #[.int .i64 (wrap64 (t302 - 4)), .int .i64 0, .int .i64 0]) ?_ 1 _ rfl;(with_reducible repeat (first|refine z1j ?_ _|refine z3j ?_|refine z2j ?_ _));refine blk_put (cs := #[.int .i64 0, .int .i64 0, .int .i64 0]) ?_ 0 _ rfl;(with_reducible repeat (first|refine z1j ?_ _|refine z3j ?_|refine z2j ?_ _));exact BK311.out⟩
          have n2_ : Aside0 (IsS78 w0 (((w33.setCell ⟨gb311, 0, none⟩ (.int .i64 (wrap64 (t302 - 4)))).setCell ⟨gb311, 1, none⟩ (.int .i64 t305)).setCell ⟨gb311, 2, none⟩ (.int .i64 (wrap64 (1 + t308)))) g s0_0 t309 t310) := ⟨by repeat (first|(with_reducible first|exact HI0.out|apply IsS78.alloc|apply IsS78.drewN|apply IsS78.drew|apply IsS78.set_1|apply IsS78.set_2|refine IsS78.far ?_ NB0_311.out _)|exact HI0.out)⟩
          have n3_ : Aside0 (KeepBut w (((w33.setCell ⟨gb311, 0, none⟩ (.int .i64 (wrap64 (t302 - 4)))).setCell ⟨gb311, 1, none⟩ (.int .i64 t305)).setCell ⟨gb311, 2, none⟩ (.int .i64 (wrap64 (1 + t308)))) g none) := ⟨by repeat (first|(with_reducible first|exact HK.out|apply KeepBut.set_|apply keep_drewN|apply keep_drew|apply keep_alloc|refine keep_far ?_ GW311.out _)|exact HK.out)⟩
          have n4_ : Aside0 (Below w0.heap.size w0 (((w33.setCell ⟨gb311, 0, none⟩ (.int .i64 (wrap64 (t302 - 4)))).setCell ⟨gb311, 1, none⟩ (.int .i64 t305)).setCell ⟨gb311, 2, none⟩ (.int .i64 (wrap64 (1 + t308))))) := ⟨by repeat (first|(with_reducible first|exact HB.out|apply z4j|apply z5j|apply z6j|refine z7j ?_ (IsS78.ge HI0.out)|refine z7j ?_ GE311.out)|exact HB.out)⟩
          (try clear HO_3)
          (try clear BK311)
          (try clear HI0)
          (try clear HK)
          (try clear HB)
          generalize (((w33.setCell ⟨gb311, 0, none⟩ (.int .i64 (wrap64 (t302 - 4)))).setCell ⟨gb311, 1, none⟩ (.int .i64 t305)).setCell ⟨gb311, 2, none⟩ (.int .i64 (wrap64 (1 + t308)))) = w37 at n0_ n1_ n2_ n3_ n4_ ⊢
          have HO_3 := n0_
          have BK311 := n1_
          have HI0 := n2_
          have HK := n3_
          have HB := n4_
          clear n0_ n1_ n2_ n3_ n4_
          have n0_ := z0j (y1j HO_3.out)
          have n1_ := z0j (z3j BK311.out)
          have n2_ := z0j (IsS78.drew HI0.out)
          have n3_ := z0j (keep_drew HK.out)
          have n4_ := z0j (z6j HB.out)
          clear HO_3
          clear BK311
          clear HI0
          clear HK
          clear HB
          have HO_3 := n0_
          have BK311 := n1_
          have HI0 := n2_
          have HK := n3_
          have HB := n4_
          clear n0_ n1_ n2_ n3_ n4_
          refine start_ (n := 7) (S := fun w' => w'.cell? ⟨gb311, 0, none⟩ = some (.int .i64 (wrap64 (t302 - 4))) ∧ w'.cell? ⟨gb311, 1, none⟩ = some (.int .i64 t305) ∧ w'.cell? ⟨gb311, 2, none⟩ = some (.int .i64 (wrap64 (1 + t308)))) (ds := []) #[false, false, false, false, false, false, false] (by kernel_rfl) rfl rfl ⟨(x3j BK311.out 0).trans rfl, (x3j BK311.out 1).trans rfl, (x3j BK311.out 2).trans rfl⟩ (fun hHeld => ?_)
          generalize w37.drew = w38 at HO_3 BK311 HI0 HK HB hHeld ⊢
          refine pure_ (i := 1) (N := some 46) (v := ?_) (a' := ?_) #[false, true, false, false, false, false, false] rfl rfl (by kernel_rfl) (fun _ _ _ h => h) (Or.inl ⟨by rfl, ?_⟩) ?_ ?_
          rotate_left
          ·intro w'
           go_simp
           with_reducible rfl
          rotate_left
          ·simp only [Act.put, s1j_, s2j_, s3j_, i64_w, i32_w]
           rfl
          refine take_ (i := 3) (N := some 48) (v := ?_) (a' := ?_) #[false, true, false, true, false, false, false] rfl rfl (by kernel_rfl) (fun _ _ _ h => h) (Or.inl ⟨by rfl, ?_⟩) hHeld ?_ ?_
          rotate_left
          ·rintro w' ⟨s0, s1, s2⟩
           go_simp
           with_reducible rfl
          rotate_left
          ·simp only [Act.put, s1j_, s2j_, s3j_, i64_w, i32_w]
           rfl
          refine join_ (σ := Value × Value × Value) 2 #[true, true, true, true, true, false, false] (fun s_ => [(45, s_.1), (47, s_.2.1), (49, s_.2.2)]) (fun s_ w' => (w'.cell? ⟨gb311, 0, none⟩ = some (.int .i64 (wrap64 (t302 - 4))) ∧ w'.cell? ⟨gb311, 1, none⟩ = some (.int .i64 t305) ∧ w'.cell? ⟨gb311, 2, none⟩ = some (.int .i64 (wrap64 (1 + t308)))) ∧ (Kd.R k60 60 w' w.heap.size (fun k_ => some k_ ≠ (s_.2.2 : Value).ownBlock ∧ some k_ ≠ (.slice Ao36 x3_1.length co36 : Value).ownBlock ∧ k_ ≠ gb311) s_.2.1 y315) ∧ (Kd.R k60 60 w' w.heap.size (fun k_ => some k_ ≠ (s_.2.1 : Value).ownBlock ∧ some k_ ≠ (.slice Ao36 x3_1.length co36 : Value).ownBlock ∧ k_ ≠ gb311) s_.2.2 y318) ∧ (Kd.R k60 60 w' w.heap.size (fun k_ => some k_ ≠ (s_.2.1 : Value).ownBlock ∧ some k_ ≠ (s_.2.2 : Value).ownBlock ∧ k_ ≠ gb311) (.slice Ao36 x3_1.length co36) x3_1) ∧ (w'.heap[gb311]? = some (.cells #[.int .i64 (wrap64 (t302 - 4)), .int .i64 t305, .int .i64 (wrap64 (1 + t308))] 60 (0, 0))) ∧ (IsS78 w0 w' g s0_0 t309 t310) ∧ (KeepBut w w' g none) ∧ (Below w0.heap.size w0 w')) ?_ ?_
          rotate_left
          ·intro hCont
           refine two_ (i := 0) (j := 4) (Ni := some 45) (Nj := some 49) #[true, true, false, true, false, false, false] #[false, true, false, true, true, false, false] rfl rfl rfl rfl (by kernel_rfl) (by decide) (by decide) (fun K hK => ?_) (fun K hK => ?_)
           ·skip
            refine Kd.R_lit_step k60 _ 60 ?hg (N := 45) ?hd (xs := ([] : List (S60))) (inner := []) (ok := fun _ => True) (okp := fun _ => True) ?hr ?hp (fun _ hk => hk) trivial (Below.refl _ _) (Nat.le_refl _) (by simp) ?_;(case hd => rfl);(case hg => rfl);(case hr => first|(go_simp;done)|(go_simp;rfl));(case hp => exact (Reps.none _ _))
            intro v313 w39 ho40 hb hg_ hnew_
            clear hg_ hnew_
            (first | rw [← Ny312.out] at ho40|(simp only [Int.reduceToNat] at ho40;rw [← Ny312.out] at ho40))
            have n0_ := z0j (y8j (by (with_reducible repeat (first|apply z8j|apply z9j|apply y1j));exact HO_3.out) (w2_j ho40) hb)
            have n1_ := z0j (w1_j (Kd.R_newB (Kd.R_new' ho40 (Kd.R_lt (by (with_reducible repeat (first|apply z8j|apply z9j|apply y1j));exact HO_3.out))) (g := gb311) (o := .cells #[.int .i64 (wrap64 (t302 - 4)), .int .i64 t305, .int .i64 (wrap64 (1 + t308))] 60 (0, 0)) (by (with_reducible repeat (first|refine z1j ?_ _|refine z3j ?_|refine z2j ?_ _));exact BK311.out)) (keep_size (w := w) (g := g) (row := none) (by repeat (first|(with_reducible first|exact HK.out|apply KeepBut.set_|apply keep_drewN|apply keep_drew|apply keep_alloc|refine keep_far ?_ GW311.out _)|exact HK.out))))
            have n2_ := z0j (IsS78.below (by repeat (first|(with_reducible first|exact HI0.out|apply IsS78.alloc|apply IsS78.drewN|apply IsS78.drew|apply IsS78.set_1|apply IsS78.set_2|refine IsS78.far ?_ NB0_311.out _)|exact HI0.out)) hb)
            have n3_ := z0j (y5j (g := gb311) (o := .cells #[.int .i64 (wrap64 (t302 - 4)), .int .i64 t305, .int .i64 (wrap64 (1 + t308))] 60 (0, 0)) (by (with_reducible repeat (first|refine z1j ?_ _|refine z3j ?_|refine z2j ?_ _));exact BK311.out) hb)
            have n4_ := z0j (KeepBut.trans (by repeat (first|(with_reducible first|exact HK.out|apply KeepBut.set_|apply keep_drewN|apply keep_drew|apply keep_alloc|refine keep_far ?_ GW311.out _)|exact HK.out)) (KeepBut.of_below hb g none) (.inl rfl))
            have n5_ := z0j (y6j (by repeat (first|(with_reducible first|exact HB.out|apply z4j|apply z5j|apply z6j|refine z7j ?_ (IsS78.ge HI0.out)|refine z7j ?_ GE311.out)|exact HB.out)) hb)
            clear HO_3
            clear HI0
            clear BK311
            clear HK
            clear HB
            have HO_3 := n0_
            have HO314 := n1_
            have HI0 := n2_
            have BK311 := n3_
            have HK := n4_
            have HB := n5_
            clear n0_ n1_ n2_ n3_ n4_ n5_
            clear hb ho40
            refine hK.out _ _ ⟨(x3j BK311.out 0).trans rfl, (x3j BK311.out 1).trans rfl, (x3j BK311.out 2).trans rfl⟩ (fun hHeld => ?_)
            clear hK K
            refine norm_ (a' := ?_) ?_ ?_
            rotate_left
            ·show Act.put _ (some 45) _ = _
             simp only [Act.put, s1j_, s2j_, s3j_, i64_w, i32_w]
             rfl
            refine two_ (i := 2) (j := 4) (Ni := some 47) (Nj := some 49) #[true, true, true, true, false, false, false] #[true, true, false, true, true, false, false] rfl rfl rfl rfl (by kernel_rfl) (by decide) (by decide) (fun K hK => ?_) (fun K hK => ?_)
            ·skip
             refine Kd.R_append_rows_step k60 w.heap.size (by rfl) (.tmp 45) (.tmp 46) 23 60 (.agg #[(.int .i64 0), (.int .i64 0), (.int .i64 0)]) 24 rfl Try.underlying23 info60 rfl (by decide) (by omega) v313 y312 x3_1 _ _ _ (fun k_ => some k_ ≠ (.slice Ao36 x3_1.length co36 : Value).ownBlock ∧ k_ ≠ gb311) (fun _ => False) rfl rfl ?aO ?aR (fun _ _ h => h) (fun _ h => h.elim) ?aF (Below.refl _ _) ?aS ?aL ?_
             (case aR => repeat (first|exact (x5j HO_3.out).2.2|(with_reducible refine y2j ?_ _)|(with_reducible refine y3j ?_ _)|(with_reducible refine y4j ?_)))
             (case aF => exact (fun k_ hk => ⟨Kd.fresh' (Kd.R_lt (by (with_reducible repeat (first|apply z8j|apply z9j|apply y1j));exact HO_3.out)) k_ hk, Kd.freshB (g := gb311) (o := .cells #[.int .i64 (wrap64 (t302 - 4)), .int .i64 t305, .int .i64 (wrap64 (1 + t308))] 60 (0, 0)) (by (with_reducible repeat (first|refine z1j ?_ _|refine z3j ?_|refine z2j ?_ _));exact BK311.out) k_ hk⟩))
             (case aO => exact (by (with_reducible repeat (first|apply z8j|apply z9j|apply y1j));exact x6j HO314.out (fun _ hk => ⟨hk.1.2, hk.2⟩)))
             (case aS => exact (keep_size (w := w) (g := g) (row := none) (by repeat (first|(with_reducible first|exact HK.out|apply KeepBut.set_|apply keep_drewN|apply keep_drew|apply keep_alloc|refine keep_far ?_ GW311.out _)|exact HK.out))))
             (case aL => have := LMc26.out;omega)
             intro v316 w41 ho hb hg hat
             rw [← Ny315.out] at ho
             have n0_ := z0j (Kd.R_after (ok := (fun k_ => k_ ≠ gb311)) (by (with_reducible repeat (first|apply z8j|apply z9j|apply y1j));exact HO_3.out) hg hat)
             have n1_ := z0j (IsS78.grown (by repeat (first|(with_reducible first|exact HI0.out|apply IsS78.alloc|apply IsS78.drewN|apply IsS78.drew|apply IsS78.set_1|apply IsS78.set_2|refine IsS78.far ?_ NB0_311.out _)|exact HI0.out)) hg (IsS78.own_ne HI0.out HO314.out (by decide)))
             have n2_ := z0j (blk_grown (g := gb311) (o := .cells #[.int .i64 (wrap64 (t302 - 4)), .int .i64 t305, .int .i64 (wrap64 (1 + t308))] 60 (0, 0)) (by (with_reducible repeat (first|refine z1j ?_ _|refine z3j ?_|refine z2j ?_ _));exact BK311.out) hg (Kd.R_away HO314.out (fun _ hk => hk.2)))
             have n3_ := z0j (below_weaken (by repeat (first|(with_reducible first|exact HB.out|apply z4j|apply z5j|apply z6j|refine z7j ?_ (IsS78.ge HI0.out)|refine z7j ?_ GE311.out)|exact HB.out)) HL.out hb)
             have n4_ := z0j (KeepBut.trans (by repeat (first|(with_reducible first|exact HK.out|apply KeepBut.set_|apply keep_drewN|apply keep_drew|apply keep_alloc|refine keep_far ?_ GW311.out _)|exact HK.out)) (KeepBut.of_grown hg g) (Kd.R_base2 HO314.out))
             have n5_ := z0j (ho)
             clear HO_3
             clear HI0
             clear BK311
             clear HB
             clear HK
             clear HO314
             have HO_3 := n0_
             have HI0 := n1_
             have BK311 := n2_
             have HB := n3_
             have HK := n4_
             have HO317 := n5_
             clear n0_ n1_ n2_ n3_ n4_ n5_
             clear ho hb hg hat
             refine hK.out _ _ ⟨(x3j BK311.out 0).trans rfl, (x3j BK311.out 1).trans rfl, (x3j BK311.out 2).trans rfl⟩ (fun hHeld => ?_)
             clear hK K
             refine norm_ (a' := ?_) ?_ ?_
             rotate_left
             ·show Act.put _ (some 47) _ = _
              simp only [Act.put, s1j_, s2j_, s3j_, i64_w, i32_w]
              rfl
             refine one_ (i := 4) (N := some 49) #[true, true, true, true, true, false, false] rfl rfl (by kernel_rfl) (by decide) (fun K hK => ?_)
             refine Kd.R_lit_step k60 _ 60 ?hg (N := 49) ?hd (xs := ([(⟨wrap64 (t302 - 4), t305, wrap64 (1 + t308)⟩ : S60)] : List (S60))) (inner := [.int .i64 (wrap64 (t302 - 4)), .int .i64 t305, .int .i64 (wrap64 (1 + t308))]) (ok := fun _ => True) (okp := fun _ => True) ?hr ?hp (fun _ hk => hk) trivial (Below.refl _ _) (Nat.le_refl _) (by simp) ?_;(case hd => rfl);(case hg => rfl);(case hr => first|(go_simp;done)|(go_simp;rfl));(case hp => exact (Reps.c3 (show Kd.M k60 _ _ _ (⟨wrap64 (t302 - 4), t305, wrap64 (1 + t308)⟩ : S60) [.int .i64 (wrap64 (t302 - 4)), .int .i64 t305, .int .i64 (wrap64 (1 + t308))] from (k60_mkM _ _ _ (⟨wrap64 (t302 - 4), t305, wrap64 (1 + t308)⟩ : S60) )) (Reps.none _ _)))
             intro v319 w42 ho43 hb hg_ hnew_
             clear hg_ hnew_
             (first | rw [← Ny318.out] at ho43|(simp only [Int.reduceToNat] at ho43;rw [← Ny318.out] at ho43))
             have n0_ := z0j (y8j (by (with_reducible repeat (first|apply z8j|apply z9j|apply y1j));exact HO_3.out) (w2_j ho43) hb)
             have n1_ := z0j (y8j (by (with_reducible repeat (first|apply z8j|apply z9j|apply y1j));exact HO317.out) (w2_j ho43) hb)
             have n2_ := z0j (w1_j (Kd.R_newB (Kd.R_new' (Kd.R_new' ho43 (Kd.R_lt (by (with_reducible repeat (first|apply z8j|apply z9j|apply y1j));exact HO_3.out))) (Kd.R_lt (by (with_reducible repeat (first|apply z8j|apply z9j|apply y1j));exact HO317.out))) (g := gb311) (o := .cells #[.int .i64 (wrap64 (t302 - 4)), .int .i64 t305, .int .i64 (wrap64 (1 + t308))] 60 (0, 0)) (by (with_reducible repeat (first|refine z1j ?_ _|refine z3j ?_|refine z2j ?_ _));exact BK311.out)) (keep_size (w := w) (g := g) (row := none) (by repeat (first|(with_reducible first|exact HK.out|apply KeepBut.set_|apply keep_drewN|apply keep_drew|apply keep_alloc|refine keep_far ?_ GW311.out _)|exact HK.out))))
             have n3_ := z0j (IsS78.below (by repeat (first|(with_reducible first|exact HI0.out|apply IsS78.alloc|apply IsS78.drewN|apply IsS78.drew|apply IsS78.set_1|apply IsS78.set_2|refine IsS78.far ?_ NB0_311.out _)|exact HI0.out)) hb)
             have n4_ := z0j (y5j (g := gb311) (o := .cells #[.int .i64 (wrap64 (t302 - 4)), .int .i64 t305, .int .i64 (wrap64 (1 + t308))] 60 (0, 0)) (by (with_reducible repeat (first|refine z1j ?_ _|refine z3j ?_|refine z2j ?_ _));exact BK311.out) hb)
             have n5_ := z0j (KeepBut.trans (by repeat (first|(with_reducible first|exact HK.out|apply KeepBut.set_|apply keep_drewN|apply keep_drew|apply keep_alloc|refine keep_far ?_ GW311.out _)|exact HK.out)) (KeepBut.of_below hb g none) (.inl rfl))
             have n6_ := z0j (y6j (by repeat (first|(with_reducible first|exact HB.out|apply z4j|apply z5j|apply z6j|refine z7j ?_ (IsS78.ge HI0.out)|refine z7j ?_ GE311.out)|exact HB.out)) hb)
             clear HO_3
             clear HO317
             clear HI0
             clear BK311
             clear HK
             clear HB
             have HO_3 := n0_
             have HO317 := n1_
             have HO320 := n2_
             have HI0 := n3_
             have BK311 := n4_
             have HK := n5_
             have HB := n6_
             clear n0_ n1_ n2_ n3_ n4_ n5_ n6_
             clear hb ho43
             refine hK.out _ _ ⟨(x3j BK311.out 0).trans rfl, (x3j BK311.out 1).trans rfl, (x3j BK311.out 2).trans rfl⟩ (fun hHeld => ?_)
             clear hK K
             refine norm_ (a' := ?_) ?_ ?_
             rotate_left
             ·show Act.put _ (some 49) _ = _
              simp only [Act.put, s1j_, s2j_, s3j_, i64_w, i32_w]
              rfl
             exact norm_ (by simp only [putAll, Act.put, s1j_, s2j_, s3j_]) (hCont (v313, v316, v319) _ ⟨hHeld, (by (with_reducible repeat (first|apply z8j|apply z9j|apply y1j));exact x6j HO317.out (fun _ hk => ⟨hk.2, ⟨hk.1.1, hk.1.2⟩⟩)), (by (with_reducible repeat (first|apply z8j|apply z9j|apply y1j));exact x6j HO320.out (fun _ hk => ⟨hk.1.2, ⟨hk.1.1.2, hk.2⟩⟩)), (by (with_reducible repeat (first|apply z8j|apply z9j|apply y1j));exact x6j HO_3.out (fun _ hk => ⟨hk.1.2, ⟨hk.2, hk.1.1⟩⟩)), (by (with_reducible repeat (first|refine z1j ?_ _|refine z3j ?_|refine z2j ?_ _));exact BK311.out), (by repeat (first|(with_reducible first|exact HI0.out|apply IsS78.alloc|apply IsS78.drewN|apply IsS78.drew|apply IsS78.set_1|apply IsS78.set_2|refine IsS78.far ?_ NB0_311.out _)|exact HI0.out)), (by repeat (first|(with_reducible first|exact HK.out|apply KeepBut.set_|apply keep_drewN|apply keep_drew|apply keep_alloc|refine keep_far ?_ GW311.out _)|exact HK.out)), (by repeat (first|(with_reducible first|exact HB.out|apply z4j|apply z5j|apply z6j|refine z7j ?_ (IsS78.ge HI0.out)|refine z7j ?_ GE311.out)|exact HB.out))⟩)
            ·skip
             refine Kd.R_lit_step k60 _ 60 ?hg (N := 49) ?hd (xs := ([(⟨wrap64 (t302 - 4), t305, wrap64 (1 + t308)⟩ : S60)] : List (S60))) (inner := [.int .i64 (wrap64 (t302 - 4)), .int .i64 t305, .int .i64 (wrap64 (1 + t308))]) (ok := fun _ => True) (okp := fun _ => True) ?hr ?hp (fun _ hk => hk) trivial (Below.refl _ _) (Nat.le_refl _) (by simp) ?_;(case hd => rfl);(case hg => rfl);(case hr => first|(go_simp;done)|(go_simp;rfl));(case hp => exact (Reps.c3 (show Kd.M k60 _ _ _ (⟨wrap64 (t302 - 4), t305, wrap64 (1 + t308)⟩ : S60) [.int .i64 (wrap64 (t302 - 4)), .int .i64 t305, .int .i64 (wrap64 (1 + t308))] from (k60_mkM _ _ _ (⟨wrap64 (t302 - 4), t305, wrap64 (1 + t308)⟩ : S60) )) (Reps.none _ _)))
             intro v319 w41 ho42 hb hg_ hnew_
             clear hg_ hnew_
             (first | rw [← Ny318.out] at ho42|(simp only [Int.reduceToNat] at ho42;rw [← Ny318.out] at ho42))
             have n0_ := z0j (y8j (by (with_reducible repeat (first|apply z8j|apply z9j|apply y1j));exact HO_3.out) (w2_j ho42) hb)
             have n1_ := z0j (y8j (by (with_reducible repeat (first|apply z8j|apply z9j|apply y1j));exact HO314.out) (w2_j ho42) hb)
             have n2_ := z0j (w1_j (Kd.R_newB (Kd.R_new' (Kd.R_new' ho42 (Kd.R_lt (by (with_reducible repeat (first|apply z8j|apply z9j|apply y1j));exact HO_3.out))) (Kd.R_lt (by (with_reducible repeat (first|apply z8j|apply z9j|apply y1j));exact HO314.out))) (g := gb311) (o := .cells #[.int .i64 (wrap64 (t302 - 4)), .int .i64 t305, .int .i64 (wrap64 (1 + t308))] 60 (0, 0)) (by (with_reducible repeat (first|refine z1j ?_ _|refine z3j ?_|refine z2j ?_ _));exact BK311.out)) (keep_size (w := w) (g := g) (row := none) (by repeat (first|(with_reducible first|exact HK.out|apply KeepBut.set_|apply keep_drewN|apply keep_drew|apply keep_alloc|refine keep_far ?_ GW311.out _)|exact HK.out))))
             have n3_ := z0j (IsS78.below (by repeat (first|(with_reducible first|exact HI0.out|apply IsS78.alloc|apply IsS78.drewN|apply IsS78.drew|apply IsS78.set_1|apply IsS78.set_2|refine IsS78.far ?_ NB0_311.out _)|exact HI0.out)) hb)
             have n4_ := z0j (y5j (g := gb311) (o := .cells #[.int .i64 (wrap64 (t302 - 4)), .int .i64 t305, .int .i64 (wrap64 (1 + t308))] 60 (0, 0)) (by (with_reducible repeat (first|refine z1j ?_ _|refine z3j ?_|refine z2j ?_ _));exact BK311.out) hb)
             have n5_ := z0j (KeepBut.trans (by repeat (first|(with_reducible first|exact HK.out|apply KeepBut.set_|apply keep_drewN|apply keep_drew|apply keep_alloc|refine keep_far ?_ GW311.out _)|exact HK.out)) (KeepBut.of_below hb g none) (.inl rfl))
             have n6_ := z0j (y6j (by repeat (first|(with_reducible first|exact HB.out|apply z4j|apply z5j|apply z6j|refine z7j ?_ (IsS78.ge HI0.out)|refine z7j ?_ GE311.out)|exact HB.out)) hb)
             clear HO_3
             clear HO314
             clear HI0
             clear BK311
             clear HK
             clear HB
             have HO_3 := n0_
             have HO314 := n1_
             have HO320 := n2_
             have HI0 := n3_
             have BK311 := n4_
             have HK := n5_
             have HB := n6_
             clear n0_ n1_ n2_ n3_ n4_ n5_ n6_
             clear hb ho42
             refine hK.out _ _ ⟨(x3j BK311.out 0).trans rfl, (x3j BK311.out 1).trans rfl, (x3j BK311.out 2).trans rfl⟩ (fun hHeld => ?_)
             clear hK K
             refine norm_ (a' := ?_) ?_ ?_
             rotate_left
             ·show Act.put _ (some 49) _ = _
              simp only [Act.put, s1j_, s2j_, s3j_, i64_w, i32_w]
              rfl
             refine one_ (i := 2) (N := some 47) #[true, true, true, true, true, false, false] rfl rfl (by kernel_rfl) (by decide) (fun K hK => ?_)
             refine Kd.R_append_rows_step k60 w.heap.size (by rfl) (.tmp 45) (.tmp 46) 23 60 (.agg #[(.int .i64 0), (.int .i64 0), (.int .i64 0)]) 24 rfl Try.underlying23 info60 rfl (by decide) (by omega) v313 y312 x3_1 _ _ _ (fun k_ => some k_ ≠ (.slice Ao36 x3_1.length co36 : Value).ownBlock ∧ some k_ ≠ (v319 : Value).ownBlock ∧ k_ ≠ gb311) (fun _ => False) rfl rfl ?aO ?aR (fun _ _ h => h) (fun _ h => h.elim) ?aF (Below.refl _ _) ?aS ?aL ?_
             (case aR => repeat (first|exact (x5j HO_3.out).2.2|(with_reducible refine y2j ?_ _)|(with_reducible refine y3j ?_ _)|(with_reducible refine y4j ?_)))
             (case aF => exact (fun k_ hk => ⟨Kd.fresh' (Kd.R_lt (by (with_reducible repeat (first|apply z8j|apply z9j|apply y1j));exact HO_3.out)) k_ hk, Kd.fresh' (Kd.R_lt (by (with_reducible repeat (first|apply z8j|apply z9j|apply y1j));exact HO320.out)) k_ hk, Kd.freshB (g := gb311) (o := .cells #[.int .i64 (wrap64 (t302 - 4)), .int .i64 t305, .int .i64 (wrap64 (1 + t308))] 60 (0, 0)) (by (with_reducible repeat (first|refine z1j ?_ _|refine z3j ?_|refine z2j ?_ _));exact BK311.out) k_ hk⟩))
             (case aO => exact (by (with_reducible repeat (first|apply z8j|apply z9j|apply y1j));exact x6j HO314.out (fun _ hk => ⟨hk.1.1.2, ⟨hk.2, hk.1.2⟩⟩)))
             (case aS => exact (keep_size (w := w) (g := g) (row := none) (by repeat (first|(with_reducible first|exact HK.out|apply KeepBut.set_|apply keep_drewN|apply keep_drew|apply keep_alloc|refine keep_far ?_ GW311.out _)|exact HK.out))))
             (case aL => have := LMc26.out;omega)
             intro v316 w43 ho hb hg hat
             rw [← Ny315.out] at ho
             have n0_ := z0j (Kd.R_after (ok := (fun k_ => some k_ ≠ (v319 : Value).ownBlock ∧ k_ ≠ gb311)) (by (with_reducible repeat (first|apply z8j|apply z9j|apply y1j));exact x6j HO_3.out (fun _ hk => ⟨⟨hk.2, hk.1.1⟩, hk.1.2⟩)) hg hat)
             have n1_ := z0j (IsS78.grown (by repeat (first|(with_reducible first|exact HI0.out|apply IsS78.alloc|apply IsS78.drewN|apply IsS78.drew|apply IsS78.set_1|apply IsS78.set_2|refine IsS78.far ?_ NB0_311.out _)|exact HI0.out)) hg (IsS78.own_ne HI0.out HO314.out (by decide)))
             have n2_ := z0j (blk_grown (g := gb311) (o := .cells #[.int .i64 (wrap64 (t302 - 4)), .int .i64 t305, .int .i64 (wrap64 (1 + t308))] 60 (0, 0)) (by (with_reducible repeat (first|refine z1j ?_ _|refine z3j ?_|refine z2j ?_ _));exact BK311.out) hg (Kd.R_away HO314.out (fun _ hk => hk.1.2)))
             have n3_ := z0j (Kd.R_after (ok := (fun k_ => some k_ ≠ (.slice Ao36 x3_1.length co36 : Value).ownBlock ∧ k_ ≠ gb311)) (by (with_reducible repeat (first|apply z8j|apply z9j|apply y1j));exact x6j HO320.out (fun _ hk => ⟨⟨hk.1.1.2, hk.2⟩, hk.1.2⟩)) hg hat)
             have n4_ := z0j (below_weaken (by repeat (first|(with_reducible first|exact HB.out|apply z4j|apply z5j|apply z6j|refine z7j ?_ (IsS78.ge HI0.out)|refine z7j ?_ GE311.out)|exact HB.out)) HL.out hb)
             have n5_ := z0j (KeepBut.trans (by repeat (first|(with_reducible first|exact HK.out|apply KeepBut.set_|apply keep_drewN|apply keep_drew|apply keep_alloc|refine keep_far ?_ GW311.out _)|exact HK.out)) (KeepBut.of_grown hg g) (Kd.R_base2 HO314.out))
             have n6_ := z0j (ho)
             clear HO_3
             clear HI0
             clear BK311
             clear HO320
             clear HB
             clear HK
             clear HO314
             have HO_3 := n0_
             have HI0 := n1_
             have BK311 := n2_
             have HO320 := n3_
             have HB := n4_
             have HK := n5_
             have HO317 := n6_
             clear n0_ n1_ n2_ n3_ n4_ n5_ n6_
             clear ho hb hg hat
             refine hK.out _ _ ⟨(x3j BK311.out 0).trans rfl, (x3j BK311.out 1).trans rfl, (x3j BK311.out 2).trans rfl⟩ (fun hHeld => ?_)
             clear hK K
             refine norm_ (a' := ?_) ?_ ?_
             rotate_left
             ·show Act.put _ (some 47) _ = _
              simp only [Act.put, s1j_, s2j_, s3j_, i64_w, i32_w]
              rfl
             exact norm_ (by simp only [putAll, Act.put, s1j_, s2j_, s3j_]) (hCont (v313, v316, v319) _ ⟨hHeld, (by (with_reducible repeat (first|apply z8j|apply z9j|apply y1j));exact x6j HO317.out (fun _ hk => ⟨hk.2.1, ⟨hk.1, hk.2.2⟩⟩)), (by (with_reducible repeat (first|apply z8j|apply z9j|apply y1j));exact x6j HO320.out (fun _ hk => ⟨hk.2, ⟨hk.1.1, hk.1.2⟩⟩)), (by (with_reducible repeat (first|apply z8j|apply z9j|apply y1j));exact x6j HO_3.out (fun _ hk => ⟨hk.2, ⟨hk.1.1, hk.1.2⟩⟩)), (by (with_reducible repeat (first|refine z1j ?_ _|refine z3j ?_|refine z2j ?_ _));exact BK311.out), (by repeat (first|(with_reducible first|exact HI0.out|apply IsS78.alloc|apply IsS78.drewN|apply IsS78.drew|apply IsS78.set_1|apply IsS78.set_2|refine IsS78.far ?_ NB0_311.out _)|exact HI0.out)), (by repeat (first|(with_reducible first|exact HK.out|apply KeepBut.set_|apply keep_drewN|apply keep_drew|apply keep_alloc|refine keep_far ?_ GW311.out _)|exact HK.out)), (by repeat (first|(with_reducible first|exact HB.out|apply z4j|apply z5j|apply z6j|refine z7j ?_ (IsS78.ge HI0.out)|refine z7j ?_ GE311.out)|exact HB.out))⟩)
           ·skip
            refine Kd.R_lit_step k60 _ 60 ?hg (N := 49) ?hd (xs := ([(⟨wrap64 (t302 - 4), t305, wrap64 (1 + t308)⟩ : S60)] : List (S60))) (inner := [.int .i64 (wrap64 (t302 - 4)), .int .i64 t305, .int .i64 (wrap64 (1 + t308))]) (ok := fun _ => True) (okp := fun _ => True) ?hr ?hp (fun _ hk => hk) trivial (Below.refl _ _) (Nat.le_refl _) (by simp) ?_;(case hd => rfl);(case hg => rfl);(case hr => first|(go_simp;done)|(go_simp;rfl));(case hp => exact (Reps.c3 (show Kd.M k60 _ _ _ (⟨wrap64 (t302 - 4), t305, wrap64 (1 + t308)⟩ : S60) [.int .i64 (wrap64 (t302 - 4)), .int .i64 t305, .int .i64 (wrap64 (1 + t308))] from (k60_mkM _ _ _ (⟨wrap64 (t302 - 4), t305, wrap64 (1 + t308)⟩ : S60) )) (Reps.none _ _)))
            intro v319 w39 ho40 hb hg_ hnew_
            clear hg_ hnew_
            (first | rw [← Ny318.out] at ho40|(simp only [Int.reduceToNat] at ho40;rw [← Ny318.out] at ho40))
            have n0_ := z0j (y8j (by (with_reducible repeat (first|apply z8j|apply z9j|apply y1j));exact HO_3.out) (w2_j ho40) hb)
            have n1_ := z0j (w1_j (Kd.R_newB (Kd.R_new' ho40 (Kd.R_lt (by (with_reducible repeat (first|apply z8j|apply z9j|apply y1j));exact HO_3.out))) (g := gb311) (o := .cells #[.int .i64 (wrap64 (t302 - 4)), .int .i64 t305, .int .i64 (wrap64 (1 + t308))] 60 (0, 0)) (by (with_reducible repeat (first|refine z1j ?_ _|refine z3j ?_|refine z2j ?_ _));exact BK311.out)) (keep_size (w := w) (g := g) (row := none) (by repeat (first|(with_reducible first|exact HK.out|apply KeepBut.set_|apply keep_drewN|apply keep_drew|apply keep_alloc|refine keep_far ?_ GW311.out _)|exact HK.out))))
            have n2_ := z0j (IsS78.below (by repeat (first|(with_reducible first|exact HI0.out|apply IsS78.alloc|apply IsS78.drewN|apply IsS78.drew|apply IsS78.set_1|apply IsS78.set_2|refine IsS78.far ?_ NB0_311.out _)|exact HI0.out)) hb)
            have n3_ := z0j (y5j (g := gb311) (o := .cells #[.int .i64 (wrap64 (t302 - 4)), .int .i64 t305, .int .i64 (wrap64 (1 + t308))] 60 (0, 0)) (by (with_reducible repeat (first|refine z1j ?_ _|refine z3j ?_|refine z2j ?_ _));exact BK311.out) hb)
            have n4_ := z0j (KeepBut.trans (by repeat (first|(with_reducible first|exact HK.out|apply KeepBut.set_|apply keep_drewN|apply keep_drew|apply keep_alloc|refine keep_far ?_ GW311.out _)|exact HK.out)) (KeepBut.of_below hb g none) (.inl rfl))
            have n5_ := z0j (y6j (by repeat (first|(with_reducible first|exact HB.out|apply z4j|apply z5j|apply z6j|refine z7j ?_ (IsS78.ge HI0.out)|refine z7j ?_ GE311.out)|exact HB.out)) hb)
            clear HO_3
            clear HI0
            clear BK311
            clear HK
            clear HB
            have HO_3 := n0_
            have HO320 := n1_
            have HI0 := n2_
            have BK311 := n3_
            have HK := n4_
            have HB := n5_
            clear n0_ n1_ n2_ n3_ n4_ n5_
            clear hb ho40
            refine hK.out _ _ ⟨(x3j BK311.out 0).trans rfl, (x3j BK311.out 1).trans rfl, (x3j BK311.out 2).trans rfl⟩ (fun hHeld => ?_)
            clear hK K
            refine norm_ (a' := ?_) ?_ ?_
            rotate_left
            ·show Act.put _ (some 49) _ = _
             simp only [Act.put, s1j_, s2j_, s3j_, i64_w, i32_w]
             rfl
            refine one_ (i := 0) (N := some 45) #[true, true, false, true, true, false, false] rfl rfl (by kernel_rfl) (by decide) (fun K hK => ?_)
            refine Kd.R_lit_step k60 _ 60 ?hg (N := 45) ?hd (xs := ([] : List (S60))) (inner := []) (ok := fun _ => True) (okp := fun _ => True) ?hr ?hp (fun _ hk => hk) trivial (Below.refl _ _) (Nat.le_refl _) (by simp) ?_;(case hd => rfl);(case hg => rfl);(case hr => first|(go_simp;done)|(go_simp;rfl));(case hp => exact (Reps.none _ _))
            intro v313 w41 ho42 hb hg_ hnew_
            clear hg_ hnew_
            (first | rw [← Ny312.out] at ho42|(simp only [Int.reduceToNat] at ho42;rw [← Ny312.out] at ho42))
            have n0_ := z0j (y8j (by (with_reducible repeat (first|apply z8j|apply z9j|apply y1j));exact HO_3.out) (w2_j ho42) hb)
            have n1_ := z0j (y8j (by (with_reducible repeat (first|apply z8j|apply z9j|apply y1j));exact HO320.out) (w2_j ho42) hb)
            have n2_ := z0j (w1_j (Kd.R_newB (Kd.R_new' (Kd.R_new' ho42 (Kd.R_lt (by (with_reducible repeat (first|apply z8j|apply z9j|apply y1j));exact HO_3.out))) (Kd.R_lt (by (with_reducible repeat (first|apply z8j|apply z9j|apply y1j));exact HO320.out))) (g := gb311) (o := .cells #[.int .i64 (wrap64 (t302 - 4)), .int .i64 t305, .int .i64 (wrap64 (1 + t308))] 60 (0, 0)) (by (with_reducible repeat (first|refine z1j ?_ _|refine z3j ?_|refine z2j ?_ _));exact BK311.out)) (keep_size (w := w) (g := g) (row := none) (by repeat (first|(with_reducible first|exact HK.out|apply KeepBut.set_|apply keep_drewN|apply keep_drew|apply keep_alloc|refine keep_far ?_ GW311.out _)|exact HK.out))))
            have n3_ := z0j (IsS78.below (by repeat (first|(with_reducible first|exact HI0.out|apply IsS78.alloc|apply IsS78.drewN|apply IsS78.drew|apply IsS78.set_1|apply IsS78.set_2|refine IsS78.far ?_ NB0_311.out _)|exact HI0.out)) hb)
            have n4_ := z0j (y5j (g := gb311) (o := .cells #[.int .i64 (wrap64 (t302 - 4)), .int .i64 t305, .int .i64 (wrap64 (1 + t308))] 60 (0, 0)) (by (with_reducible repeat (first|refine z1j ?_ _|refine z3j ?_|refine z2j ?_ _));exact BK311.out) hb)
            have n5_ := z0j (KeepBut.trans (by repeat (first|(with_reducible first|exact HK.out|apply KeepBut.set_|apply keep_drewN|apply keep_drew|apply keep_alloc|refine keep_far ?_ GW311.out _)|exact HK.out)) (KeepBut.of_below hb g none) (.inl rfl))
            have n6_ := z0j (y6j (by repeat (first|(with_reducible first|exact HB.out|apply z4j|apply z5j|apply z6j|refine z7j ?_ (IsS78.ge HI0.out)|refine z7j ?_ GE311.out)|exact HB.out)) hb)
            clear HO_3
            clear HO320
            clear HI0
            clear BK311
            clear HK
            clear HB
            have HO_3 := n0_
            have HO320 := n1_
            have HO314 := n2_
            have HI0 := n3_
            have BK311 := n4_
            have HK := n5_
            have HB := n6_
            clear n0_ n1_ n2_ n3_ n4_ n5_ n6_
            clear hb ho42
            refine hK.out _ _ ⟨(x3j BK311.out 0).trans rfl, (x3j BK311.out 1).trans rfl, (x3j BK311.out 2).trans rfl⟩ (fun hHeld => ?_)
            clear hK K
            refine norm_ (a' := ?_) ?_ ?_
            rotate_left
            ·show Act.put _ (some 45) _ = _
             simp only [Act.put, s1j_, s2j_, s3j_, i64_w, i32_w]
             rfl
            refine one_ (i := 2) (N := some 47) #[true, true, true, true, true, false, false] rfl rfl (by kernel_rfl) (by decide) (fun K hK => ?_)
            refine Kd.R_append_rows_step k60 w.heap.size (by rfl) (.tmp 45) (.tmp 46) 23 60 (.agg #[(.int .i64 0), (.int .i64 0), (.int .i64 0)]) 24 rfl Try.underlying23 info60 rfl (by decide) (by omega) v313 y312 x3_1 _ _ _ (fun k_ => some k_ ≠ (.slice Ao36 x3_1.length co36 : Value).ownBlock ∧ some k_ ≠ (v319 : Value).ownBlock ∧ k_ ≠ gb311) (fun _ => False) rfl rfl ?aO ?aR (fun _ _ h => h) (fun _ h => h.elim) ?aF (Below.refl _ _) ?aS ?aL ?_
            (case aR => repeat (first|exact (x5j HO_3.out).2.2|(with_reducible refine y2j ?_ _)|(with_reducible refine y3j ?_ _)|(with_reducible refine y4j ?_)))
            (case aF => exact (fun k_ hk => ⟨Kd.fresh' (Kd.R_lt (by (with_reducible repeat (first|apply z8j|apply z9j|apply y1j));exact HO_3.out)) k_ hk, Kd.fresh' (Kd.R_lt (by (with_reducible repeat (first|apply z8j|apply z9j|apply y1j));exact HO320.out)) k_ hk, Kd.freshB (g := gb311) (o := .cells #[.int .i64 (wrap64 (t302 - 4)), .int .i64 t305, .int .i64 (wrap64 (1 + t308))] 60 (0, 0)) (by (with_reducible repeat (first|refine z1j ?_ _|refine z3j ?_|refine z2j ?_ _));exact BK311.out) k_ hk⟩))
            (case aO => exact (by (with_reducible repeat (first|apply z8j|apply z9j|apply y1j));exact x6j HO314.out (fun _ hk => ⟨hk.1.1.2, ⟨hk.1.2, hk.2⟩⟩)))
            (case aS => exact (keep_size (w := w) (g := g) (row := none) (by repeat (first|(with_reducible first|exact HK.out|apply KeepBut.set_|apply keep_drewN|apply keep_drew|apply keep_alloc|refine keep_far ?_ GW311.out _)|exact HK.out))))
            (case aL => have := LMc26.out;omega)
            intro v316 w43 ho hb hg hat
            rw [← Ny315.out] at ho
            have n0_ := z0j (Kd.R_after (ok := (fun k_ => some k_ ≠ (v319 : Value).ownBlock ∧ k_ ≠ gb311)) (by (with_reducible repeat (first|apply z8j|apply z9j|apply y1j));exact x6j HO_3.out (fun _ hk => ⟨⟨hk.1.2, hk.1.1⟩, hk.2⟩)) hg hat)
            have n1_ := z0j (IsS78.grown (by repeat (first|(with_reducible first|exact HI0.out|apply IsS78.alloc|apply IsS78.drewN|apply IsS78.drew|apply IsS78.set_1|apply IsS78.set_2|refine IsS78.far ?_ NB0_311.out _)|exact HI0.out)) hg (IsS78.own_ne HI0.out HO314.out (by decide)))
            have n2_ := z0j (blk_grown (g := gb311) (o := .cells #[.int .i64 (wrap64 (t302 - 4)), .int .i64 t305, .int .i64 (wrap64 (1 + t308))] 60 (0, 0)) (by (with_reducible repeat (first|refine z1j ?_ _|refine z3j ?_|refine z2j ?_ _));exact BK311.out) hg (Kd.R_away HO314.out (fun _ hk => hk.2)))
            have n3_ := z0j (Kd.R_after (ok := (fun k_ => some k_ ≠ (.slice Ao36 x3_1.length co36 : Value).ownBlock ∧ k_ ≠ gb311)) (by (with_reducible repeat (first|apply z8j|apply z9j|apply y1j));exact x6j HO320.out (fun _ hk => ⟨⟨hk.1.1.2, hk.1.2⟩, hk.2⟩)) hg hat)
            have n4_ := z0j (below_weaken (by repeat (first|(with_reducible first|exact HB.out|apply z4j|apply z5j|apply z6j|refine z7j ?_ (IsS78.ge HI0.out)|refine z7j ?_ GE311.out)|exact HB.out)) HL.out hb)
            have n5_ := z0j (KeepBut.trans (by repeat (first|(with_reducible first|exact HK.out|apply KeepBut.set_|apply keep_drewN|apply keep_drew|apply keep_alloc|refine keep_far ?_ GW311.out _)|exact HK.out)) (KeepBut.of_grown hg g) (Kd.R_base2 HO314.out))
            have n6_ := z0j (ho)
            clear HO_3
            clear HI0
            clear BK311
            clear HO320
            clear HB
            clear HK
            clear HO314
            have HO_3 := n0_
            have HI0 := n1_
            have BK311 := n2_
            have HO320 := n3_
            have HB := n4_
            have HK := n5_
            have HO317 := n6_
            clear n0_ n1_ n2_ n3_ n4_ n5_ n6_
            clear ho hb hg hat
            refine hK.out _ _ ⟨(x3j BK311.out 0).trans rfl, (x3j BK311.out 1).trans rfl, (x3j BK311.out 2).trans rfl⟩ (fun hHeld => ?_)
            clear hK K
            refine norm_ (a' := ?_) ?_ ?_
            rotate_left
            ·show Act.put _ (some 47) _ = _
             simp only [Act.put, s1j_, s2j_, s3j_, i64_w, i32_w]
             rfl
            exact norm_ (by simp only [putAll, Act.put, s1j_, s2j_, s3j_]) (hCont (v313, v316, v319) _ ⟨hHeld, (by (with_reducible repeat (first|apply z8j|apply z9j|apply y1j));exact x6j HO317.out (fun _ hk => ⟨hk.2.1, ⟨hk.1, hk.2.2⟩⟩)), (by (with_reducible repeat (first|apply z8j|apply z9j|apply y1j));exact x6j HO320.out (fun _ hk => ⟨hk.2, ⟨hk.1.1, hk.1.2⟩⟩)), (by (with_reducible repeat (first|apply z8j|apply z9j|apply y1j));exact x6j HO_3.out (fun _ hk => ⟨hk.2, ⟨hk.1.1, hk.1.2⟩⟩)), (by (with_reducible repeat (first|refine z1j ?_ _|refine z3j ?_|refine z2j ?_ _));exact BK311.out), (by repeat (first|(with_reducible first|exact HI0.out|apply IsS78.alloc|apply IsS78.drewN|apply IsS78.drew|apply IsS78.set_1|apply IsS78.set_2|refine IsS78.far ?_ NB0_311.out _)|exact HI0.out)), (by repeat (first|(with_reducible first|exact HK.out|apply KeepBut.set_|apply keep_drewN|apply keep_drew|apply keep_alloc|refine keep_far ?_ GW311.out _)|exact HK.out)), (by repeat (first|(with_reducible first|exact HB.out|apply z4j|apply z5j|apply z6j|refine z7j ?_ (IsS78.ge HI0.out)|refine z7j ?_ GE311.out)|exact HB.out))⟩)
          rintro ⟨v313, v316, v319⟩ w44 ⟨hS_, h0_, h1_, h2_, h3_, h4_, h5_, h6_⟩
          have n0_ : Aside0 (Kd.R k60 60 w44 w.heap.size (fun k_ => some k_ ≠ (v319 : Value).ownBlock ∧ some k_ ≠ (.slice Ao36 x3_1.length co36 : Value).ownBlock ∧ k_ ≠ gb311) v316 y315) := ⟨h0_⟩
          have n1_ : Aside0 (Kd.R k60 60 w44 w.heap.size (fun k_ => some k_ ≠ (v316 : Value).ownBlock ∧ some k_ ≠ (.slice Ao36 x3_1.length co36 : Value).ownBlock ∧ k_ ≠ gb311) v319 y318) := ⟨h1_⟩
          have n2_ : Aside0 (Kd.R k60 60 w44 w.heap.size (fun k_ => some k_ ≠ (v316 : Value).ownBlock ∧ some k_ ≠ (v319 : Value).ownBlock ∧ k_ ≠ gb311) (.slice Ao36 x3_1.length co36) x3_1) := ⟨h2_⟩
          have n3_ : Aside0 (w44.heap[gb311]? = some (.cells #[.int .i64 (wrap64 (t302 - 4)), .int .i64 t305, .int .i64 (wrap64 (1 + t308))] 60 (0, 0))) := ⟨h3_⟩
          have n4_ : Aside0 (IsS78 w0 w44 g s0_0 t309 t310) := ⟨h4_⟩
          have n5_ : Aside0 (KeepBut w w44 g none) := ⟨h5_⟩
          have n6_ : Aside0 (Below w0.heap.size w0 w44) := ⟨h6_⟩
          clear HO_3
          clear BK311
          clear HI0
          clear HK
          clear HB
          clear h0_ h1_ h2_ h3_ h4_ h5_ h6_
          have HO317 := n0_
          have HO320 := n1_
          have HO_3 := n2_
          have BK311 := n3_
          have HI0 := n4_
          have HK := n5_
          have HB := n6_
          clear n0_ n1_ n2_ n3_ n4_ n5_ n6_
          have hHeld : w44.cell? ⟨gb311, 0, none⟩ = some (.int .i64 (wrap64 (t302 - 4))) ∧ w44.cell? ⟨gb311, 1, none⟩ = some (.int .i64 t305) ∧ w44.cell? ⟨gb311, 2, none⟩ = some (.int .i64 (wrap64 (1 + t308))) := hS_
          obtain ⟨Ao46, co46, eo46⟩ := Kd.R_slice HO320.out
          (first | subst eo46|(injection eo46 with f1_ f2_ f3_;have f4_ := f1_.symm;have f5_ := f3_.symm;clear f1_ f2_ f3_;subst f4_;subst f5_))
          refine norm_ (a' := ?_) ?_ ?_
          rotate_left
          ·simp only [putAll, Act.put, s1j_, s2j_, s3j_]
           rfl
          refine one_ (i := 5) (N := some 50) #[true, true, true, true, true, true, false] rfl rfl (by kernel_rfl) (by decide) (fun K hK => ?_)
          refine Kd.R_append_rows_step k60 w.heap.size (by rfl) (.tmp 47) (.tmp 49) 23 60 (.agg #[(.int .i64 0), (.int .i64 0), (.int .i64 0)]) 24 rfl Try.underlying23 info60 rfl (by decide) (by omega) v316 y315 y318 _ _ _ (fun k_ => some k_ ≠ (.slice Ao36 x3_1.length co36 : Value).ownBlock ∧ some k_ ≠ (.slice Ao46 y318.length co46 : Value).ownBlock ∧ k_ ≠ gb311) (fun _ => False) rfl rfl ?aO ?aR (fun _ _ h => h) (fun _ h => h.elim) ?aF (Below.refl _ _) ?aS ?aL ?_
          (case aR => repeat (first|exact (x5j HO320.out).2.2|(with_reducible refine y2j ?_ _)|(with_reducible refine y3j ?_ _)|(with_reducible refine y4j ?_)))
          (case aF => exact (fun k_ hk => ⟨Kd.fresh' (Kd.R_lt (by (with_reducible repeat (first|apply z8j|apply z9j|apply y1j));exact HO_3.out)) k_ hk, Kd.fresh' (Kd.R_lt (by (with_reducible repeat (first|apply z8j|apply z9j|apply y1j));exact HO320.out)) k_ hk, Kd.freshB (g := gb311) (o := .cells #[.int .i64 (wrap64 (t302 - 4)), .int .i64 t305, .int .i64 (wrap64 (1 + t308))] 60 (0, 0)) (by (with_reducible repeat (first|refine z1j ?_ _|refine z3j ?_|refine z2j ?_ _));exact BK311.out) k_ hk⟩))
          (case aO => exact (by (with_reducible repeat (first|apply z8j|apply z9j|apply y1j));exact x6j HO317.out (fun _ hk => ⟨hk.2.1, ⟨hk.1, hk.2.2⟩⟩)))
          (case aS => exact (keep_size (w := w) (g := g) (row := none) (by repeat (first|(with_reducible first|exact HK.out|apply KeepBut.set_|apply keep_drewN|apply keep_drew|apply keep_alloc|refine keep_far ?_ GW311.out _)|exact HK.out))))
          (case aL => have := LMc27.out;omega)
          intro v322 w45 ho hb hg hat
          rw [← Ny321.out] at ho
          have n0_ := z0j (Kd.R_after (ok := (fun k_ => some k_ ≠ (.slice Ao46 y318.length co46 : Value).ownBlock ∧ k_ ≠ gb311)) (by (with_reducible repeat (first|apply z8j|apply z9j|apply y1j));exact x6j HO_3.out (fun _ hk => ⟨⟨hk.2.1, hk.2.2⟩, hk.1⟩)) hg hat)
          have n1_ := z0j (IsS78.grown (by repeat (first|(with_reducible first|exact HI0.out|apply IsS78.alloc|apply IsS78.drewN|apply IsS78.drew|apply IsS78.set_1|apply IsS78.set_2|refine IsS78.far ?_ NB0_311.out _)|exact HI0.out)) hg (IsS78.own_ne HI0.out HO317.out (by decide)))
          have n2_ := z0j (blk_grown (g := gb311) (o := .cells #[.int .i64 (wrap64 (t302 - 4)), .int .i64 t305, .int .i64 (wrap64 (1 + t308))] 60 (0, 0)) (by (with_reducible repeat (first|refine z1j ?_ _|refine z3j ?_|refine z2j ?_ _));exact BK311.out) hg (Kd.R_away HO317.out (fun _ hk => hk.2.2)))
          have n3_ := z0j (Kd.R_after (ok := (fun k_ => some k_ ≠ (.slice Ao36 x3_1.length co36 : Value).ownBlock ∧ k_ ≠ gb311)) (by (with_reducible repeat (first|apply z8j|apply z9j|apply y1j));exact x6j HO320.out (fun _ hk => ⟨⟨hk.2.1, hk.2.2⟩, hk.1⟩)) hg hat)
          have n4_ := z0j (below_weaken (by repeat (first|(with_reducible first|exact HB.out|apply z4j|apply z5j|apply z6j|refine z7j ?_ (IsS78.ge HI0.out)|refine z7j ?_ GE311.out)|exact HB.out)) HL.out hb)
          have n5_ := z0j (KeepBut.trans (by repeat (first|(with_reducible first|exact HK.out|apply KeepBut.set_|apply keep_drewN|apply keep_drew|apply keep_alloc|refine keep_far ?_ GW311.out _)|exact HK.out)) (KeepBut.of_grown hg g) (Kd.R_base2 HO317.out))
          have n6_ := z0j (ho)
          clear HO_3
          clear HI0
          clear BK311
          clear HO320
          clear HB
          clear HK
          clear HO317
          have HO_3 := n0_
          have HI0 := n1_
          have BK311 := n2_
          have HO320 := n3_
          have HB := n4_
          have HK := n5_
          have HO323 := n6_
          clear n0_ n1_ n2_ n3_ n4_ n5_ n6_
          clear ho hb hg hat
          refine hK.out _ _ ⟨(x3j BK311.out 0).trans rfl, (x3j BK311.out 1).trans rfl, (x3j BK311.out 2).trans rfl⟩ (fun hHeld => ?_)
          clear hK K
          refine norm_ (a' := ?_) ?_ ?_
          rotate_left
          ·show Act.put _ (some 50) _ = _
           simp only [Act.put, s1j_, s2j_, s3j_, i64_w, i32_w]
           rfl
          refine pure_ (i := 6) (N := some 6) (v := ?_) (a' := ?_) #[true, true, true, true, true, true, true] rfl rfl (by kernel_rfl) (fun _ _ _ h => h) (Or.inl ⟨by rfl, ?_⟩) ?_ ?_
          rotate_left
          ·intro w'
           go_simp
           with_reducible rfl
          rotate_left
          ·simp only [Act.put, s1j_, s2j_, s3j_, i64_w, i32_w]
           rfl
          refine done_ (by kernel_rfl) ?_
          obtain ⟨Ao47, co47, eo47⟩ := Kd.R_slice HO323.out
          subst eo47
          try go_wp2_with (first|((with_reducible refine gate_callee (f := 39) rfl ?_);refine goesL_ (some 52) rfl rfl Try.func39 (by kernel_rfl) rfl #[.slice Ao47 y321.length co47] rfl (by (try simp only [List.map_toArray, List.map_cons, List.map_nil]);first | done |rfl|(simp only [List.length_drop, List.length_take];rfl)) ?_;(with_reducible refine (spec_IsKernel.calls k1 _ _ y321 true _ ?side1 ?side2 A28.out).mono ?_);(case side1 => repeat (first|exact (x5j HO323.out).2.2|(with_reducible refine y2j ?_ _)|(with_reducible refine y3j ?_ _)|(with_reducible refine y4j ?_)));(case side2 => exact (x5j HO323.out).2.1);rintro e w48 ⟨rfl, hb⟩;refine ⟨_, rfl, ?_⟩;have n0_ := z0j (Kd.R_below (by (with_reducible repeat (first|apply z8j|apply z9j|apply y1j));exact HO_3.out) hb);have n1_ := z0j (Kd.R_below (by (with_reducible repeat (first|apply z8j|apply z9j|apply y1j));exact HO320.out) hb);have n2_ := z0j (Kd.R_below (by (with_reducible repeat (first|apply z8j|apply z9j|apply y1j));exact HO323.out) hb);have n3_ := z0j (IsS78.below (by repeat (first|(with_reducible first|exact HI0.out|apply IsS78.alloc|apply IsS78.drewN|apply IsS78.drew|apply IsS78.set_1|apply IsS78.set_2|refine IsS78.far ?_ NB0_311.out _)|exact HI0.out)) hb);have n4_ := z0j (y5j (g := gb311) (o := .cells #[.int .i64 (wrap64 (t302 - 4)), .int .i64 t305, .int .i64 (wrap64 (1 + t308))] 60 (0, 0)) (by (with_reducible repeat (first|refine z1j ?_ _|refine z3j ?_|refine z2j ?_ _));exact BK311.out) hb);have n5_ := z0j (KeepBut.trans (by repeat (first|(with_reducible first|exact HK.out|apply KeepBut.set_|apply keep_drewN|apply keep_drew|apply keep_alloc|refine keep_far ?_ GW311.out _)|exact HK.out)) (KeepBut.of_below hb g none) (.inl rfl));have n6_ := z0j (y6j (by repeat (first|(with_reducible first|exact HB.out|apply z4j|apply z5j|apply z6j|refine z7j ?_ (IsS78.ge HI0.out)|refine z7j ?_ GE311.out)|exact HB.out)) hb);clear HO_3;clear HO320;clear HO323;clear HI0;clear BK311;clear HK;clear HB;have HO_3 := n0_;have HO320 := n1_;have HO323 := n2_;have HI0 := n3_;have BK311 := n4_;have HK := n5_;have HB := n6_;clear n0_ n1_ n2_ n3_ n4_ n5_ n6_;(try clear hb);(try clear hk);(try clear hi)))
          go_roundg k1
          case measure => have := HK1.out;omega
          case rel => exact ⟨(y321), (wrap64 (x4_1 - 1)), (t309), (t310), (by first |rfl|(simp;done)|(simp [*];done)), H', ⟨by have := HK1.out;omega⟩, ⟨by (with_reducible repeat (first|apply z8j|apply z9j|apply y1j));exact x6j HO323.out (fun _ hk => trivial)⟩, ⟨by repeat (first|(with_reducible first|exact HI0.out|apply IsS78.alloc|apply IsS78.drewN|apply IsS78.drew|apply IsS78.set_1|apply IsS78.set_2|refine IsS78.far ?_ NB0_311.out _)|exact HI0.out)⟩, ⟨by repeat (first|(with_reducible first|exact HK.out|apply KeepBut.set_|apply keep_drewN|apply keep_drew|apply keep_alloc|refine keep_far ?_ GW311.out _)|exact HK.out)⟩, ⟨by repeat (first|(with_reducible first|exact HB.out|apply z4j|apply z5j|apply z6j|refine z7j ?_ (IsS78.ge HI0.out)|refine z7j ?_ GE311.out)|exact HB.out)⟩⟩
         ·replace c29 := Bool.eq_false_iff.mpr c29
          subst c29
          have H1 : (spec_l4Draw.l0 k1 x3_1 (wrap64 (x4_1 - 1)) s0_0 t309 t310) = some (r1, r2, r3) := by rw [if_neg (show ¬ (false = true) by decide)] at H;first|exact H|(simp only [if_true] at H ⊢;exact H)
          clear H
          have H := H1
          clear H1
          have H' := z0j H
          clear H
          try go_wp2_with (first|((with_reducible refine gate_callee (f := 38) rfl ?_);refine goesL_ (some 37) rfl rfl Try.func38 (by kernel_rfl) rfl #[.pointer (some ⟨g, 0, none⟩), .int .i64 9] rfl (by (try simp only [List.map_toArray, List.map_cons, List.map_nil]);first | done |rfl|(simp only [List.length_drop, List.length_take];rfl)) ?_;(with_reducible refine (spec_l01Below.calls g s0_0 x1001_1 x1002_1 9 t302 t303 t304 w0 _ ?side1 ?side2 A23.out).mono ?_);(case side1 => repeat (first|(with_reducible first|exact HI0.out|apply IsS78.alloc|apply IsS78.drewN|apply IsS78.drew|apply IsS78.set_1|apply IsS78.set_2)|exact HI0.out));(case side2 => repeat (first|(with_reducible first|exact HB.out|apply z4j|apply z5j|apply z6j|refine z7j ?_ (IsS78.ge HI0.out))|exact HB.out));rintro e w49 ⟨rfl, hi, hb, hk⟩;refine ⟨_, rfl, ?_⟩;have n0_ := z0j (x6j (Kd.R_keep (IsS78.apart (show IsS78 w0 _ g s0_0 x1001_1 x1002_1 from by repeat (first|(with_reducible first|exact HI0.out|apply IsS78.alloc|apply IsS78.drewN|apply IsS78.drew|apply IsS78.set_1|apply IsS78.set_2)|exact HI0.out)) (by (with_reducible repeat (first|apply z8j|apply z9j|apply y1j));exact HO_3.out) (by decide)) hk (fun _ h => h.2)) (fun _ h => h.1));have n1_ := z0j (KeepBut.trans (by repeat (first|(with_reducible first|exact HK.out|apply KeepBut.set_|apply keep_drewN|apply keep_drew|apply keep_alloc)|exact HK.out)) hk (.inl rfl));have n2_ := z0j (hb);have n3_ := z0j (hi);clear HO_3;clear HK;clear HB;clear HI0;have HO_3 := n0_;have HK := n1_;have HB := n2_;have HI0 := n3_;clear n0_ n1_ n2_ n3_;(try clear hb);(try clear hk);(try clear hi))|((with_reducible refine gate_callee (f := 38) rfl ?_);refine goesL_ (some 40) rfl rfl Try.func38 (by kernel_rfl) rfl #[.pointer (some ⟨g, 0, none⟩), .int .i64 5] rfl (by (try simp only [List.map_toArray, List.map_cons, List.map_nil]);first | done |rfl|(simp only [List.length_drop, List.length_take];rfl)) ?_;(with_reducible refine (spec_l01Below.calls g s0_0 t303 t304 5 t305 t306 t307 w0 _ ?side1 ?side2 A24.out).mono ?_);(case side1 => repeat (first|(with_reducible first|exact HI0.out|apply IsS78.alloc|apply IsS78.drewN|apply IsS78.drew|apply IsS78.set_1|apply IsS78.set_2)|exact HI0.out));(case side2 => repeat (first|(with_reducible first|exact HB.out|apply z4j|apply z5j|apply z6j|refine z7j ?_ (IsS78.ge HI0.out))|exact HB.out));rintro e w50 ⟨rfl, hi, hb, hk⟩;refine ⟨_, rfl, ?_⟩;have n0_ := z0j (x6j (Kd.R_keep (IsS78.apart (show IsS78 w0 _ g s0_0 t303 t304 from by repeat (first|(with_reducible first|exact HI0.out|apply IsS78.alloc|apply IsS78.drewN|apply IsS78.drew|apply IsS78.set_1|apply IsS78.set_2)|exact HI0.out)) (by (with_reducible repeat (first|apply z8j|apply z9j|apply y1j));exact HO_3.out) (by decide)) hk (fun _ h => h.2)) (fun _ h => h.1));have n1_ := z0j (KeepBut.trans (by repeat (first|(with_reducible first|exact HK.out|apply KeepBut.set_|apply keep_drewN|apply keep_drew|apply keep_alloc)|exact HK.out)) hk (.inl rfl));have n2_ := z0j (hb);have n3_ := z0j (hi);clear HO_3;clear HK;clear HB;clear HI0;have HO_3 := n0_;have HK := n1_;have HB := n2_;have HI0 := n3_;clear n0_ n1_ n2_ n3_;(try clear hb);(try clear hk);(try clear hi))|((with_reducible refine gate_callee (f := 38) rfl ?_);refine goesL_ (some 42) rfl rfl Try.func38 (by kernel_rfl) rfl #[.pointer (some ⟨g, 0, none⟩), .int .i64 30] rfl (by (try simp only [List.map_toArray, List.map_cons, List.map_nil]);first | done |rfl|(simp only [List.length_drop, List.length_take];rfl)) ?_;(with_reducible refine (spec_l01Below.calls g s0_0 t306 t307 30 t308 t309 t310 w0 _ ?side1 ?side2 A25.out).mono ?_);(case side1 => repeat (first|(with_reducible first|exact HI0.out|apply IsS78.alloc|apply IsS78.drewN|apply IsS78.drew|apply IsS78.set_1|apply IsS78.set_2)|exact HI0.out));(case side2 => repeat (first|(with_reducible first|exact HB.out|apply z4j|apply z5j|apply z6j|refine z7j ?_ (IsS78.ge HI0.out))|exact HB.out));rintro e w51 ⟨rfl, hi, hb, hk⟩;refine ⟨_, rfl, ?_⟩;have n0_ := z0j (x6j (Kd.R_keep (IsS78.apart (show IsS78 w0 _ g s0_0 t306 t307 from by repeat (first|(with_reducible first|exact HI0.out|apply IsS78.alloc|apply IsS78.drewN|apply IsS78.drew|apply IsS78.set_1|apply IsS78.set_2)|exact HI0.out)) (by (with_reducible repeat (first|apply z8j|apply z9j|apply y1j));exact HO_3.out) (by decide)) hk (fun _ h => h.2)) (fun _ h => h.1));have n1_ := z0j (KeepBut.trans (by repeat (first|(with_reducible first|exact HK.out|apply KeepBut.set_|apply keep_drewN|apply keep_drew|apply keep_alloc)|exact HK.out)) hk (.inl rfl));have n2_ := z0j (hb);have n3_ := z0j (hi);clear HO_3;clear HK;clear HB;clear HI0;have HO_3 := n0_;have HK := n1_;have HB := n2_;have HI0 := n3_;clear n0_ n1_ n2_ n3_;(try clear hb);(try clear hk);(try clear hi))|((with_reducible refine gate_dst (N := 5) rfl ?_);refine box_event ?hg (N := 5) ?hd (cs := #[.int .i64 0, .int .i64 0, .int .i64 0]) (t := 60) ?hr ?_;(case hd => rfl);(case hg => rfl);(case hr => first|(go_simp;done)|(go_simp;rfl));intro gb311 hg w52 hbox hb;have n0_ := z0j (Kd.R_below (Kd.R_elderB (by (with_reducible repeat (first|apply z8j|apply z9j|apply y1j));exact HO_3.out) gb311 (Nat.le_of_eq hg.symm)) hb);have n1_ := z0j (IsS78.below (by repeat (first|(with_reducible first|exact HI0.out|apply IsS78.alloc|apply IsS78.drewN|apply IsS78.drew|apply IsS78.set_1|apply IsS78.set_2)|exact HI0.out)) hb);have n2_ := z0j (KeepBut.trans (by repeat (first|(with_reducible first|exact HK.out|apply KeepBut.set_|apply keep_drewN|apply keep_drew|apply keep_alloc)|exact HK.out)) (KeepBut.of_below hb g none) (.inl rfl));have n3_ := z0j (y6j (by repeat (first|(with_reducible first|exact HB.out|apply z4j|apply z5j|apply z6j|refine z7j ?_ (IsS78.ge HI0.out))|exact HB.out)) hb);have n4_ := z0j (hbox);have n5_ := z0j ((by rw [hg];exact (keep_size (w := w) (g := g) (row := none) (by repeat (first|(with_reducible first|exact HK.out|apply KeepBut.set_|apply keep_drewN|apply keep_drew|apply keep_alloc)|exact HK.out))) : w.heap.size ≤ gb311));have n6_ := z0j ((Nat.le_trans HW0.out (by rw [hg];exact (keep_size (w := w) (g := g) (row := none) (by repeat (first|(with_reducible first|exact HK.out|apply KeepBut.set_|apply keep_drewN|apply keep_drew|apply keep_alloc)|exact HK.out))) : w.heap.size ≤ gb311) : w0.heap.size ≤ gb311));have n7_ := z0j ((by rw [hg];exact Nat.ne_of_lt (IsS78.lt (show IsS78 w0 _ g s0_0 t309 t310 from by repeat (first|(with_reducible first|exact HI0.out|apply IsS78.alloc|apply IsS78.drewN|apply IsS78.drew|apply IsS78.set_1|apply IsS78.set_2)|exact HI0.out))) : g ≠ gb311));have n8_ := z0j ((by rw [hg];exact Nat.ne_of_gt (IsS78.lt (show IsS78 w0 _ g s0_0 t309 t310 from by repeat (first|(with_reducible first|exact HI0.out|apply IsS78.alloc|apply IsS78.drewN|apply IsS78.drew|apply IsS78.set_1|apply IsS78.set_2)|exact HI0.out))) : gb311 ≠ g));clear HO_3;clear HI0;clear HK;clear HB;have HO_3 := n0_;have HI0 := n1_;have HK := n2_;have HB := n3_;have BK311 := n4_;have GW311 := n5_;have GE311 := n6_;have NB0_311 := n7_;have NB311_0 := n8_;clear n0_ n1_ n2_ n3_ n4_ n5_ n6_ n7_ n8_;clear hb hbox hg;have hnb53 := NB311_0.out;have hnc53 := NB0_311.out;have hcz54_0 : w52.cell? ⟨gb311, 0, none⟩ = some (.int .i64 0) := (x3j BK311.out 0).trans rfl;have hcz54_1 : w52.cell? ⟨gb311, 1, none⟩ = some (.int .i64 0) := (x3j BK311.out 1).trans rfl;have hcz54_2 : w52.cell? ⟨gb311, 2, none⟩ = some (.int .i64 0) := (x3j BK311.out 2).trans rfl;have hfz54_0 := blk_frozen BK311.out 0;have hfz54_1 := blk_frozen BK311.out 1;have hfz54_2 := blk_frozen BK311.out 2;obtain ⟨Ao55, co55, eo55⟩ := Kd.R_slice HO_3.out;subst eo55))
          have n0_ : Aside0 (Kd.R k60 60 (((w52.setCell ⟨gb311, 0, none⟩ (.int .i64 (wrap64 (t302 - 4)))).setCell ⟨gb311, 1, none⟩ (.int .i64 t305)).setCell ⟨gb311, 2, none⟩ (.int .i64 (wrap64 (1 + t308)))) w.heap.size (fun k_ => k_ ≠ gb311) (.slice Ao55 x3_1.length co55) x3_1) := ⟨by (with_reducible repeat (first|apply z8j|apply z9j|apply y1j));exact x6j (Kd.R_far (p := ⟨gb311, 2, none⟩) (Kd.R_far (p := ⟨gb311, 1, none⟩) (Kd.R_far (p := ⟨gb311, 0, none⟩) (x6j HO_3.out (fun k_ hk => (⟨hk, hk.2⟩ : _ ∧ k_ ≠ gb311))) (fun _ hk => hk.2) (.int .i64 (wrap64 (t302 - 4)))) (fun _ hk => hk.2) (.int .i64 t305)) (fun _ hk => hk.2) (.int .i64 (wrap64 (1 + t308)))) (fun _ hk => hk.1.2)⟩
          have n1_ : Aside0 ((((w52.setCell ⟨gb311, 0, none⟩ (.int .i64 (wrap64 (t302 - 4)))).setCell ⟨gb311, 1, none⟩ (.int .i64 t305)).setCell ⟨gb311, 2, none⟩ (.int .i64 (wrap64 (1 + t308)))).heap[gb311]? = some (.cells #[.int .i64 (wrap64 (t302 - 4)), .int .i64 t305, .int .i64 (wrap64 (1 + t308))] 60 (0, 0))) := ⟨by (with_reducible repeat (first|refine z1j ?_ _|refine z3j ?_|refine z2j ?_ _));refine blk_put (cs := #[.int .i64 (wrap64 (t302 - 4)), .int .i64 t305, .int .i64 0]) ?_ 2 _ rfl;(with_reducible repeat (first|refine z1j ?_ _|refine z3j ?_|refine z2j ?_ _));refine blk_put (cs := #[.int .i64 (wrap64 (t302 - 4)), .int .i64 0, .int .i64 0]) ?_ 1 _ rfl;(with_reducible repeat (first|refine z1j ?_ _|refine z3j ?_|refine z2j ?_ _));refine blk_put (cs := #[.int .i64 0, .int .i64 0, .int .i64 0]) ?_ 0 _ rfl;(with_reducible repeat (first|refine z1j ?_ _|refine z3j ?_|refine z2j ?_ _));exact BK311.out⟩
          have n2_ : Aside0 (IsS78 w0 (((w52.setCell ⟨gb311, 0, none⟩ (.int .i64 (wrap64 (t302 - 4)))).setCell ⟨gb311, 1, none⟩ (.int .i64 t305)).setCell ⟨gb311, 2, none⟩ (.int .i64 (wrap64 (1 + t308)))) g s0_0 t309 t310) := ⟨by repeat (first|(with_reducible first|exact HI0.out|apply IsS78.alloc|apply IsS78.drewN|apply IsS78.drew|apply IsS78.set_1|apply IsS78.set_2|refine IsS78.far ?_ NB0_311.out _)|exact HI0.out)⟩
          have n3_ : Aside0 (KeepBut w (((w52.setCell ⟨gb311, 0, none⟩ (.int .i64 (wrap64 (t302 - 4)))).setCell ⟨gb311, 1, none⟩ (.int .i64 t305)).setCell ⟨gb311, 2, none⟩ (.int .i64 (wrap64 (1 + t308)))) g none) := ⟨by repeat (first|(with_reducible first|exact HK.out|apply KeepBut.set_|apply keep_drewN|apply keep_drew|apply keep_alloc|refine keep_far ?_ GW311.out _)|exact HK.out)⟩
          have n4_ : Aside0 (Below w0.heap.size w0 (((w52.setCell ⟨gb311, 0, none⟩ (.int .i64 (wrap64 (t302 - 4)))).setCell ⟨gb311, 1, none⟩ (.int .i64 t305)).setCell ⟨gb311, 2, none⟩ (.int .i64 (wrap64 (1 + t308))))) := ⟨by repeat (first|(with_reducible first|exact HB.out|apply z4j|apply z5j|apply z6j|refine z7j ?_ (IsS78.ge HI0.out)|refine z7j ?_ GE311.out)|exact HB.out)⟩
          (try clear HO_3)
          (try clear BK311)
          (try clear HI0)
          (try clear HK)
          (try clear HB)
          generalize (((w52.setCell ⟨gb311, 0, none⟩ (.int .i64 (wrap64 (t302 - 4)))).setCell ⟨gb311, 1, none⟩ (.int .i64 t305)).setCell ⟨gb311, 2, none⟩ (.int .i64 (wrap64 (1 + t308)))) = w56 at n0_ n1_ n2_ n3_ n4_ ⊢
          have HO_3 := n0_
          have BK311 := n1_
          have HI0 := n2_
          have HK := n3_
          have HB := n4_
          clear n0_ n1_ n2_ n3_ n4_
          have n0_ := z0j (y1j HO_3.out)
          have n1_ := z0j (z3j BK311.out)
          have n2_ := z0j (IsS78.drew HI0.out)
          have n3_ := z0j (keep_drew HK.out)
          have n4_ := z0j (z6j HB.out)
          clear HO_3
          clear BK311
          clear HI0
          clear HK
          clear HB
          have HO_3 := n0_
          have BK311 := n1_
          have HI0 := n2_
          have HK := n3_
          have HB := n4_
          clear n0_ n1_ n2_ n3_ n4_
          refine start_ (n := 7) (S := fun w' => w'.cell? ⟨gb311, 0, none⟩ = some (.int .i64 (wrap64 (t302 - 4))) ∧ w'.cell? ⟨gb311, 1, none⟩ = some (.int .i64 t305) ∧ w'.cell? ⟨gb311, 2, none⟩ = some (.int .i64 (wrap64 (1 + t308)))) (ds := []) #[false, false, false, false, false, false, false] (by kernel_rfl) rfl rfl ⟨(x3j BK311.out 0).trans rfl, (x3j BK311.out 1).trans rfl, (x3j BK311.out 2).trans rfl⟩ (fun hHeld => ?_)
          generalize w56.drew = w57 at HO_3 BK311 HI0 HK HB hHeld ⊢
          refine pure_ (i := 1) (N := some 46) (v := ?_) (a' := ?_) #[false, true, false, false, false, false, false] rfl rfl (by kernel_rfl) (fun _ _ _ h => h) (Or.inl ⟨by rfl, ?_⟩) ?_ ?_
          rotate_left
          ·intro w'
           go_simp
           with_reducible rfl
          rotate_left
          ·simp only [Act.put, s1j_, s2j_, s3j_, i64_w, i32_w]
           rfl
          refine take_ (i := 3) (N := some 48) (v := ?_) (a' := ?_) #[false, true, false, true, false, false, false] rfl rfl (by kernel_rfl) (fun _ _ _ h => h) (Or.inl ⟨by rfl, ?_⟩) hHeld ?_ ?_
          rotate_left
          ·rintro w' ⟨s0, s1, s2⟩
           go_simp
           with_reducible rfl
          rotate_left
          ·simp only [Act.put, s1j_, s2j_, s3j_, i64_w, i32_w]
           rfl
          refine join_ (σ := Value × Value × Value) 2 #[true, true, true, true, true, false, false] (fun s_ => [(45, s_.1), (47, s_.2.1), (49, s_.2.2)]) (fun s_ w' => (w'.cell? ⟨gb311, 0, none⟩ = some (.int .i64 (wrap64 (t302 - 4))) ∧ w'.cell? ⟨gb311, 1, none⟩ = some (.int .i64 t305) ∧ w'.cell? ⟨gb311, 2, none⟩ = some (.int .i64 (wrap64 (1 + t308)))) ∧ (Kd.R k60 60 w' w.heap.size (fun k_ => some k_ ≠ (s_.2.2 : Value).ownBlock ∧ some k_ ≠ (.slice Ao55 x3_1.length co55 : Value).ownBlock ∧ k_ ≠ gb311) s_.2.1 y315) ∧ (Kd.R k60 60 w' w.heap.size (fun k_ => some k_ ≠ (s_.2.1 : Value).ownBlock ∧ some k_ ≠ (.slice Ao55 x3_1.length co55 : Value).ownBlock ∧ k_ ≠ gb311) s_.2.2 y318) ∧ (Kd.R k60 60 w' w.heap.size (fun k_ => some k_ ≠ (s_.2.1 : Value).ownBlock ∧ some k_ ≠ (s_.2.2 : Value).ownBlock ∧ k_ ≠ gb311) (.slice Ao55 x3_1.length co55) x3_1) ∧ (w'.heap[gb311]? = some (.cells #[.int .i64 (wrap64 (t302 - 4)), .int .i64 t305, .int .i64 (wrap64 (1 + t308))] 60 (0, 0))) ∧ (IsS78 w0 w' g s0_0 t309 t310) ∧ (KeepBut w w' g none) ∧ (Below w0.heap.size w0 w')) ?_ ?_
          rotate_left
          ·intro hCont
           refine two_ (i := 0) (j := 4) (Ni := some 45) (Nj := some 49) #[true, true, false, true, false, false, false] #[false, true, false, true, true, false, false] rfl rfl rfl rfl (by kernel_rfl) (by decide) (by decide) (fun K hK => ?_) (fun K hK => ?_)
           ·skip
            refine Kd.R_lit_step k60 _ 60 ?hg (N := 45) ?hd (xs := ([] : List (S60))) (inner := []) (ok := fun _ => True) (okp := fun _ => True) ?hr ?hp (fun _ hk => hk) trivial (Below.refl _ _) (Nat.le_refl _) (by simp) ?_;(case hd => rfl);(case hg => rfl);(case hr => first|(go_simp;done)|(go_simp;rfl));(case hp => exact (Reps.none _ _))
            intro v313 w58 ho59 hb hg_ hnew_
            clear hg_ hnew_
            (first | rw [← Ny312.out] at ho59|(simp only [Int.reduceToNat] at ho59;rw [← Ny312.out] at ho59))
            have n0_ := z0j (y8j (by (with_reducible repeat (first|apply z8j|apply z9j|apply y1j));exact HO_3.out) (w2_j ho59) hb)
            have n1_ := z0j (w1_j (Kd.R_newB (Kd.R_new' ho59 (Kd.R_lt (by (with_reducible repeat (first|apply z8j|apply z9j|apply y1j));exact HO_3.out))) (g := gb311) (o := .cells #[.int .i64 (wrap64 (t302 - 4)), .int .i64 t305, .int .i64 (wrap64 (1 + t308))] 60 (0, 0)) (by (with_reducible repeat (first|refine z1j ?_ _|refine z3j ?_|refine z2j ?_ _));exact BK311.out)) (keep_size (w := w) (g := g) (row := none) (by repeat (first|(with_reducible first|exact HK.out|apply KeepBut.set_|apply keep_drewN|apply keep_drew|apply keep_alloc|refine keep_far ?_ GW311.out _)|exact HK.out))))
            have n2_ := z0j (IsS78.below (by repeat (first|(with_reducible first|exact HI0.out|apply IsS78.alloc|apply IsS78.drewN|apply IsS78.drew|apply IsS78.set_1|apply IsS78.set_2|refine IsS78.far ?_ NB0_311.out _)|exact HI0.out)) hb)
            have n3_ := z0j (y5j (g := gb311) (o := .cells #[.int .i64 (wrap64 (t302 - 4)), .int .i64 t305, .int .i64 (wrap64 (1 + t308))] 60 (0, 0)) (by (with_reducible repeat (first|refine z1j ?_ _|refine z3j ?_|refine z2j ?_ _));exact BK311.out) hb)
            have n4_ := z0j (KeepBut.trans (by repeat (first|(with_reducible first|exact HK.out|apply KeepBut.set_|apply keep_drewN|apply keep_drew|apply keep_alloc|refine keep_far ?_ GW311.out _)|exact HK.out)) (KeepBut.of_below hb g none) (.inl rfl))
            have n5_ := z0j (y6j (by repeat (first|(with_reducible first|exact HB.out|apply z4j|apply z5j|apply z6j|refine z7j ?_ (IsS78.ge HI0.out)|refine z7j ?_ GE311.out)|exact HB.out)) hb)
            clear HO_3
            clear HI0
            clear BK311
            clear HK
            clear HB
            have HO_3 := n0_
            have HO314 := n1_
            have HI0 := n2_
            have BK311 := n3_
            have HK := n4_
            have HB := n5_
            clear n0_ n1_ n2_ n3_ n4_ n5_
            clear hb ho59
            refine hK.out _ _ ⟨(x3j BK311.out 0).trans rfl, (x3j BK311.out 1).trans rfl, (x3j BK311.out 2).trans rfl⟩ (fun hHeld => ?_)
            clear hK K
            refine norm_ (a' := ?_) ?_ ?_
            rotate_left
            ·show Act.put _ (some 45) _ = _
             simp only [Act.put, s1j_, s2j_, s3j_, i64_w, i32_w]
             rfl
            refine two_ (i := 2) (j := 4) (Ni := some 47) (Nj := some 49) #[true, true, true, true, false, false, false] #[true, true, false, true, true, false, false] rfl rfl rfl rfl (by kernel_rfl) (by decide) (by decide) (fun K hK => ?_) (fun K hK => ?_)
            ·skip
             refine Kd.R_append_rows_step k60 w.heap.size (by rfl) (.tmp 45) (.tmp 46) 23 60 (.agg #[(.int .i64 0), (.int .i64 0), (.int .i64 0)]) 24 rfl Try.underlying23 info60 rfl (by decide) (by omega) v313 y312 x3_1 _ _ _ (fun k_ => some k_ ≠ (.slice Ao55 x3_1.length co55 : Value).ownBlock ∧ k_ ≠ gb311) (fun _ => False) rfl rfl ?aO ?aR (fun _ _ h => h) (fun _ h => h.elim) ?aF (Below.refl _ _) ?aS ?aL ?_
             (case aR => repeat (first|exact (x5j HO_3.out).2.2|(with_reducible refine y2j ?_ _)|(with_reducible refine y3j ?_ _)|(with_reducible refine y4j ?_)))
             (case aF => exact (fun k_ hk => ⟨Kd.fresh' (Kd.R_lt (by (with_reducible repeat (first|apply z8j|apply z9j|apply y1j));exact HO_3.out)) k_ hk, Kd.freshB (g := gb311) (o := .cells #[.int .i64 (wrap64 (t302 - 4)), .int .i64 t305, .int .i64 (wrap64 (1 + t308))] 60 (0, 0)) (by (with_reducible repeat (first|refine z1j ?_ _|refine z3j ?_|refine z2j ?_ _));exact BK311.out) k_ hk⟩))
             (case aO => exact (by (with_reducible repeat (first|apply z8j|apply z9j|apply y1j));exact x6j HO314.out (fun _ hk => ⟨hk.1.2, hk.2⟩)))
             (case aS => exact (keep_size (w := w) (g := g) (row := none) (by repeat (first|(with_reducible first|exact HK.out|apply KeepBut.set_|apply keep_drewN|apply keep_drew|apply keep_alloc|refine keep_far ?_ GW311.out _)|exact HK.out))))
             (case aL => have := LMc26.out;omega)
             intro v316 w60 ho hb hg hat
             rw [← Ny315.out] at ho
             have n0_ := z0j (Kd.R_after (ok := (fun k_ => k_ ≠ gb311)) (by (with_reducible repeat (first|apply z8j|apply z9j|apply y1j));exact HO_3.out) hg hat)
             have n1_ := z0j (IsS78.grown (by repeat (first|(with_reducible first|exact HI0.out|apply IsS78.alloc|apply IsS78.drewN|apply IsS78.drew|apply IsS78.set_1|apply IsS78.set_2|refine IsS78.far ?_ NB0_311.out _)|exact HI0.out)) hg (IsS78.own_ne HI0.out HO314.out (by decide)))
             have n2_ := z0j (blk_grown (g := gb311) (o := .cells #[.int .i64 (wrap64 (t302 - 4)), .int .i64 t305, .int .i64 (wrap64 (1 + t308))] 60 (0, 0)) (by (with_reducible repeat (first|refine z1j ?_ _|refine z3j ?_|refine z2j ?_ _));exact BK311.out) hg (Kd.R_away HO314.out (fun _ hk => hk.2)))
             have n3_ := z0j (below_weaken (by repeat (first|(with_reducible first|exact HB.out|apply z4j|apply z5j|apply z6j|refine z7j ?_ (IsS78.ge HI0.out)|refine z7j ?_ GE311.out)|exact HB.out)) HL.out hb)
             have n4_ := z0j (KeepBut.trans (by repeat (first|(with_reducible first|exact HK.out|apply KeepBut.set_|apply keep_drewN|apply keep_drew|apply keep_alloc|refine keep_far ?_ GW311.out _)|exact HK.out)) (KeepBut.of_grown hg g) (Kd.R_base2 HO314.out))
             have n5_ := z0j (ho)
             clear HO_3
             clear HI0
             clear BK311
             clear HB
             clear HK
             clear HO314
             have HO_3 := n0_
             have HI0 := n1_
             have BK311 := n2_
             have HB := n3_
             have HK := n4_
             have HO317 := n5_
             clear n0_ n1_ n2_ n3_ n4_ n5_
             clear ho hb hg hat
             refine hK.out _ _ ⟨(x3j BK311.out 0).trans rfl, (x3j BK311.out 1).trans rfl, (x3j BK311.out 2).trans rfl⟩ (fun hHeld => ?_)
             clear hK K
             refine norm_ (a' := ?_) ?_ ?_
             rotate_left
             ·show Act.put _ (some 47) _ = _
              simp only [Act.put, s1j_, s2j_, s3j_, i64_w, i32_w]
              rfl
             refine one_ (i := 4) (N := some 49) #[true, true, true, true, true, false, false] rfl rfl (by kernel_rfl) (by decide) (fun K hK => ?_)
             refine Kd.R_lit_step k60 _ 60 ?hg (N := 49) ?hd (xs := ([(⟨wrap64 (t302 - 4), t305, wrap64 (1 + t308)⟩ : S60)] : List (S60))) (inner := [.int .i64 (wrap64 (t302 - 4)), .int .i64 t305, .int .i64 (wrap64 (1 + t308))]) (ok := fun _ => True) (okp := fun _ => True) ?hr ?hp (fun _ hk => hk) trivial (Below.refl _ _) (Nat.le_refl _) (by simp) ?_;(case hd => rfl);(case hg => rfl);(case hr => first|(go_simp;done)|(go_simp;rfl));(case hp => exact (Reps.c3 (show Kd.M k60 _ _ _ (⟨wrap64 (t302 - 4), t305, wrap64 (1 + t308)⟩ : S60) [.int .i64 (wrap64 (t302 - 4)), .int .i64 t305, .int .i64 (wrap64 (1 + t308))] from (k60_mkM _ _ _ (⟨wrap64 (t302 - 4), t305, wrap64 (1 + t308)⟩ : S60) )) (Reps.none _ _)))
             intro v319 w61 ho62 hb hg_ hnew_
             clear hg_ hnew_
             (first | rw [← Ny318.out] at ho62|(simp only [Int.reduceToNat] at ho62;rw [← Ny318.out] at ho62))
             have n0_ := z0j (y8j (by (with_reducible repeat (first|apply z8j|apply z9j|apply y1j));exact HO_3.out) (w2_j ho62) hb)
             have n1_ := z0j (y8j (by (with_reducible repeat (first|apply z8j|apply z9j|apply y1j));exact HO317.out) (w2_j ho62) hb)
             have n2_ := z0j (w1_j (Kd.R_newB (Kd.R_new' (Kd.R_new' ho62 (Kd.R_lt (by (with_reducible repeat (first|apply z8j|apply z9j|apply y1j));exact HO_3.out))) (Kd.R_lt (by (with_reducible repeat (first|apply z8j|apply z9j|apply y1j));exact HO317.out))) (g := gb311) (o := .cells #[.int .i64 (wrap64 (t302 - 4)), .int .i64 t305, .int .i64 (wrap64 (1 + t308))] 60 (0, 0)) (by (with_reducible repeat (first|refine z1j ?_ _|refine z3j ?_|refine z2j ?_ _));exact BK311.out)) (keep_size (w := w) (g := g) (row := none) (by repeat (first|(with_reducible first|exact HK.out|apply KeepBut.set_|apply keep_drewN|apply keep_drew|apply keep_alloc|refine keep_far ?_ GW311.out _)|exact HK.out))))
             have n3_ := z0j (IsS78.below (by repeat (first|(with_reducible first|exact HI0.out|apply IsS78.alloc|apply IsS78.drewN|apply IsS78.drew|apply IsS78.set_1|apply IsS78.set_2|refine IsS78.far ?_ NB0_311.out _)|exact HI0.out)) hb)
             have n4_ := z0j (y5j (g := gb311) (o := .cells #[.int .i64 (wrap64 (t302 - 4)), .int .i64 t305, .int .i64 (wrap64 (1 + t308))] 60 (0, 0)) (by (with_reducible repeat (first|refine z1j ?_ _|refine z3j ?_|refine z2j ?_ _));exact BK311.out) hb)
             have n5_ := z0j (KeepBut.trans (by repeat (first|(with_reducible first|exact HK.out|apply KeepBut.set_|apply keep_drewN|apply keep_drew|apply keep_alloc|refine keep_far ?_ GW311.out _)|exact HK.out)) (KeepBut.of_below hb g none) (.inl rfl))
             have n6_ := z0j (y6j (by repeat (first|(with_reducible first|exact HB.out|apply z4j|apply z5j|apply z6j|refine z7j ?_ (IsS78.ge HI0.out)|refine z7j ?_ GE311.out)|exact HB.out)) hb)
             clear HO_3
             clear HO317
             clear HI0
             clear BK311
             clear HK
             clear HB
             have HO_3 := n0_
             have HO317 := n1_
             have HO320 := n2_
             have HI0 := n3_
             have BK311 := n4_
             have HK := n5_
             have HB := n6_
             clear n0_ n1_ n2_ n3_ n4_ n5_ n6_
             clear hb ho62
             refine hK.out _ _ ⟨(x3j BK311.out 0).trans rfl, (x3j BK311.out 1).trans rfl, (x3j BK311.out 2).trans rfl⟩ (fun hHeld => ?_)
             clear hK K
             refine norm_ (a' := ?_) ?_ ?_
             rotate_left
             ·show Act.put _ (some 49) _ = _
              simp only [Act.put, s1j_, s2j_, s3j_, i64_w, i32_w]
              rfl
             exact norm_ (by simp only [putAll, Act.put, s1j_, s2j_, s3j_]) (hCont (v313, v316, v319) _ ⟨hHeld, (by (with_reducible repeat (first|apply z8j|apply z9j|apply y1j));exact x6j HO317.out (fun _ hk => ⟨hk.2, ⟨hk.1.1, hk.1.2⟩⟩)), (by (with_reducible repeat (first|apply z8j|apply z9j|apply y1j));exact x6j HO320.out (fun _ hk => ⟨hk.1.2, ⟨hk.1.1.2, hk.2⟩⟩)), (by (with_reducible repeat (first|apply z8j|apply z9j|apply y1j));exact x6j HO_3.out (fun _ hk => ⟨hk.1.2, ⟨hk.2, hk.1.1⟩⟩)), (by (with_reducible repeat (first|refine z1j ?_ _|refine z3j ?_|refine z2j ?_ _));exact BK311.out), (by repeat (first|(with_reducible first|exact HI0.out|apply IsS78.alloc|apply IsS78.drewN|apply IsS78.drew|apply IsS78.set_1|apply IsS78.set_2|refine IsS78.far ?_ NB0_311.out _)|exact HI0.out)), (by repeat (first|(with_reducible first|exact HK.out|apply KeepBut.set_|apply keep_drewN|apply keep_drew|apply keep_alloc|refine keep_far ?_ GW311.out _)|exact HK.out)), (by repeat (first|(with_reducible first|exact HB.out|apply z4j|apply z5j|apply z6j|refine z7j ?_ (IsS78.ge HI0.out)|refine z7j ?_ GE311.out)|exact HB.out))⟩)
            ·skip
             refine Kd.R_lit_step k60 _ 60 ?hg (N := 49) ?hd (xs := ([(⟨wrap64 (t302 - 4), t305, wrap64 (1 + t308)⟩ : S60)] : List (S60))) (inner := [.int .i64 (wrap64 (t302 - 4)), .int .i64 t305, .int .i64 (wrap64 (1 + t308))]) (ok := fun _ => True) (okp := fun _ => True) ?hr ?hp (fun _ hk => hk) trivial (Below.refl _ _) (Nat.le_refl _) (by simp) ?_;(case hd => rfl);(case hg => rfl);(case hr => first|(go_simp;done)|(go_simp;rfl));(case hp => exact (Reps.c3 (show Kd.M k60 _ _ _ (⟨wrap64 (t302 - 4), t305, wrap64 (1 + t308)⟩ : S60) [.int .i64 (wrap64 (t302 - 4)), .int .i64 t305, .int .i64 (wrap64 (1 + t308))] from (k60_mkM _ _ _ (⟨wrap64 (t302 - 4), t305, wrap64 (1 + t308)⟩ : S60) )) (Reps.none _ _)))
             intro v319 w60 ho61 hb hg_ hnew_
             clear hg_ hnew_
             (first | rw [← Ny318.out] at ho61|(simp only [Int.reduceToNat] at ho61;rw [← Ny318.out] at ho61))
             have n0_ := z0j (y8j (by (with_reducible repeat (first|apply z8j|apply z9j|apply y1j));exact HO_3.out) (w2_j ho61) hb)
             have n1_ := z0j (y8j (by (with_reducible repeat (first|apply z8j|apply z9j|apply y1j));exact HO314.out) (w2_j ho61) hb)
             have n2_ := z0j (w1_j (Kd.R_newB (Kd.R_new' (Kd.R_new' ho61 (Kd.R_lt (by (with_reducible repeat (first|apply z8j|apply z9j|apply y1j));exact HO_3.out))) (Kd.R_lt (by (with_reducible repeat (first|apply z8j|apply z9j|apply y1j));exact HO314.out))) (g := gb311) (o := .cells #[.int .i64 (wrap64 (t302 - 4)), .int .i64 t305, .int .i64 (wrap64 (1 + t308))] 60 (0, 0)) (by (with_reducible repeat (first|refine z1j ?_ _|refine z3j ?_|refine z2j ?_ _));exact BK311.out)) (keep_size (w := w) (g := g) (row := none) (by repeat (first|(with_reducible first|exact HK.out|apply KeepBut.set_|apply keep_drewN|apply keep_drew|apply keep_alloc|refine keep_far ?_ GW311.out _)|exact HK.out))))
             have n3_ := z0j (IsS78.below (by repeat (first|(with_reducible first|exact HI0.out|apply IsS78.alloc|apply IsS78.drewN|apply IsS78.drew|apply IsS78.set_1|apply IsS78.set_2|refine IsS78.far ?_ NB0_311.out _)|exact HI0.out)) hb)
             have n4_ := z0j (y5j (g := gb311) (o := .cells #[.int .i64 (wrap64 (t302 - 4)), .int .i64 t305, .int .i64 (wrap64 (1 + t308))] 60 (0, 0)) (by (with_reducible repeat (first|refine z1j ?_ _|refine z3j ?_|refine z2j ?_ _));exact BK311.out) hb)
             have n5_ := z0j (KeepBut.trans (by repeat (first|(with_reducible first|exact HK.out|apply KeepBut.set_|apply keep_drewN|apply keep_drew|apply keep_alloc|refine keep_far ?_ GW311.out _)|exact HK.out)) (KeepBut.of_below hb g none) (.inl rfl))
             have n6_ := z0j (y6j (by repeat (first|(with_reducible first|exact HB.out|apply z4j|apply z5j|apply z6j|refine z7j ?_ (IsS78.ge HI0.out)|refine z7j ?_ GE311.out)|exact HB.out)) hb)
             clear HO_3
             clear HO314
             clear HI0
             clear BK311
             clear HK
             clear HB
             have HO_3 := n0_
             have HO314 := n1_
             have HO320 := n2_
             have HI0 := n3_
             have BK311 := n4_
             have HK := n5_
             have HB := n6_
             clear n0_ n1_ n2_ n3_ n4_ n5_ n6_
             clear hb ho61
             refine hK.out _ _ ⟨(x3j BK311.out 0).trans rfl, (x3j BK311.out 1).trans rfl, (x3j BK311.out 2).trans rfl⟩ (fun hHeld => ?_)
             clear hK K
             refine norm_ (a' := ?_) ?_ ?_
             rotate_left
             ·show Act.put _ (some 49) _ = _
              simp only [Act.put, s1j_, s2j_, s3j_, i64_w, i32_w]
              rfl
             refine one_ (i := 2) (N := some 47) #[true, true, true, true, true, false, false] rfl rfl (by kernel_rfl) (by decide) (fun K hK => ?_)
             refine Kd.R_append_rows_step k60 w.heap.size (by rfl) (.tmp 45) (.tmp 46) 23 60 (.agg #[(.int .i64 0), (.int .i64 0), (.int .i64 0)]) 24 rfl Try.underlying23 info60 rfl (by decide) (by omega) v313 y312 x3_1 _ _ _ (fun k_ => some k_ ≠ (.slice Ao55 x3_1.length co55 : Value).ownBlock ∧ some k_ ≠ (v319 : Value).ownBlock ∧ k_ ≠ gb311) (fun _ => False) rfl rfl ?aO ?aR (fun _ _ h => h) (fun _ h => h.elim) ?aF (Below.refl _ _) ?aS ?aL ?_
             (case aR => repeat (first|exact (x5j HO_3.out).2.2|(with_reducible refine y2j ?_ _)|(with_reducible refine y3j ?_ _)|(with_reducible refine y4j ?_)))
             (case aF => exact (fun k_ hk => ⟨Kd.fresh' (Kd.R_lt (by (with_reducible repeat (first|apply z8j|apply z9j|apply y1j));exact HO_3.out)) k_ hk, Kd.fresh' (Kd.R_lt (by (with_reducible repeat (first|apply z8j|apply z9j|apply y1j));exact HO320.out)) k_ hk, Kd.freshB (g := gb311) (o := .cells #[.int .i64 (wrap64 (t302 - 4)), .int .i64 t305, .int .i64 (wrap64 (1 + t308))] 60 (0, 0)) (by (with_reducible repeat (first|refine z1j ?_ _|refine z3j ?_|refine z2j ?_ _));exact BK311.out) k_ hk⟩))
             (case aO => exact (by (with_reducible repeat (first|apply z8j|apply z9j|apply y1j));exact x6j HO314.out (fun _ hk => ⟨hk.1.1.2, ⟨hk.2, hk.1.2⟩⟩)))
             (case aS => exact (keep_size (w := w) (g := g) (row := none) (by repeat (first|(with_reducible first|exact HK.out|apply KeepBut.set_|apply keep_drewN|apply keep_drew|apply keep_alloc|refine keep_far ?_ GW311.out _)|exact HK.out))))
             (case aL => have := LMc26.out;omega)
             intro v316 w62 ho hb hg hat
             rw [← Ny315.out] at ho
             have n0_ := z0j (Kd.R_after (ok := (fun k_ => some k_ ≠ (v319 : Value).ownBlock ∧ k_ ≠ gb311)) (by (with_reducible repeat (first|apply z8j|apply z9j|apply y1j));exact x6j HO_3.out (fun _ hk => ⟨⟨hk.2, hk.1.1⟩, hk.1.2⟩)) hg hat)
             have n1_ := z0j (IsS78.grown (by repeat (first|(with_reducible first|exact HI0.out|apply IsS78.alloc|apply IsS78.drewN|apply IsS78.drew|apply IsS78.set_1|apply IsS78.set_2|refine IsS78.far ?_ NB0_311.out _)|exact HI0.out)) hg (IsS78.own_ne HI0.out HO314.out (by decide)))
             have n2_ := z0j (blk_grown (g := gb311) (o := .cells #[.int .i64 (wrap64 (t302 - 4)), .int .i64 t305, .int .i64 (wrap64 (1 + t308))] 60 (0, 0)) (by (with_reducible repeat (first|refine z1j ?_ _|refine z3j ?_|refine z2j ?_ _));exact BK311.out) hg (Kd.R_away HO314.out (fun _ hk => hk.1.2)))
             have n3_ := z0j (Kd.R_after (ok := (fun k_ => some k_ ≠ (.slice Ao55 x3_1.length co55 : Value).ownBlock ∧ k_ ≠ gb311)) (by (with_reducible repeat (first|apply z8j|apply z9j|apply y1j));exact x6j HO320.out (fun _ hk => ⟨⟨hk.1.1.2, hk.2⟩, hk.1.2⟩)) hg hat)
             have n4_ := z0j (below_weaken (by repeat (first|(with_reducible first|exact HB.out|apply z4j|apply z5j|apply z6j|refine z7j ?_ (IsS78.ge HI0.out)|refine z7j ?_ GE311.out)|exact HB.out)) HL.out hb)
             have n5_ := z0j (KeepBut.trans (by repeat (first|(with_reducible first|exact HK.out|apply KeepBut.set_|apply keep_drewN|apply keep_drew|apply keep_alloc|refine keep_far ?_ GW311.out _)|exact HK.out)) (KeepBut.of_grown hg g) (Kd.R_base2 HO314.out))
             have n6_ := z0j (ho)
             clear HO_3
             clear HI0
             clear BK311
             clear HO320
             clear HB
             clear HK
             clear HO314
             have HO_3 := n0_
             have HI0 := n1_
             have BK311 := n2_
             have HO320 := n3_
             have HB := n4_
             have HK := n5_
             have HO317 := n6_
             clear n0_ n1_ n2_ n3_ n4_ n5_ n6_
             clear ho hb hg hat
             refine hK.out _ _ ⟨(x3j BK311.out 0).trans rfl, (x3j BK311.out 1).trans rfl, (x3j BK311.out 2).trans rfl⟩ (fun hHeld => ?_)
             clear hK K
             refine norm_ (a' := ?_) ?_ ?_
             rotate_left
             ·show Act.put _ (some 47) _ = _
              simp only [Act.put, s1j_, s2j_, s3j_, i64_w, i32_w]
              rfl
             exact norm_ (by simp only [putAll, Act.put, s1j_, s2j_, s3j_]) (hCont (v313, v316, v319) _ ⟨hHeld, (by (with_reducible repeat (first|apply z8j|apply z9j|apply y1j));exact x6j HO317.out (fun _ hk => ⟨hk.2.1, ⟨hk.1, hk.2.2⟩⟩)), (by (with_reducible repeat (first|apply z8j|apply z9j|apply y1j));exact x6j HO320.out (fun _ hk => ⟨hk.2, ⟨hk.1.1, hk.1.2⟩⟩)), (by (with_reducible repeat (first|apply z8j|apply z9j|apply y1j));exact x6j HO_3.out (fun _ hk => ⟨hk.2, ⟨hk.1.1, hk.1.2⟩⟩)), (by (with_reducible repeat (first|refine z1j ?_ _|refine z3j ?_|refine z2j ?_ _));exact BK311.out), (by repeat (first|(with_reducible first|exact HI0.out|apply IsS78.alloc|apply IsS78.drewN|apply IsS78.drew|apply IsS78.set_1|apply IsS78.set_2|refine IsS78.far ?_ NB0_311.out _)|exact HI0.out)), (by repeat (first|(with_reducible first|exact HK.out|apply KeepBut.set_|apply keep_drewN|apply keep_drew|apply keep_alloc|refine keep_far ?_ GW311.out _)|exact HK.out)), (by repeat (first|(with_reducible first|exact HB.out|apply z4j|apply z5j|apply z6j|refine z7j ?_ (IsS78.ge HI0.out)|refine z7j ?_ GE311.out)|exact HB.out))⟩)
           ·skip
            refine Kd.R_lit_step k60 _ 60 ?hg (N := 49) ?hd (xs := ([(⟨wrap64 (t302 - 4), t305, wrap64 (1 + t308)⟩ : S60)] : List (S60))) (inner := [.int .i64 (wrap64 (t302 - 4)), .int .i64 t305, .int .i64 (wrap64 (1 + t308))]) (ok := fun _ => True) (okp := fun _ => True) ?hr ?hp (fun _ hk => hk) trivial (Below.refl _ _) (Nat.le_refl _) (by simp) ?_;(case hd => rfl);(case hg => rfl);(case hr => first|(go_simp;done)|(go_simp;rfl));(case hp => exact (Reps.c3 (show Kd.M k60 _ _ _ (⟨wrap64 (t302 - 4), t305, wrap64 (1 + t308)⟩ : S60) [.int .i64 (wrap64 (t302 - 4)), .int .i64 t305, .int .i64 (wrap64 (1 + t308))] from (k60_mkM _ _ _ (⟨wrap64 (t302 - 4), t305, wrap64 (1 + t308)⟩ : S60) )) (Reps.none _ _)))
            intro v319 w58 ho59 hb hg_ hnew_
            clear hg_ hnew_
            (first | rw [← Ny318.out] at ho59|(simp only [Int.reduceToNat] at ho59;rw [← Ny318.out] at ho59))
            have n0_ := z0j (y8j (by (with_reducible repeat (first|apply z8j|apply z9j|apply y1j));exact HO_3.out) (w2_j ho59) hb)
            have n1_ := z0j (w1_j (Kd.R_newB (Kd.R_new' ho59 (Kd.R_lt (by (with_reducible repeat (first|apply z8j|apply z9j|apply y1j));exact HO_3.out))) (g := gb311) (o := .cells #[.int .i64 (wrap64 (t302 - 4)), .int .i64 t305, .int .i64 (wrap64 (1 + t308))] 60 (0, 0)) (by (with_reducible repeat (first|refine z1j ?_ _|refine z3j ?_|refine z2j ?_ _));exact BK311.out)) (keep_size (w := w) (g := g) (row := none) (by repeat (first|(with_reducible first|exact HK.out|apply KeepBut.set_|apply keep_drewN|apply keep_drew|apply keep_alloc|refine keep_far ?_ GW311.out _)|exact HK.out))))
            have n2_ := z0j (IsS78.below (by repeat (first|(with_reducible first|exact HI0.out|apply IsS78.alloc|apply IsS78.drewN|apply IsS78.drew|apply IsS78.set_1|apply IsS78.set_2|refine IsS78.far ?_ NB0_311.out _)|exact HI0.out)) hb)
            have n3_ := z0j (y5j (g := gb311) (o := .cells #[.int .i64 (wrap64 (t302 - 4)), .int .i64 t305, .int .i64 (wrap64 (1 + t308))] 60 (0, 0)) (by (with_reducible repeat (first|refine z1j ?_ _|refine z3j ?_|refine z2j ?_ _));exact BK311.out) hb)
            have n4_ := z0j (KeepBut.trans (by repeat (first|(with_reducible first|exact HK.out|apply KeepBut.set_|apply keep_drewN|apply keep_drew|apply keep_alloc|refine keep_far ?_ GW311.out _)|exact HK.out)) (KeepBut.of_below hb g none) (.inl rfl))
            have n5_ := z0j (y6j (by repeat (first|(with_reducible first|exact HB.out|apply z4j|apply z5j|apply z6j|refine z7j ?_ (IsS78.ge HI0.out)|refine z7j ?_ GE311.out)|exact HB.out)) hb)
            clear HO_3
            clear HI0
            clear BK311
            clear HK
            clear HB
            have HO_3 := n0_
            have HO320 := n1_
            have HI0 := n2_
            have BK311 := n3_
            have HK := n4_
            have HB := n5_
            clear n0_ n1_ n2_ n3_ n4_ n5_
            clear hb ho59
            refine hK.out _ _ ⟨(x3j BK311.out 0).trans rfl, (x3j BK311.out 1).trans rfl, (x3j BK311.out 2).trans rfl⟩ (fun hHeld => ?_)
            clear hK K
            refine norm_ (a' := ?_) ?_ ?_
            rotate_left
            ·show Act.put _ (some 49) _ = _
             simp only [Act.put, s1j_, s2j_, s3j_, i64_w, i32_w]
             rfl
            refine one_ (i := 0) (N := some 45) #[true, true, false, true, true, false, false] rfl rfl (by kernel_rfl) (by decide) (fun K hK => ?_)
            refine Kd.R_lit_step k60 _ 60 ?hg (N := 45) ?hd (xs := ([] : List (S60))) (inner := []) (ok := fun _ => True) (okp := fun _ => True) ?hr ?hp (fun _ hk => hk) trivial (Below.refl _ _) (Nat.le_refl _) (by simp) ?_;(case hd => rfl);(case hg => rfl);(case hr => first|(go_simp;done)|(go_simp;rfl));(case hp => exact (Reps.none _ _))
            intro v313 w60 ho61 hb hg_ hnew_
            clear hg_ hnew_
            (first | rw [← Ny312.out] at ho61|(simp only [Int.reduceToNat] at ho61;rw [← Ny312.out] at ho61))
            have n0_ := z0j (y8j (by (with_reducible repeat (first|apply z8j|apply z9j|apply y1j));exact HO_3.out) (w2_j ho61) hb)
            have n1_ := z0j (y8j (by (with_reducible repeat (first|apply z8j|apply z9j|apply y1j));exact HO320.out) (w2_j ho61) hb)
            have n2_ := z0j (w1_j (Kd.R_newB (Kd.R_new' (Kd.R_new' ho61 (Kd.R_lt (by (with_reducible repeat (first|apply z8j|apply z9j|apply y1j));exact HO_3.out))) (Kd.R_lt (by (with_reducible repeat (first|apply z8j|apply z9j|apply y1j));exact HO320.out))) (g := gb311) (o := .cells #[.int .i64 (wrap64 (t302 - 4)), .int .i64 t305, .int .i64 (wrap64 (1 + t308))] 60 (0, 0)) (by (with_reducible repeat (first|refine z1j ?_ _|refine z3j ?_|refine z2j ?_ _));exact BK311.out)) (keep_size (w := w) (g := g) (row := none) (by repeat (first|(with_reducible first|exact HK.out|apply KeepBut.set_|apply keep_drewN|apply keep_drew|apply keep_alloc|refine keep_far ?_ GW311.out _)|exact HK.out))))
            have n3_ := z0j (IsS78.below (by repeat (first|(with_reducible first|exact HI0.out|apply IsS78.alloc|apply IsS78.drewN|apply IsS78.drew|apply IsS78.set_1|apply IsS78.set_2|refine IsS78.far ?_ NB0_311.out _)|exact HI0.out)) hb)
            have n4_ := z0j (y5j (g := gb311) (o := .cells #[.int .i64 (wrap64 (t302 - 4)), .int .i64 t305, .int .i64 (wrap64 (1 + t308))] 60 (0, 0)) (by (with_reducible repeat (first|refine z1j ?_ _|refine z3j ?_|refine z2j ?_ _));exact BK311.out) hb)
            have n5_ := z0j (KeepBut.trans (by repeat (first|(with_reducible first|exact HK.out|apply KeepBut.set_|apply keep_drewN|apply keep_drew|apply keep_alloc|refine keep_far ?_ GW311.out _)|exact HK.out)) (KeepBut.of_below hb g none) (.inl rfl))
            have n6_ := z0j (y6j (by repeat (first|(with_reducible first|exact HB.out|apply z4j|apply z5j|apply z6j|refine z7j ?_ (IsS78.ge HI0.out)|refine z7j ?_ GE311.out)|exact HB.out)) hb)
            clear HO_3
            clear HO320
            clear HI0
            clear BK311
            clear HK
            clear HB
            have HO_3 := n0_
            have HO320 := n1_
            have HO314 := n2_
            have HI0 := n3_
            have BK311 := n4_
            have HK := n5_
            have HB := n6_
            clear n0_ n1_ n2_ n3_ n4_ n5_ n6_
            clear hb ho61
            refine hK.out _ _ ⟨(x3j BK311.out 0).trans rfl, (x3j BK311.out 1).trans rfl, (x3j BK311.out 2).trans rfl⟩ (fun hHeld => ?_)
            clear hK K
            refine norm_ (a' := ?_) ?_ ?_
            rotate_left
            ·show Act.put _ (some 45) _ = _
             simp only [Act.put, s1j_, s2j_, s3j_, i64_w, i32_w]
             rfl
            refine one_ (i := 2) (N := some 47) #[true, true, true, true, true, false, false] rfl rfl (by kernel_rfl) (by decide) (fun K hK => ?_)
            refine Kd.R_append_rows_step k60 w.heap.size (by rfl) (.tmp 45) (.tmp 46) 23 60 (.agg #[(.int .i64 0), (.int .i64 0), (.int .i64 0)]) 24 rfl Try.underlying23 info60 rfl (by decide) (by omega) v313 y312 x3_1 _ _ _ (fun k_ => some k_ ≠ (.slice Ao55 x3_1.length co55 : Value).ownBlock ∧ some k_ ≠ (v319 : Value).ownBlock ∧ k_ ≠ gb311) (fun _ => False) rfl rfl ?aO ?aR (fun _ _ h => h) (fun _ h => h.elim) ?aF (Below.refl _ _) ?aS ?aL ?_
            (case aR => repeat (first|exact (x5j HO_3.out).2.2|(with_reducible refine y2j ?_ _)|(with_reducible refine y3j ?_ _)|(with_reducible refine y4j ?_)))
            (case aF => exact (fun k_ hk => ⟨Kd.fresh' (Kd.R_lt (by (with_reducible repeat (first|apply z8j|apply z9j|apply y1j));exact HO_3.out)) k_ hk, Kd.fresh' (Kd.R_lt (by (with_reducible repeat (first|apply z8j|apply z9j|apply y1j));exact HO320.out)) k_ hk, Kd.freshB (g := gb311) (o := .cells #[.int .i64 (wrap64 (t302 - 4)), .int .i64 t305, .int .i64 (wrap64 (1 + t308))] 60 (0, 0)) (by (with_reducible repeat (first|refine z1j ?_ _|refine z3j ?_|refine z2j ?_ _));exact BK311.out) k_ hk⟩))
            (case aO => exact (by (with_reducible repeat (first|apply z8j|apply z9j|apply y1j));exact x6j HO314.out (fun _ hk => ⟨hk.1.1.2, ⟨hk.1.2, hk.2⟩⟩)))
            (case aS => exact (keep_size (w := w) (g := g) (row := none) (by repeat (first|(with_reducible first|exact HK.out|apply KeepBut.set_|apply keep_drewN|apply keep_drew|apply keep_alloc|refine keep_far ?_ GW311.out _)|exact HK.out))))
            (case aL => have := LMc26.out;omega)
            intro v316 w62 ho hb hg hat
            rw [← Ny315.out] at ho
            have n0_ := z0j (Kd.R_after (ok := (fun k_ => some k_ ≠ (v319 : Value).ownBlock ∧ k_ ≠ gb311)) (by (with_reducible repeat (first|apply z8j|apply z9j|apply y1j));exact x6j HO_3.out (fun _ hk => ⟨⟨hk.1.2, hk.1.1⟩, hk.2⟩)) hg hat)
            have n1_ := z0j (IsS78.grown (by repeat (first|(with_reducible first|exact HI0.out|apply IsS78.alloc|apply IsS78.drewN|apply IsS78.drew|apply IsS78.set_1|apply IsS78.set_2|refine IsS78.far ?_ NB0_311.out _)|exact HI0.out)) hg (IsS78.own_ne HI0.out HO314.out (by decide)))
            have n2_ := z0j (blk_grown (g := gb311) (o := .cells #[.int .i64 (wrap64 (t302 - 4)), .int .i64 t305, .int .i64 (wrap64 (1 + t308))] 60 (0, 0)) (by (with_reducible repeat (first|refine z1j ?_ _|refine z3j ?_|refine z2j ?_ _));exact BK311.out) hg (Kd.R_away HO314.out (fun _ hk => hk.2)))
            have n3_ := z0j (Kd.R_after (ok := (fun k_ => some k_ ≠ (.slice Ao55 x3_1.length co55 : Value).ownBlock ∧ k_ ≠ gb311)) (by (with_reducible repeat (first|apply z8j|apply z9j|apply y1j));exact x6j HO320.out (fun _ hk => ⟨⟨hk.1.1.2, hk.1.2⟩, hk.2⟩)) hg hat)
            have n4_ := z0j (below_weaken (by repeat (first|(with_reducible first|exact HB.out|apply z4j|apply z5j|apply z6j|refine z7j ?_ (IsS78.ge HI0.out)|refine z7j ?_ GE311.out)|exact HB.out)) HL.out hb)
            have n5_ := z0j (KeepBut.trans (by repeat (first|(with_reducible first|exact HK.out|apply KeepBut.set_|apply keep_drewN|apply keep_drew|apply keep_alloc|refine keep_far ?_ GW311.out _)|exact HK.out)) (KeepBut.of_grown hg g) (Kd.R_base2 HO314.out))
            have n6_ := z0j (ho)
            clear HO_3
            clear HI0
            clear BK311
            clear HO320
            clear HB
            clear HK
            clear HO314
            have HO_3 := n0_
            have HI0 := n1_
            have BK311 := n2_
            have HO320 := n3_
            have HB := n4_
            have HK := n5_
            have HO317 := n6_
            clear n0_ n1_ n2_ n3_ n4_ n5_ n6_
            clear ho hb hg hat
            refine hK.out _ _ ⟨(x3j BK311.out 0).trans rfl, (x3j BK311.out 1).trans rfl, (x3j BK311.out 2).trans rfl⟩ (fun hHeld => ?_)
            clear hK K
            refine norm_ (a' := ?_) ?_ ?_
            rotate_left
            ·show Act.put _ (some 47) _ = _
             simp only [Act.put, s1j_, s2j_, s3j_, i64_w, i32_w]
             rfl
            exact norm_ (by simp only [putAll, Act.put, s1j_, s2j_, s3j_]) (hCont (v313, v316, v319) _ ⟨hHeld, (by (with_reducible repeat (first|apply z8j|apply z9j|apply y1j));exact x6j HO317.out (fun _ hk => ⟨hk.2.1, ⟨hk.1, hk.2.2⟩⟩)), (by (with_reducible repeat (first|apply z8j|apply z9j|apply y1j));exact x6j HO320.out (fun _ hk => ⟨hk.2, ⟨hk.1.1, hk.1.2⟩⟩)), (by (with_reducible repeat (first|apply z8j|apply z9j|apply y1j));exact x6j HO_3.out (fun _ hk => ⟨hk.2, ⟨hk.1.1, hk.1.2⟩⟩)), (by (with_reducible repeat (first|refine z1j ?_ _|refine z3j ?_|refine z2j ?_ _));exact BK311.out), (by repeat (first|(with_reducible first|exact HI0.out|apply IsS78.alloc|apply IsS78.drewN|apply IsS78.drew|apply IsS78.set_1|apply IsS78.set_2|refine IsS78.far ?_ NB0_311.out _)|exact HI0.out)), (by repeat (first|(with_reducible first|exact HK.out|apply KeepBut.set_|apply keep_drewN|apply keep_drew|apply keep_alloc|refine keep_far ?_ GW311.out _)|exact HK.out)), (by repeat (first|(with_reducible first|exact HB.out|apply z4j|apply z5j|apply z6j|refine z7j ?_ (IsS78.ge HI0.out)|refine z7j ?_ GE311.out)|exact HB.out))⟩)
          rintro ⟨v313, v316, v319⟩ w63 ⟨hS_, h0_, h1_, h2_, h3_, h4_, h5_, h6_⟩
          have n0_ : Aside0 (Kd.R k60 60 w63 w.heap.size (fun k_ => some k_ ≠ (v319 : Value).ownBlock ∧ some k_ ≠ (.slice Ao55 x3_1.length co55 : Value).ownBlock ∧ k_ ≠ gb311) v316 y315) := ⟨h0_⟩
          have n1_ : Aside0 (Kd.R k60 60 w63 w.heap.size (fun k_ => some k_ ≠ (v316 : Value).ownBlock ∧ some k_ ≠ (.slice Ao55 x3_1.length co55 : Value).ownBlock ∧ k_ ≠ gb311) v319 y318) := ⟨h1_⟩
          have n2_ : Aside0 (Kd.R k60 60 w63 w.heap.size (fun k_ => some k_ ≠ (v316 : Value).ownBlock ∧ some k_ ≠ (v319 : Value).ownBlock ∧ k_ ≠ gb311) (.slice Ao55 x3_1.length co55) x3_1) := ⟨h2_⟩
          have n3_ : Aside0 (w63.heap[gb311]? = some (.cells #[.int .i64 (wrap64 (t302 - 4)), .int .i64 t305, .int .i64 (wrap64 (1 + t308))] 60 (0, 0))) := ⟨h3_⟩
          have n4_ : Aside0 (IsS78 w0 w63 g s0_0 t309 t310) := ⟨h4_⟩
          have n5_ : Aside0 (KeepBut w w63 g none) := ⟨h5_⟩
          have n6_ : Aside0 (Below w0.heap.size w0 w63) := ⟨h6_⟩
          clear HO_3
          clear BK311
          clear HI0
          clear HK
          clear HB
          clear h0_ h1_ h2_ h3_ h4_ h5_ h6_
          have HO317 := n0_
          have HO320 := n1_
          have HO_3 := n2_
          have BK311 := n3_
          have HI0 := n4_
          have HK := n5_
          have HB := n6_
          clear n0_ n1_ n2_ n3_ n4_ n5_ n6_
          have hHeld : w63.cell? ⟨gb311, 0, none⟩ = some (.int .i64 (wrap64 (t302 - 4))) ∧ w63.cell? ⟨gb311, 1, none⟩ = some (.int .i64 t305) ∧ w63.cell? ⟨gb311, 2, none⟩ = some (.int .i64 (wrap64 (1 + t308))) := hS_
          obtain ⟨Ao65, co65, eo65⟩ := Kd.R_slice HO320.out
          (first | subst eo65|(injection eo65 with f1_ f2_ f3_;have f4_ := f1_.symm;have f5_ := f3_.symm;clear f1_ f2_ f3_;subst f4_;subst f5_))
          refine norm_ (a' := ?_) ?_ ?_
          rotate_left
          ·simp only [putAll, Act.put, s1j_, s2j_, s3j_]
           rfl
          refine one_ (i := 5) (N := some 50) #[true, true, true, true, true, true, false] rfl rfl (by kernel_rfl) (by decide) (fun K hK => ?_)
          refine Kd.R_append_rows_step k60 w.heap.size (by rfl) (.tmp 47) (.tmp 49) 23 60 (.agg #[(.int .i64 0), (.int .i64 0), (.int .i64 0)]) 24 rfl Try.underlying23 info60 rfl (by decide) (by omega) v316 y315 y318 _ _ _ (fun k_ => some k_ ≠ (.slice Ao55 x3_1.length co55 : Value).ownBlock ∧ some k_ ≠ (.slice Ao65 y318.length co65 : Value).ownBlock ∧ k_ ≠ gb311) (fun _ => False) rfl rfl ?aO ?aR (fun _ _ h => h) (fun _ h => h.elim) ?aF (Below.refl _ _) ?aS ?aL ?_
          (case aR => repeat (first|exact (x5j HO320.out).2.2|(with_reducible refine y2j ?_ _)|(with_reducible refine y3j ?_ _)|(with_reducible refine y4j ?_)))
          (case aF => exact (fun k_ hk => ⟨Kd.fresh' (Kd.R_lt (by (with_reducible repeat (first|apply z8j|apply z9j|apply y1j));exact HO_3.out)) k_ hk, Kd.fresh' (Kd.R_lt (by (with_reducible repeat (first|apply z8j|apply z9j|apply y1j));exact HO320.out)) k_ hk, Kd.freshB (g := gb311) (o := .cells #[.int .i64 (wrap64 (t302 - 4)), .int .i64 t305, .int .i64 (wrap64 (1 + t308))] 60 (0, 0)) (by (with_reducible repeat (first|refine z1j ?_ _|refine z3j ?_|refine z2j ?_ _));exact BK311.out) k_ hk⟩))
          (case aO => exact (by (with_reducible repeat (first|apply z8j|apply z9j|apply y1j));exact x6j HO317.out (fun _ hk => ⟨hk.2.1, ⟨hk.1, hk.2.2⟩⟩)))
          (case aS => exact (keep_size (w := w) (g := g) (row := none) (by repeat (first|(with_reducible first|exact HK.out|apply KeepBut.set_|apply keep_drewN|apply keep_drew|apply keep_alloc|refine keep_far ?_ GW311.out _)|exact HK.out))))
          (case aL => have := LMc27.out;omega)
          intro v322 w64 ho hb hg hat
          rw [← Ny321.out] at ho
          have n0_ := z0j (Kd.R_after (ok := (fun k_ => some k_ ≠ (.slice Ao65 y318.length co65 : Value).ownBlock ∧ k_ ≠ gb311)) (by (with_reducible repeat (first|apply z8j|apply z9j|apply y1j));exact x6j HO_3.out (fun _ hk => ⟨⟨hk.2.1, hk.2.2⟩, hk.1⟩)) hg hat)
          have n1_ := z0j (IsS78.grown (by repeat (first|(with_reducible first|exact HI0.out|apply IsS78.alloc|apply IsS78.drewN|apply IsS78.drew|apply IsS78.set_1|apply IsS78.set_2|refine IsS78.far ?_ NB0_311.out _)|exact HI0.out)) hg (IsS78.own_ne HI0.out HO317.out (by decide)))
          have n2_ := z0j (blk_grown (g := gb311) (o := .cells #[.int .i64 (wrap64 (t302 - 4)), .int .i64 t305, .int .i64 (wrap64 (1 + t308))] 60 (0, 0)) (by (with_reducible repeat (first|refine z1j ?_ _|refine z3j ?_|refine z2j ?_ _));exact BK311.out) hg (Kd.R_away HO317.out (fun _ hk => hk.2.2)))
          have n3_ := z0j (Kd.R_after (ok := (fun k_ => some k_ ≠ (.slice Ao55 x3_1.length co55 : Value).ownBlock ∧ k_ ≠ gb311)) (by (with_reducible repeat (first|apply z8j|apply z9j|apply y1j));exact x6j HO320.out (fun _ hk => ⟨⟨hk.2.1, hk.2.2⟩, hk.1⟩)) hg hat)
          have n4_ := z0j (below_weaken (by repeat (first|(with_reducible first|exact HB.out|apply z4j|apply z5j|apply z6j|refine z7j ?_ (IsS78.ge HI0.out)|refine z7j ?_ GE311.out)|exact HB.out)) HL.out hb)
          have n5_ := z0j (KeepBut.trans (by repeat (first|(with_reducible first|exact HK.out|apply KeepBut.set_|apply keep_drewN|apply keep_drew|apply keep_alloc|refine keep_far ?_ GW311.out _)|exact HK.out)) (KeepBut.of_grown hg g) (Kd.R_base2 HO317.out))
          have n6_ := z0j (ho)
          clear HO_3
          clear HI0
          clear BK311
          clear HO320
          clear HB
          clear HK
          clear HO317
          have HO_3 := n0_
          have HI0 := n1_
          have BK311 := n2_
          have HO320 := n3_
          have HB := n4_
          have HK := n5_
          have HO323 := n6_
          clear n0_ n1_ n2_ n3_ n4_ n5_ n6_
          clear ho hb hg hat
          refine hK.out _ _ ⟨(x3j BK311.out 0).trans rfl, (x3j BK311.out 1).trans rfl, (x3j BK311.out 2).trans rfl⟩ (fun hHeld => ?_)
          clear hK K
          refine norm_ (a' := ?_) ?_ ?_
          rotate_left
          ·show Act.put _ (some 50) _ = _
           simp only [Act.put, s1j_, s2j_, s3j_, i64_w, i32_w]
           rfl
          refine pure_ (i := 6) (N := some 6) (v := ?_) (a' := ?_) #[true, true, true, true, true, true, true] rfl rfl (by kernel_rfl) (fun _ _ _ h => h) (Or.inl ⟨by rfl, ?_⟩) ?_ ?_
          rotate_left
          ·intro w'
           go_simp
           with_reducible rfl
          rotate_left
          ·simp only [Act.put, s1j_, s2j_, s3j_, i64_w, i32_w]
           rfl
          refine done_ (by kernel_rfl) ?_
          obtain ⟨Ao66, co66, eo66⟩ := Kd.R_slice HO323.out
          subst eo66
          try go_wp2_with (first|((with_reducible refine gate_callee (f := 39) rfl ?_);refine goesL_ (some 52) rfl rfl Try.func39 (by kernel_rfl) rfl #[.slice Ao66 y321.length co66] rfl (by (try simp only [List.map_toArray, List.map_cons, List.map_nil]);first | done |rfl|(simp only [List.length_drop, List.length_take];rfl)) ?_;(with_reducible refine (spec_IsKernel.calls k1 _ _ y321 false _ ?side1 ?side2 A28.out).mono ?_);(case side1 => repeat (first|exact (x5j HO323.out).2.2|(with_reducible refine y2j ?_ _)|(with_reducible refine y3j ?_ _)|(with_reducible refine y4j ?_)));(case side2 => exact (x5j HO323.out).2.1);rintro e w67 ⟨rfl, hb⟩;refine ⟨_, rfl, ?_⟩;have n0_ := z0j (Kd.R_below (by (with_reducible repeat (first|apply z8j|apply z9j|apply y1j));exact HO_3.out) hb);have n1_ := z0j (Kd.R_below (by (with_reducible repeat (first|apply z8j|apply z9j|apply y1j));exact HO320.out) hb);have n2_ := z0j (Kd.R_below (by (with_reducible repeat (first|apply z8j|apply z9j|apply y1j));exact HO323.out) hb);have n3_ := z0j (IsS78.below (by repeat (first|(with_reducible first|exact HI0.out|apply IsS78.alloc|apply IsS78.drewN|apply IsS78.drew|apply IsS78.set_1|apply IsS78.set_2|refine IsS78.far ?_ NB0_311.out _)|exact HI0.out)) hb);have n4_ := z0j (y5j (g := gb311) (o := .cells #[.int .i64 (wrap64 (t302 - 4)), .int .i64 t305, .int .i64 (wrap64 (1 + t308))] 60 (0, 0)) (by (with_reducible repeat (first|refine z1j ?_ _|refine z3j ?_|refine z2j ?_ _));exact BK311.out) hb);have n5_ := z0j (KeepBut.trans (by repeat (first|(with_reducible first|exact HK.out|apply KeepBut.set_|apply keep_drewN|apply keep_drew|apply keep_alloc|refine keep_far ?_ GW311.out _)|exact HK.out)) (KeepBut.of_below hb g none) (.inl rfl));have n6_ := z0j (y6j (by repeat (first|(with_reducible first|exact HB.out|apply z4j|apply z5j|apply z6j|refine z7j ?_ (IsS78.ge HI0.out)|refine z7j ?_ GE311.out)|exact HB.out)) hb);clear HO_3;clear HO320;clear HO323;clear HI0;clear BK311;clear HK;clear HB;have HO_3 := n0_;have HO320 := n1_;have HO323 := n2_;have HI0 := n3_;have BK311 := n4_;have HK := n5_;have HB := n6_;clear n0_ n1_ n2_ n3_ n4_ n5_ n6_;(try clear hb);(try clear hk);(try clear hi)))
          go_roundg k1
          case measure => have := HK1.out;omega
          case rel => exact ⟨(x3_1), (wrap64 (x4_1 - 1)), (t309), (t310), (by first |rfl|(simp;done)|(simp [*];done)), H', ⟨by have := HK1.out;omega⟩, ⟨by (with_reducible repeat (first|apply z8j|apply z9j|apply y1j));exact x6j HO_3.out (fun _ hk => trivial)⟩, ⟨by repeat (first|(with_reducible first|exact HI0.out|apply IsS78.alloc|apply IsS78.drewN|apply IsS78.drew|apply IsS78.set_1|apply IsS78.set_2|refine IsS78.far ?_ NB0_311.out _)|exact HI0.out)⟩, ⟨by repeat (first|(with_reducible first|exact HK.out|apply KeepBut.set_|apply keep_drewN|apply keep_drew|apply keep_alloc|refine keep_far ?_ GW311.out _)|exact HK.out)⟩, ⟨by repeat (first|(with_reducible first|exact HB.out|apply z4j|apply z5j|apply z6j|refine z7j ?_ (IsS78.ge HI0.out)|refine z7j ?_ GE311.out)|exact HB.out)⟩⟩
        ·rw [if_neg c27] at H
         exact absurd H (by simp)
       ·rw [if_neg c26] at H
        exact absurd H (by simp)
      ·rw [if_neg c22] at H
       have c22b0 : decide (0 < x4_1) = false := decide_eq_false c22
       clear c22
       simp only [Option.some.injEq, Prod.mk.injEq] at H
       obtain ⟨rfl, rfl, rfl⟩ := H
       go_wp2
       go_ret
       exact ⟨_, by first |rfl|(simp [errW_none, errW_some] <;> rfl)|(simp [*, errW_none, errW_some] <;> rfl), by (with_reducible repeat (first|apply z8j|apply z9j|apply y1j));exact HO_3.out, by repeat (first|(with_reducible first|exact HI0.out|apply IsS78.alloc|apply IsS78.drewN|apply IsS78.drew|apply IsS78.set_1|apply IsS78.set_2)|exact HI0.out), by repeat (first|(with_reducible first|exact HB.out|apply z4j|apply z5j|apply z6j|refine z7j ?_ (IsS78.ge HI0.out))|exact HB.out), by repeat (first|(with_reducible first|exact HK.out|apply KeepBut.set_|apply keep_drewN|apply keep_drew|apply keep_alloc)|exact HK.out)⟩

end Go.Proofs.Ytnohdgbfgdnpfaa.PFnCausal
