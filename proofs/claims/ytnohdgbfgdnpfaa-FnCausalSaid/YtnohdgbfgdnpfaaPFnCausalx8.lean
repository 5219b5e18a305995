/- Machine side of laws FnCausal: written for this claim by the kit's print program under this session's wip/tools/mp_setup.py (with contracts of the session's own, wip/ext). -/
import Derived.Test.YtnohdgbfgdnpfaaPFnCausalx0
import Derived.Test.YtnohdgbfgdnpfaaPFnCausalx7
namespace Go.Proofs.Ytnohdgbfgdnpfaa.PFnCausal
open Go.RowKit Go.Proofs.YtnohdgbfgdnpfaaW.PrintWords Go.Proofs.YtnohdgbfgdnpfaaW.PrintLast Go.Proofs.YtnohdgbfgdnpfaaW.PrintMore
attribute [local go_sem] max2_int min2_int max_two min_two max_three min_three max_four min_four   -- for this text's walks alone
set_option linter.unusedVariables false
set_option linter.unusedSimpArgs false
-- squeezed: words under short names
set_option linter.defProp false in
def z0i := @Aside0.mk
set_option linter.defProp false in
def z1i := @blk_drewN
set_option linter.defProp false in
def z2i := @blk_alloc
set_option linter.defProp false in
def z3i := @blk_drew
set_option linter.defProp false in
def z4i := @below_alloc
set_option linter.defProp false in
def z5i := @pw_below_drewN
set_option linter.defProp false in
def z6i := @below_drew1
set_option linter.defProp false in
def z7i := @below_set
set_option linter.defProp false in
def y7i := @below_size
set_option linter.defProp false in
def x2i := @blk_frozen
set_option linter.defProp false in
def x3i := @blk_cell
def bsi_ (n m : Nat) : Array Bool := ((List.range n).map fun i => m.testBit i).toArray
theorem s1i_ {α : Type} (l : List α) (i : Nat) (a : α) : l.toArray.setIfInBounds i a = (l.set i a).toArray := List.setIfInBounds_toArray l i a
theorem s2i_ {α : Type} (a b : α) (l : List α) : (a :: l).set 0 b = b :: l := rfl
theorem s3i_ {α : Type} (a b : α) (n : Nat) (l : List α) : (a :: l).set (n + 1) b = a :: l.set n b := rfl

mutual
def spec_IsKernel.l0 : Nat → List (S60) → List (S60) → Int → Int → Option (Bool)
 | 0, _, _, _, _ => none
 | k + 1, x0, x11, x12, x13 => if x13 < x12 then (if 0 ≤ x13 then (if x13 < (x11.length : Int) then ((spec_l1In.f ((rd_T60 x11 x13).f0) (-4) 4).bind fun t265 => (if t265 = true then ((spec_l1In.f ((rd_T60 x11 x13).f1) 0 4).bind fun t266 => (if t266 = true then (if ((rd_T60 x11 x13).f1) = 0 then (if ((rd_T60 x11 x13).f0) < 1 then (spec_IsKernel.j1 k x0 x13 x11 x12 x13 true ((rd_T60 x11 x13).f0) ((rd_T60 x11 x13).f1) ((rd_T60 x11 x13).f2)) else ((spec_l1In.f ((rd_T60 x11 x13).f2) 1 100).bind fun t267 => (spec_IsKernel.j1 k x0 x13 x11 x12 x13 (!t267) ((rd_T60 x11 x13).f0) ((rd_T60 x11 x13).f1) ((rd_T60 x11 x13).f2)))) else ((spec_l1In.f ((rd_T60 x11 x13).f2) 1 100).bind fun t268 => (spec_IsKernel.j1 k x0 x13 x11 x12 x13 (!t268) ((rd_T60 x11 x13).f0) ((rd_T60 x11 x13).f1) ((rd_T60 x11 x13).f2)))) else (spec_IsKernel.j1 k x0 x13 x11 x12 x13 true ((rd_T60 x11 x13).f0) ((rd_T60 x11 x13).f1) ((rd_T60 x11 x13).f2)))) else (spec_IsKernel.j1 k x0 x13 x11 x12 x13 true ((rd_T60 x11 x13).f0) ((rd_T60 x11 x13).f1) ((rd_T60 x11 x13).f2)))) else (none)) else (none)) else (some true)
def spec_IsKernel.j1 : Nat → List (S60) → Int → List (S60) → Int → Int → Bool → Int → Int → Int → Option (Bool)
 | 0, _, _, _, _, _, _, _, _, _ => none
 | k + 1, x0, x3, x11, x12, x13, x43, x265000, x265001, x265002 => if x43 = true then (some false) else (if 0 ≤ x3 then (if x3 ≤ (x0.length : Int) then ((some (x0.take (x3 : Int).toNat : List (S60))).bind fun y269 => (spec_IsKernel.l1 k x0 x11 x12 x13 y269 (y269.length : Int) 0 x265000 x265001 x265002)) else (none)) else (none))
def spec_IsKernel.l1 : Nat → List (S60) → List (S60) → Int → Int → List (S60) → Int → Int → Int → Int → Int → Option (Bool)
 | 0, _, _, _, _, _, _, _, _, _, _ => none
 | k + 1, x0, x11, x12, x13, x46, x47, x48, x265000, x265001, x265002 => if x48 < x47 then (if 0 ≤ x48 then (if x48 < (x46.length : Int) then (if x265000 = ((rd_T60 x46 x48).f0) then (if x265001 = ((rd_T60 x46 x48).f1) then (some false) else (spec_IsKernel.l1 k x0 x11 x12 x13 x46 x47 (wrap64 (x48 + 1)) x265000 x265001 x265002)) else (spec_IsKernel.l1 k x0 x11 x12 x13 x46 x47 (wrap64 (x48 + 1)) x265000 x265001 x265002)) else (none)) else (none)) else (spec_IsKernel.l0 k x0 x11 x12 (wrap64 (x13 + 1)))
end
def spec_IsKernel.f (k : Nat) (l0 : List (S60)) : Option (Bool) := (spec_l1In.f (l0.length : Int) 1 12).bind fun t262 => (if t262 = true then (spec_IsKernel.l0 k l0 l0 (l0.length : Int) 0) else (some false))
set_option maxHeartbeats 8000000 in
set_option maxRecDepth 100000 in
theorem spec_IsKernel.calls (k : Nat) (A0 : Option Addr) (c0 : Nat) (l0 : List (S60)) (r : Bool) (w : World) (hr0 : Kd.C k60 w A0 l0.length l0) (hc0 : l0.length ≤ c0) (h : spec_IsKernel.f k l0 = some r) :
  Calls Try.prog 39 #[.slice A0 l0.length c0] w fun e w' => e = .returned (.bool r) ∧ Below w.heap.size w w' := by
 have hu60 := Try.underlying60
 have HR0 := z0i hr0
 have HC0 := z0i hc0
 clear hr0 hc0
 have HB := z0i (Below.refl w.heap.size w)
 have H : ((spec_l1In.f (l0.length : Int) 1 12).bind fun t262 => (if t262 = true then (spec_IsKernel.l0 k l0 l0 (l0.length : Int) 0) else (some false))) = some r := h
 clear h
 replace H := Option.bind_eq_some_iff.mp H
 obtain ⟨t262, A20, H⟩ := H
 replace H : (if t262 = true then (spec_IsKernel.l0 k l0 l0 (l0.length : Int) 0) else (some false)) = some r := H
 have A2 := z0i A20
 clear A20
 by_cases c3 : t262 = true
 ·subst c3
  have H1 : (spec_IsKernel.l0 k l0 l0 (l0.length : Int) 0) = some r := by rw [if_pos rfl] at H;first|exact H|(simp only [if_true] at H ⊢;exact H)
  clear H
  have H := H1
  clear H1
  have H' := z0i H
  clear H
  go_enter Try.func39, Try.ntmps39
  go_wp2_with (first|((with_reducible refine gate_callee (f := 53) rfl ?_);refine goesL_ (some 9) rfl rfl Try.func53 (by kernel_rfl) rfl #[.int .i64 (l0.length : Int), .int .i64 1, .int .i64 12] rfl (by (try simp only [List.map_toArray, List.map_cons, List.map_nil]);first | done |rfl|(simp only [List.length_drop, List.length_take];rfl)) ?_;(with_reducible refine (spec_l1In.calls (l0.length : Int) 1 12 true _ A2.out).mono ?_);rintro e w' ⟨rfl, ⟨nd, rfl⟩⟩;refine ⟨_, rfl, ?_⟩))
  go_loopg [13] k (fun kq v13 w' => ∃ (x13_1 : Int), v13 = .int .i64 x13_1 ∧ Aside0 (spec_IsKernel.l0 kq l0 l0 (l0.length : Int) x13_1 = some r) ∧ Aside0 (kq ≤ k) ∧ Aside0 (Below w.heap.size w w'))
  case atStart => exact ⟨(0), (by first |rfl|(simp;done)|(simp [*];done)), H', ⟨Nat.le_refl _⟩, ⟨by repeat (first|(with_reducible first|exact HB.out|apply z4i|apply z5i|apply z6i)|exact HB.out)⟩⟩
  case round =>
   clear H'
   (try clear p2);(try clear c3)
   obtain ⟨x13_1, rfl, HA, HK1, HB⟩ := hrel
   cases gk with
   | zero => exact absurd HA.out (by simp [spec_IsKernel.l0])
   | succ k1 =>
    have H := HA.out
    clear HA
    simp only [spec_IsKernel.l0] at H
    by_cases c4 : x13_1 < (l0.length : Int)
    ·rw [if_pos c4] at H
     have c4b0 : decide (x13_1 < (l0.length : Int)) = true := decide_eq_true c4
     clear c4
     by_cases c5 : 0 ≤ x13_1
     ·rw [if_pos c5] at H
      have c5b0 : decide (0 ≤ x13_1) = true := decide_eq_true c5
      clear c5
      by_cases c6 : x13_1 < (l0.length : Int)
      ·rw [if_pos c6] at H
       have c6b0 : decide (x13_1 < (l0.length : Int)) = true := decide_eq_true c6
       clear c6
       have HC7 := z0i H
       clear H
       have p263 : 0 ≤ (x13_1 : Int) := of_decide_eq_true (by first|(with_reducible assumption) | assumption)
       have q263 : x13_1 < (l0.length : Int) := of_decide_eq_true (by first|(with_reducible assumption) | assumption)
       obtain ⟨ad263, e263, hx263_0, hx263_1, hx263_2⟩ := at_T60 HR0.out x13_1 p263 q263
       cases e263
       replace hx263_0 := (HB.out.cell (World.block_lt_of_cell? w _ hx263_0)).trans hx263_0
       replace hx263_1 := (HB.out.cell (World.block_lt_of_cell? w _ hx263_1)).trans hx263_1
       replace hx263_2 := (HB.out.cell (World.block_lt_of_cell? w _ hx263_2)).trans hx263_2
       replace p263 := eq_true p263
       replace q263 := eq_true q263
       go_upto_region 6 with (first|((with_reducible refine gate_dst (N := 4) rfl ?_);refine box_event ?hg (N := 4) ?hd (cs := #[.int .i64 0, .int .i64 0, .int .i64 0]) (t := 60) ?hr ?_;(case hd => rfl);(case hg => rfl);(case hr => first|(go_simp;done)|(go_simp;rfl));intro gb264 hg w8 hbox hb;have n0_ := z0i (below_step (by repeat (first|(with_reducible first|exact HB.out|apply z4i|apply z5i|apply z6i)|exact HB.out)) hb);have n1_ := z0i (hbox);have n2_ := z0i ((by rw [hg];exact (y7i (by repeat (first|(with_reducible first|exact HB.out|apply z4i|apply z5i|apply z6i)|exact HB.out))) : w.heap.size ≤ gb264));have n3_ := z0i ((by rw [hg];exact (y7i (by repeat (first|(with_reducible first|exact HB.out|apply z4i|apply z5i|apply z6i)|exact HB.out))) : w.heap.size ≤ gb264));clear HB;have HB := n0_;have BK264 := n1_;have GW264 := n2_;have GE264 := n3_;clear n0_ n1_ n2_ n3_;clear hb hbox hg;have hcz9_0 : w8.cell? ⟨gb264, 0, none⟩ = some (.int .i64 0) := (x3i BK264.out 0).trans rfl;have hcz9_1 : w8.cell? ⟨gb264, 1, none⟩ = some (.int .i64 0) := (x3i BK264.out 1).trans rfl;have hcz9_2 : w8.cell? ⟨gb264, 2, none⟩ = some (.int .i64 0) := (x3i BK264.out 2).trans rfl;have hfz9_0 := x2i BK264.out 0;have hfz9_1 := x2i BK264.out 1;have hfz9_2 := x2i BK264.out 2))
       (try simp only [Act.put, s1i_, s2i_, s3i_])
       go_cut [43] (fun v43 wc => ∃ (kq : Nat) (x43_6 : Bool), v43 = .bool x43_6 ∧ Aside0 (spec_IsKernel.j1 kq l0 x13_1 l0 (l0.length : Int) x13_1 x43_6 ((rd_T60 l0 x13_1).f0) ((rd_T60 l0 x13_1).f1) ((rd_T60 l0 x13_1).f2) = some r) ∧ Aside0 (kq ≤ k1) ∧ Aside0 (wc.heap[gb264]? = some (.cells #[.int .i64 ((rd_T60 l0 x13_1).f0), .int .i64 ((rd_T60 l0 x13_1).f1), .int .i64 ((rd_T60 l0 x13_1).f2)] 60 (0, 0))) ∧ Aside0 (Below w.heap.size w wc))
       case first =>
        have H := HC7.out
        clear HC7
        replace H := Option.bind_eq_some_iff.mp H
        obtain ⟨t265, A100, H⟩ := H
        replace H : (if t265 = true then ((spec_l1In.f ((rd_T60 l0 x13_1).f1) 0 4).bind fun t266 => (if t266 = true then (if ((rd_T60 l0 x13_1).f1) = 0 then (if ((rd_T60 l0 x13_1).f0) < 1 then (spec_IsKernel.j1 k1 l0 x13_1 l0 (l0.length : Int) x13_1 true ((rd_T60 l0 x13_1).f0) ((rd_T60 l0 x13_1).f1) ((rd_T60 l0 x13_1).f2)) else ((spec_l1In.f ((rd_T60 l0 x13_1).f2) 1 100).bind fun t267 => (spec_IsKernel.j1 k1 l0 x13_1 l0 (l0.length : Int) x13_1 (!t267) ((rd_T60 l0 x13_1).f0) ((rd_T60 l0 x13_1).f1) ((rd_T60 l0 x13_1).f2)))) else ((spec_l1In.f ((rd_T60 l0 x13_1).f2) 1 100).bind fun t268 => (spec_IsKernel.j1 k1 l0 x13_1 l0 (l0.length : Int) x13_1 (!t268) ((rd_T60 l0 x13_1).f0) ((rd_T60 l0 x13_1).f1) ((rd_T60 l0 x13_1).f2)))) else (spec_IsKernel.j1 k1 l0 x13_1 l0 (l0.length : Int) x13_1 true ((rd_T60 l0 x13_1).f0) ((rd_T60 l0 x13_1).f1) ((rd_T60 l0 x13_1).f2)))) else (spec_IsKernel.j1 k1 l0 x13_1 l0 (l0.length : Int) x13_1 true ((rd_T60 l0 x13_1).f0) ((rd_T60 l0 x13_1).f1) ((rd_T60 l0 x13_1).f2))) = some r := H
        have A10 := z0i A100
        clear A100
        by_cases c11 : t265 = true
        ·subst c11
         have H1 : ((spec_l1In.f ((rd_T60 l0 x13_1).f1) 0 4).bind fun t266 => (if t266 = true then (if ((rd_T60 l0 x13_1).f1) = 0 then (if ((rd_T60 l0 x13_1).f0) < 1 then (spec_IsKernel.j1 k1 l0 x13_1 l0 (l0.length : Int) x13_1 true ((rd_T60 l0 x13_1).f0) ((rd_T60 l0 x13_1).f1) ((rd_T60 l0 x13_1).f2)) else ((spec_l1In.f ((rd_T60 l0 x13_1).f2) 1 100).bind fun t267 => (spec_IsKernel.j1 k1 l0 x13_1 l0 (l0.length : Int) x13_1 (!t267) ((rd_T60 l0 x13_1).f0) ((rd_T60 l0 x13_1).f1) ((rd_T60 l0 x13_1).f2)))) else ((spec_l1In.f ((rd_T60 l0 x13_1).f2) 1 100).bind fun t268 => (spec_IsKernel.j1 k1 l0 x13_1 l0 (l0.length : Int) x13_1 (!t268) ((rd_T60 l0 x13_1).f0) ((rd_T60 l0 x13_1).f1) ((rd_T60 l0 x13_1).f2)))) else (spec_IsKernel.j1 k1 l0 x13_1 l0 (l0.length : Int) x13_1 true ((rd_T60 l0 x13_1).f0) ((rd_T60 l0 x13_1).f1) ((rd_T60 l0 x13_1).f2)))) = some r := by rw [if_pos rfl] at H;first|exact H|(simp only [if_true] at H ⊢;exact H)
         clear H
         have H := H1
         clear H1
         replace H := Option.bind_eq_some_iff.mp H
         obtain ⟨t266, A120, H⟩ := H
         replace H : (if t266 = true then (if ((rd_T60 l0 x13_1).f1) = 0 then (if ((rd_T60 l0 x13_1).f0) < 1 then (spec_IsKernel.j1 k1 l0 x13_1 l0 (l0.length : Int) x13_1 true ((rd_T60 l0 x13_1).f0) ((rd_T60 l0 x13_1).f1) ((rd_T60 l0 x13_1).f2)) else ((spec_l1In.f ((rd_T60 l0 x13_1).f2) 1 100).bind fun t267 => (spec_IsKernel.j1 k1 l0 x13_1 l0 (l0.length : Int) x13_1 (!t267) ((rd_T60 l0 x13_1).f0) ((rd_T60 l0 x13_1).f1) ((rd_T60 l0 x13_1).f2)))) else ((spec_l1In.f ((rd_T60 l0 x13_1).f2) 1 100).bind fun t268 => (spec_IsKernel.j1 k1 l0 x13_1 l0 (l0.length : Int) x13_1 (!t268) ((rd_T60 l0 x13_1).f0) ((rd_T60 l0 x13_1).f1) ((rd_T60 l0 x13_1).f2)))) else (spec_IsKernel.j1 k1 l0 x13_1 l0 (l0.length : Int) x13_1 true ((rd_T60 l0 x13_1).f0) ((rd_T60 l0 x13_1).f1) ((rd_T60 l0 x13_1).f2))) = some r := H
         have A12 := z0i A120
         clear A120
         by_cases c13 : t266 = true
         ·subst c13
          have H1 : (if ((rd_T60 l0 x13_1).f1) = 0 then (if ((rd_T60 l0 x13_1).f0) < 1 then (spec_IsKernel.j1 k1 l0 x13_1 l0 (l0.length : Int) x13_1 true ((rd_T60 l0 x13_1).f0) ((rd_T60 l0 x13_1).f1) ((rd_T60 l0 x13_1).f2)) else ((spec_l1In.f ((rd_T60 l0 x13_1).f2) 1 100).bind fun t267 => (spec_IsKernel.j1 k1 l0 x13_1 l0 (l0.length : Int) x13_1 (!t267) ((rd_T60 l0 x13_1).f0) ((rd_T60 l0 x13_1).f1) ((rd_T60 l0 x13_1).f2)))) else ((spec_l1In.f ((rd_T60 l0 x13_1).f2) 1 100).bind fun t268 => (spec_IsKernel.j1 k1 l0 x13_1 l0 (l0.length : Int) x13_1 (!t268) ((rd_T60 l0 x13_1).f0) ((rd_T60 l0 x13_1).f1) ((rd_T60 l0 x13_1).f2)))) = some r := by rw [if_pos rfl] at H;first|exact H|(simp only [if_true] at H ⊢;exact H)
          clear H
          have H := H1
          clear H1
          by_cases c14 : ((rd_T60 l0 x13_1).f1) = 0
          ·rw [if_pos c14] at H
           have c14b0 : (((rd_T60 l0 x13_1).f1) == 0) = true := beq_iff_eq.mpr c14
           have c14b1 : (((rd_T60 l0 x13_1).f1) != 0) = false := bne_eq_false_iff_eq.mpr c14
           clear c14
           (first | rw [c14b0]|(simp only [i64_w, i32_w];rw [c14b0]) | skip)
           by_cases c15 : ((rd_T60 l0 x13_1).f0) < 1
           ·rw [if_pos c15] at H
            have c15b0 : decide (((rd_T60 l0 x13_1).f0) < 1) = true := decide_eq_true c15
            clear c15
            have H' := z0i H
            clear H
            have hcz16_0 : w8.cell? ⟨gb264, 0, none⟩ = some (.int .i64 0) := (x3i BK264.out 0).trans rfl
            have hcz16_1 : w8.cell? ⟨gb264, 1, none⟩ = some (.int .i64 0) := (x3i BK264.out 1).trans rfl
            have hcz16_2 : w8.cell? ⟨gb264, 2, none⟩ = some (.int .i64 0) := (x3i BK264.out 2).trans rfl
            have hfz16_0 := x2i BK264.out 0
            have hfz16_1 := x2i BK264.out 1
            have hfz16_2 := x2i BK264.out 2
            go_wp2_with (first|((with_reducible refine gate_callee (f := 53) rfl ?_);refine goesL_ (some 20) rfl rfl Try.func53 (by kernel_rfl) rfl #[.int .i64 ((rd_T60 l0 x13_1).f0), .int .i64 (-4), .int .i64 4] rfl (by (try simp only [List.map_toArray, List.map_cons, List.map_nil]);first | done |rfl|(simp only [List.length_drop, List.length_take];rfl)) ?_;(with_reducible refine (spec_l1In.calls ((rd_T60 l0 x13_1).f0) (-4) 4 true _ A10.out).mono ?_);rintro e w' ⟨rfl, ⟨nd, rfl⟩⟩;refine ⟨_, rfl, ?_⟩)|(go_at_call 53;(with_reducible refine (spec_l1In.calls ((rd_T60 l0 x13_1).f1) 0 4 true _ A12.out).mono ?_);rintro e w' ⟨rfl, ⟨nd, rfl⟩⟩))
            go_meet
            case rel => exact ⟨_, (true), (by first |rfl|(simp;done)|(simp [*];done)), H', ⟨by have := HK1.out;first | omega|exact Nat.le_refl _⟩, ⟨by (with_reducible repeat (first|refine z1i ?_ _|refine z3i ?_|refine z2i ?_ _));refine blk_put (cs := #[.int .i64 ((rd_T60 l0 x13_1).f0), .int .i64 ((rd_T60 l0 x13_1).f1), .int .i64 0]) ?_ 2 _ rfl;(with_reducible repeat (first|refine z1i ?_ _|refine z3i ?_|refine z2i ?_ _));refine blk_put (cs := #[.int .i64 ((rd_T60 l0 x13_1).f0), .int .i64 0, .int .i64 0]) ?_ 1 _ rfl;(with_reducible repeat (first|refine z1i ?_ _|refine z3i ?_|refine z2i ?_ _));refine blk_put (cs := #[.int .i64 0, .int .i64 0, .int .i64 0]) ?_ 0 _ rfl;(with_reducible repeat (first|refine z1i ?_ _|refine z3i ?_|refine z2i ?_ _));exact BK264.out⟩, ⟨by repeat (first|(with_reducible first|exact HB.out|apply z4i|apply z5i|apply z6i|refine z7i ?_ GE264.out)|exact HB.out)⟩⟩
           ·rw [if_neg c15] at H
            have c15b0 : decide (((rd_T60 l0 x13_1).f0) < 1) = false := decide_eq_false c15
            clear c15
            replace H := Option.bind_eq_some_iff.mp H
            obtain ⟨t267, A170, H⟩ := H
            replace H : (spec_IsKernel.j1 k1 l0 x13_1 l0 (l0.length : Int) x13_1 (!t267) ((rd_T60 l0 x13_1).f0) ((rd_T60 l0 x13_1).f1) ((rd_T60 l0 x13_1).f2)) = some r := H
            have A17 := z0i A170
            clear A170
            have H' := z0i H
            clear H
            have hcz18_0 : w8.cell? ⟨gb264, 0, none⟩ = some (.int .i64 0) := (x3i BK264.out 0).trans rfl
            have hcz18_1 : w8.cell? ⟨gb264, 1, none⟩ = some (.int .i64 0) := (x3i BK264.out 1).trans rfl
            have hcz18_2 : w8.cell? ⟨gb264, 2, none⟩ = some (.int .i64 0) := (x3i BK264.out 2).trans rfl
            have hfz18_0 := x2i BK264.out 0
            have hfz18_1 := x2i BK264.out 1
            have hfz18_2 := x2i BK264.out 2
            go_wp2_with (first|((with_reducible refine gate_callee (f := 53) rfl ?_);refine goesL_ (some 20) rfl rfl Try.func53 (by kernel_rfl) rfl #[.int .i64 ((rd_T60 l0 x13_1).f0), .int .i64 (-4), .int .i64 4] rfl (by (try simp only [List.map_toArray, List.map_cons, List.map_nil]);first | done |rfl|(simp only [List.length_drop, List.length_take];rfl)) ?_;(with_reducible refine (spec_l1In.calls ((rd_T60 l0 x13_1).f0) (-4) 4 true _ A10.out).mono ?_);rintro e w' ⟨rfl, ⟨nd, rfl⟩⟩;refine ⟨_, rfl, ?_⟩)|(go_at_call 53;(with_reducible refine (spec_l1In.calls ((rd_T60 l0 x13_1).f1) 0 4 true _ A12.out).mono ?_);rintro e w' ⟨rfl, ⟨nd, rfl⟩⟩)|(go_at_call 53;(with_reducible refine (spec_l1In.calls ((rd_T60 l0 x13_1).f2) 1 100 t267 _ A17.out).mono ?_);rintro e w' ⟨rfl, ⟨nd, rfl⟩⟩))
            go_meet
            case rel => exact ⟨_, (!t267), (by first |rfl|(simp;done)|(simp [*];done)), H', ⟨by have := HK1.out;first | omega|exact Nat.le_refl _⟩, ⟨by (with_reducible repeat (first|refine z1i ?_ _|refine z3i ?_|refine z2i ?_ _));refine blk_put (cs := #[.int .i64 ((rd_T60 l0 x13_1).f0), .int .i64 ((rd_T60 l0 x13_1).f1), .int .i64 0]) ?_ 2 _ rfl;(with_reducible repeat (first|refine z1i ?_ _|refine z3i ?_|refine z2i ?_ _));refine blk_put (cs := #[.int .i64 ((rd_T60 l0 x13_1).f0), .int .i64 0, .int .i64 0]) ?_ 1 _ rfl;(with_reducible repeat (first|refine z1i ?_ _|refine z3i ?_|refine z2i ?_ _));refine blk_put (cs := #[.int .i64 0, .int .i64 0, .int .i64 0]) ?_ 0 _ rfl;(with_reducible repeat (first|refine z1i ?_ _|refine z3i ?_|refine z2i ?_ _));exact BK264.out⟩, ⟨by repeat (first|(with_reducible first|exact HB.out|apply z4i|apply z5i|apply z6i|refine z7i ?_ GE264.out)|exact HB.out)⟩⟩
          ·rw [if_neg c14] at H
           have c14b0 : (((rd_T60 l0 x13_1).f1) == 0) = false := beq_eq_false_iff_ne.mpr c14
           have c14b1 : (((rd_T60 l0 x13_1).f1) != 0) = true := bne_iff_ne.mpr c14
           (first | rw [c14b0]|(simp only [i64_w, i32_w];rw [c14b0]) | skip)
           replace H := Option.bind_eq_some_iff.mp H
           obtain ⟨t268, A190, H⟩ := H
           replace H : (spec_IsKernel.j1 k1 l0 x13_1 l0 (l0.length : Int) x13_1 (!t268) ((rd_T60 l0 x13_1).f0) ((rd_T60 l0 x13_1).f1) ((rd_T60 l0 x13_1).f2)) = some r := H
           have A19 := z0i A190
           clear A190
           have H' := z0i H
           clear H
           have hcz20_0 : w8.cell? ⟨gb264, 0, none⟩ = some (.int .i64 0) := (x3i BK264.out 0).trans rfl
           have hcz20_1 : w8.cell? ⟨gb264, 1, none⟩ = some (.int .i64 0) := (x3i BK264.out 1).trans rfl
           have hcz20_2 : w8.cell? ⟨gb264, 2, none⟩ = some (.int .i64 0) := (x3i BK264.out 2).trans rfl
           have hfz20_0 := x2i BK264.out 0
           have hfz20_1 := x2i BK264.out 1
           have hfz20_2 := x2i BK264.out 2
           go_wp2_with (first|((with_reducible refine gate_callee (f := 53) rfl ?_);refine goesL_ (some 20) rfl rfl Try.func53 (by kernel_rfl) rfl #[.int .i64 ((rd_T60 l0 x13_1).f0), .int .i64 (-4), .int .i64 4] rfl (by (try simp only [List.map_toArray, List.map_cons, List.map_nil]);first | done |rfl|(simp only [List.length_drop, List.length_take];rfl)) ?_;(with_reducible refine (spec_l1In.calls ((rd_T60 l0 x13_1).f0) (-4) 4 true _ A10.out).mono ?_);rintro e w' ⟨rfl, ⟨nd, rfl⟩⟩;refine ⟨_, rfl, ?_⟩)|(go_at_call 53;(with_reducible refine (spec_l1In.calls ((rd_T60 l0 x13_1).f1) 0 4 true _ A12.out).mono ?_);rintro e w' ⟨rfl, ⟨nd, rfl⟩⟩)|(go_at_call 53;(with_reducible refine (spec_l1In.calls ((rd_T60 l0 x13_1).f2) 1 100 t268 _ A19.out).mono ?_);rintro e w' ⟨rfl, ⟨nd, rfl⟩⟩))
           go_meet
           case rel => exact ⟨_, (!t268), (by first |rfl|(simp;done)|(simp [*];done)), H', ⟨by have := HK1.out;first | omega|exact Nat.le_refl _⟩, ⟨by (with_reducible repeat (first|refine z1i ?_ _|refine z3i ?_|refine z2i ?_ _));refine blk_put (cs := #[.int .i64 ((rd_T60 l0 x13_1).f0), .int .i64 ((rd_T60 l0 x13_1).f1), .int .i64 0]) ?_ 2 _ rfl;(with_reducible repeat (first|refine z1i ?_ _|refine z3i ?_|refine z2i ?_ _));refine blk_put (cs := #[.int .i64 ((rd_T60 l0 x13_1).f0), .int .i64 0, .int .i64 0]) ?_ 1 _ rfl;(with_reducible repeat (first|refine z1i ?_ _|refine z3i ?_|refine z2i ?_ _));refine blk_put (cs := #[.int .i64 0, .int .i64 0, .int .i64 0]) ?_ 0 _ rfl;(with_reducible repeat (first|refine z1i ?_ _|refine z3i ?_|refine z2i ?_ _));exact BK264.out⟩, ⟨by repeat (first|(with_reducible first|exact HB.out|apply z4i|apply z5i|apply z6i|refine z7i ?_ GE264.out)|exact HB.out)⟩⟩
         ·replace c13 := Bool.eq_false_iff.mpr c13
          subst c13
          have H1 : (spec_IsKernel.j1 k1 l0 x13_1 l0 (l0.length : Int) x13_1 true ((rd_T60 l0 x13_1).f0) ((rd_T60 l0 x13_1).f1) ((rd_T60 l0 x13_1).f2)) = some r := by rw [if_neg (show ¬ (false = true) by decide)] at H;first|exact H|(simp only [if_true] at H ⊢;exact H)
          clear H
          have H := H1
          clear H1
          have H' := z0i H
          clear H
          have hcz21_0 : w8.cell? ⟨gb264, 0, none⟩ = some (.int .i64 0) := (x3i BK264.out 0).trans rfl
          have hcz21_1 : w8.cell? ⟨gb264, 1, none⟩ = some (.int .i64 0) := (x3i BK264.out 1).trans rfl
          have hcz21_2 : w8.cell? ⟨gb264, 2, none⟩ = some (.int .i64 0) := (x3i BK264.out 2).trans rfl
          have hfz21_0 := x2i BK264.out 0
          have hfz21_1 := x2i BK264.out 1
          have hfz21_2 := x2i BK264.out 2
          go_wp2_with (first|((with_reducible refine gate_callee (f := 53) rfl ?_);refine goesL_ (some 20) rfl rfl Try.func53 (by kernel_rfl) rfl #[.int .i64 ((rd_T60 l0 x13_1).f0), .int .i64 (-4), .int .i64 4] rfl (by (try simp only [List.map_toArray, List.map_cons, List.map_nil]);first | done |rfl|(simp only [List.length_drop, List.length_take];rfl)) ?_;(with_reducible refine (spec_l1In.calls ((rd_T60 l0 x13_1).f0) (-4) 4 true _ A10.out).mono ?_);rintro e w' ⟨rfl, ⟨nd, rfl⟩⟩;refine ⟨_, rfl, ?_⟩)|(go_at_call 53;(with_reducible refine (spec_l1In.calls ((rd_T60 l0 x13_1).f1) 0 4 false _ A12.out).mono ?_);rintro e w' ⟨rfl, ⟨nd, rfl⟩⟩))
          go_meet
          case rel => exact ⟨_, (true), (by first |rfl|(simp;done)|(simp [*];done)), H', ⟨by have := HK1.out;first | omega|exact Nat.le_refl _⟩, ⟨by (with_reducible repeat (first|refine z1i ?_ _|refine z3i ?_|refine z2i ?_ _));refine blk_put (cs := #[.int .i64 ((rd_T60 l0 x13_1).f0), .int .i64 ((rd_T60 l0 x13_1).f1), .int .i64 0]) ?_ 2 _ rfl;(with_reducible repeat (first|refine z1i ?_ _|refine z3i ?_|refine z2i ?_ _));refine blk_put (cs := #[.int .i64 ((rd_T60 l0 x13_1).f0), .int .i64 0, .int .i64 0]) ?_ 1 _ rfl;(with_reducible repeat (first|refine z1i ?_ _|refine z3i ?_|refine z2i ?_ _));refine blk_put (cs := #[.int .i64 0, .int .i64 0, .int .i64 0]) ?_ 0 _ rfl;(with_reducible repeat (first|refine z1i ?_ _|refine z3i ?_|refine z2i ?_ _));exact BK264.out⟩, ⟨by repeat (first|(with_reducible first|exact HB.out|apply z4i|apply z5i|apply z6i|refine z7i ?_ GE264.out)|exact HB.out)⟩⟩
        ·replace c11 := Bool.eq_false_iff.mpr c11
         subst c11
         have H1 : (spec_IsKernel.j1 k1 l0 x13_1 l0 (l0.length : Int) x13_1 true ((rd_T60 l0 x13_1).f0) ((rd_T60 l0 x13_1).f1) ((rd_T60 l0 x13_1).f2)) = some r := by rw [if_neg (show ¬ (false = true) by decide)] at H;first|exact H|(simp only [if_true] at H ⊢;exact H)
         clear H
         have H := H1
         clear H1
         have H' := z0i H
         clear H
         have hcz22_0 : w8.cell? ⟨gb264, 0, none⟩ = some (.int .i64 0) := (x3i BK264.out 0).trans rfl
         have hcz22_1 : w8.cell? ⟨gb264, 1, none⟩ = some (.int .i64 0) := (x3i BK264.out 1).trans rfl
         have hcz22_2 : w8.cell? ⟨gb264, 2, none⟩ = some (.int .i64 0) := (x3i BK264.out 2).trans rfl
         have hfz22_0 := x2i BK264.out 0
         have hfz22_1 := x2i BK264.out 1
         have hfz22_2 := x2i BK264.out 2
         go_wp2_with (first|((with_reducible refine gate_callee (f := 53) rfl ?_);refine goesL_ (some 20) rfl rfl Try.func53 (by kernel_rfl) rfl #[.int .i64 ((rd_T60 l0 x13_1).f0), .int .i64 (-4), .int .i64 4] rfl (by (try simp only [List.map_toArray, List.map_cons, List.map_nil]);first | done |rfl|(simp only [List.length_drop, List.length_take];rfl)) ?_;(with_reducible refine (spec_l1In.calls ((rd_T60 l0 x13_1).f0) (-4) 4 false _ A10.out).mono ?_);rintro e w' ⟨rfl, ⟨nd, rfl⟩⟩;refine ⟨_, rfl, ?_⟩))
         go_meet
         case rel => exact ⟨_, (true), (by first |rfl|(simp;done)|(simp [*];done)), H', ⟨by have := HK1.out;first | omega|exact Nat.le_refl _⟩, ⟨by (with_reducible repeat (first|refine z1i ?_ _|refine z3i ?_|refine z2i ?_ _));refine blk_put (cs := #[.int .i64 ((rd_T60 l0 x13_1).f0), .int .i64 ((rd_T60 l0 x13_1).f1), .int .i64 0]) ?_ 2 _ rfl;(with_reducible repeat (first|refine z1i ?_ _|refine z3i ?_|refine z2i ?_ _));refine blk_put (cs := #[.int .i64 ((rd_T60 l0 x13_1).f0), .int .i64 0, .int .i64 0]) ?_ 1 _ rfl;(with_reducible repeat (first|refine z1i ?_ _|refine z3i ?_|refine z2i ?_ _));refine blk_put (cs := #[.int .i64 0, .int .i64 0, .int .i64 0]) ?_ 0 _ rfl;(with_reducible repeat (first|refine z1i ?_ _|refine z3i ?_|refine z2i ?_ _));exact BK264.out⟩, ⟨by repeat (first|(with_reducible first|exact HB.out|apply z4i|apply z5i|apply z6i|refine z7i ?_ GE264.out)|exact HB.out)⟩⟩
       case rest =>
        clear HC7
        (try clear c1);(try clear p2);(try clear q2);(try clear hx2);(try clear c3);(try clear c4);(try clear c4b0);(try clear c5);(try clear c5b0);(try clear c6);(try clear c6b0);(try clear c11);(try clear c13);(try clear c14);(try clear c14b0);(try clear c14b1);(try clear c15);(try clear c15b0);(try clear hcz16_0);(try clear hcz16_1);(try clear hcz16_2);(try clear hcz18_0);(try clear hcz18_1);(try clear hcz18_2);(try clear hcz20_0);(try clear hcz20_1);(try clear hcz20_2);(try clear hcz21_0);(try clear hcz21_1);(try clear hcz21_2);(try clear hcz22_0);(try clear hcz22_1);(try clear hcz22_2);(try clear hcz9_0);(try clear hcz9_1);(try clear hcz9_2);(try clear hfz16_0);(try clear hfz16_1);(try clear hfz16_2);(try clear hfz18_0);(try clear hfz18_1);(try clear hfz18_2);(try clear hfz20_0);(try clear hfz20_1);(try clear hfz20_2);(try clear hfz21_0);(try clear hfz21_1);(try clear hfz21_2);(try clear hfz22_0);(try clear hfz22_1);(try clear hfz22_2);(try clear hfz9_0);(try clear hfz9_1);(try clear hfz9_2);(try clear hx263_0);(try clear hx263_1);(try clear hx263_2);(try clear p2);(try clear p263);(try clear q263)
        obtain ⟨kq, x43_6, rfl, HA, HJ6, BK264, HB⟩ := hcut
        cases kq with
        | zero => exact absurd HA.out (by simp [spec_IsKernel.j1])
        | succ kj6 =>
         have H := HA.out
         clear HA
         simp only [spec_IsKernel.j1] at H
         by_cases c23 : x43_6 = true
         ·subst c23
          have H1 : (some false) = some r := by rw [if_pos rfl] at H;first|exact H|(simp only [if_true] at H ⊢;exact H)
          clear H
          have H := H1
          clear H1
          obtain rfl := Option.some.inj H
          go_wp2
          go_ret
          exact ⟨by first |rfl|(simp [errW_none, errW_some] <;> rfl)|(simp [*, errW_none, errW_some] <;> rfl), by repeat (first|(with_reducible first|exact HB.out|apply z4i|apply z5i|apply z6i|refine z7i ?_ GE264.out)|exact HB.out)⟩
         ·replace c23 := Bool.eq_false_iff.mpr c23
          subst c23
          have H1 : (if 0 ≤ x13_1 then (if x13_1 ≤ (l0.length : Int) then ((some (l0.take (x13_1 : Int).toNat : List (S60))).bind fun y269 => (spec_IsKernel.l1 kj6 l0 l0 (l0.length : Int) x13_1 y269 (y269.length : Int) 0 ((rd_T60 l0 x13_1).f0) ((rd_T60 l0 x13_1).f1) ((rd_T60 l0 x13_1).f2))) else (none)) else (none)) = some r := by rw [if_neg (show ¬ (false = true) by decide)] at H;first|exact H|(simp only [if_true] at H ⊢;exact H)
          clear H
          have H := H1
          clear H1
          by_cases c24 : 0 ≤ x13_1
          ·rw [if_pos c24] at H
           have c24b0 := eq_true c24
           have c24b1 : decide (0 ≤ x13_1) = true := decide_eq_true c24
           clear c24
           by_cases c25 : x13_1 ≤ (l0.length : Int)
           ·rw [if_pos c25] at H
            have c25b0 := eq_true c25
            have c25b1 : decide (x13_1 ≤ (l0.length : Int)) = true := decide_eq_true c25
            clear c25
            obtain ⟨y269, hy269⟩ : ∃ y_ : List (S60), y_ = (l0.take (x13_1 : Int).toNat) := ⟨_, rfl⟩
            replace H : (spec_IsKernel.l1 kj6 l0 l0 (l0.length : Int) x13_1 y269 (y269.length : Int) 0 ((rd_T60 l0 x13_1).f0) ((rd_T60 l0 x13_1).f1) ((rd_T60 l0 x13_1).f2)) = some r := by first|(rw [hy269];with_reducible exact H)|(have H2_ := (Option.bind_some _ _).symm.trans H;rw [hy269];with_reducible exact H2_)|(have H2_ := (Option.bind_some _ _).symm.trans H;with_reducible exact H2_) | with_reducible exact H|(rw [hy269];exact H)|exact H
            have Ny269 := z0i hy269
            clear hy269
            have H' := z0i H
            clear H
            have q26 : (x13_1 : Int) ≤ ((l0.length : Int) : Int) := of_decide_eq_true (by first|(with_reducible assumption) | assumption)
            obtain ⟨i026, hi026, _, hsz26, _⟩ := info_parts info60
            have hroom26 : l0.length ≤ c0 := HC0.out
            have hC26 : Kd.C k60 _ (some ad263) l0.length l0 := HR0.out
            have hcut26 := cut_to (P := Try.prog) 23 60 .i64 Try.underlying23 hi026 (some ad263) l0.length c0 x13_1 (of_decide_eq_true (by first|(with_reducible assumption) | assumption)) q26 hroom26
            have hr26 := Kd.C_take (m := (x13_1 : Int).toNat) hC26 (by omega)
            have hy26 : y269.length = (x13_1 : Int).toNat := (by rw [Ny269.out, List.length_take];omega)
            rw [← Ny269.out] at hr26
            rw [← hy26] at hcut26
            have HR272 := z0i hr26
            have HC272 := z0i (show y269.length ≤ c0 from by omega)
            clear hr26 hC26 hroom26 hi026 hsz26
            have KY26 := z0i hy26
            clear hy26
            replace q26 := eq_true q26
            go_wp2
            go_loopg [48] kj6 (fun kq v48 w' => ∃ (x48_3 : Int), v48 = .int .i64 x48_3 ∧ Aside0 (spec_IsKernel.l1 kq l0 l0 (l0.length : Int) x13_1 y269 (y269.length : Int) x48_3 ((rd_T60 l0 x13_1).f0) ((rd_T60 l0 x13_1).f1) ((rd_T60 l0 x13_1).f2) = some r) ∧ Aside0 (kq ≤ kj6) ∧ Aside0 (w'.heap[gb264]? = some (.cells #[.int .i64 ((rd_T60 l0 x13_1).f0), .int .i64 ((rd_T60 l0 x13_1).f1), .int .i64 ((rd_T60 l0 x13_1).f2)] 60 (0, 0))) ∧ Aside0 (Below w.heap.size w w'))
            case atStart => exact ⟨(0), (by first |rfl|(simp;done)|(simp [*];done)), H', ⟨Nat.le_refl _⟩, ⟨by (with_reducible repeat (first|refine z1i ?_ _|refine z3i ?_|refine z2i ?_ _));exact BK264.out⟩, ⟨by repeat (first|(with_reducible first|exact HB.out|apply z4i|apply z5i|apply z6i|refine z7i ?_ GE264.out)|exact HB.out)⟩⟩
            case round =>
             clear H'
             (try clear c1);(try clear c2);(try clear p2);(try clear q2);(try clear hx2);(try clear c3);(try clear c4);(try clear c4b0);(try clear c5);(try clear c5b0);(try clear c6);(try clear c6b0);(try clear c11);(try clear c13);(try clear c14);(try clear c14b0);(try clear c14b1);(try clear c15);(try clear c15b0);(try clear c23);(try clear c24);(try clear c24b0);(try clear c24b1);(try clear c25);(try clear c25b0);(try clear c25b1);(try clear p26);(try clear q26);(try clear hx26);(try clear hcz16_0);(try clear hcz16_1);(try clear hcz16_2);(try clear hcz18_0);(try clear hcz18_1);(try clear hcz18_2);(try clear hcz20_0);(try clear hcz20_1);(try clear hcz20_2);(try clear hcz21_0);(try clear hcz21_1);(try clear hcz21_2);(try clear hcz22_0);(try clear hcz22_1);(try clear hcz22_2);(try clear hcz9_0);(try clear hcz9_1);(try clear hcz9_2);(try clear hfz16_0);(try clear hfz16_1);(try clear hfz16_2);(try clear hfz18_0);(try clear hfz18_1);(try clear hfz18_2);(try clear hfz20_0);(try clear hfz20_1);(try clear hfz20_2);(try clear hfz21_0);(try clear hfz21_1);(try clear hfz21_2);(try clear hfz22_0);(try clear hfz22_1);(try clear hfz22_2);(try clear hfz9_0);(try clear hfz9_1);(try clear hfz9_2);(try clear hx263_0);(try clear hx263_1);(try clear hx263_2);(try clear p2);(try clear p263);(try clear q2);(try clear q26);(try clear q263)
             obtain ⟨x48_3, rfl, HA, HK3, BK264, HB⟩ := hrel
             cases gk with
             | zero => exact absurd HA.out (by simp [spec_IsKernel.l1])
             | succ k3 =>
              have H := HA.out
              clear HA
              simp only [spec_IsKernel.l1] at H
              by_cases c27 : x48_3 < (y269.length : Int)
              ·rw [if_pos c27] at H
               have c27b0 : decide (x48_3 < (y269.length : Int)) = true := decide_eq_true c27
               clear c27
               by_cases c28 : 0 ≤ x48_3
               ·rw [if_pos c28] at H
                have c28b0 : decide (0 ≤ x48_3) = true := decide_eq_true c28
                clear c28
                by_cases c29 : x48_3 < (y269.length : Int)
                ·rw [if_pos c29] at H
                 have c29b0 : decide (x48_3 < (y269.length : Int)) = true := decide_eq_true c29
                 clear c29
                 by_cases c30 : ((rd_T60 l0 x13_1).f0) = ((rd_T60 y269 x48_3).f0)
                 ·rw [if_pos c30] at H
                  have c30b0 : (((rd_T60 l0 x13_1).f0) == ((rd_T60 y269 x48_3).f0)) = true := beq_iff_eq.mpr c30
                  have c30b1 : (((rd_T60 l0 x13_1).f0) != ((rd_T60 y269 x48_3).f0)) = false := bne_eq_false_iff_eq.mpr c30
                  clear c30
                  by_cases c31 : ((rd_T60 l0 x13_1).f1) = ((rd_T60 y269 x48_3).f1)
                  ·rw [if_pos c31] at H
                   have c31b0 : (((rd_T60 l0 x13_1).f1) == ((rd_T60 y269 x48_3).f1)) = true := beq_iff_eq.mpr c31
                   have c31b1 : (((rd_T60 l0 x13_1).f1) != ((rd_T60 y269 x48_3).f1)) = false := bne_eq_false_iff_eq.mpr c31
                   clear c31
                   obtain rfl := Option.some.inj H
                   have p273 : 0 ≤ (x48_3 : Int) := of_decide_eq_true (by first|(with_reducible assumption) | assumption)
                   have q273 : x48_3 < (y269.length : Int) := of_decide_eq_true (by first|(with_reducible assumption) | assumption)
                   obtain ⟨ad273, e273, hx273_0, hx273_1, hx273_2⟩ := at_T60 HR272.out x48_3 p273 q273
                   obtain rfl : ad263 = ad273 := (by injection e273)
                   replace hx273_0 := (HB.out.cell (World.block_lt_of_cell? w _ hx273_0)).trans hx273_0
                   replace hx273_1 := (HB.out.cell (World.block_lt_of_cell? w _ hx273_1)).trans hx273_1
                   replace hx273_2 := (HB.out.cell (World.block_lt_of_cell? w _ hx273_2)).trans hx273_2
                   replace p273 := eq_true p273
                   replace q273 := eq_true q273
                   go_wp2_with (first|((with_reducible refine gate_dst (N := 6) rfl ?_);refine box_event ?hg (N := 6) ?hd (cs := #[.int .i64 0, .int .i64 0, .int .i64 0]) (t := 60) ?hr ?_;(case hd => rfl);(case hg => rfl);(case hr => first|(go_simp;done)|(go_simp;rfl));intro gb274 hg w32 hbox hb;have n0_ := z0i (blk_below (g := gb264) (o := .cells #[.int .i64 ((rd_T60 l0 x13_1).f0), .int .i64 ((rd_T60 l0 x13_1).f1), .int .i64 ((rd_T60 l0 x13_1).f2)] 60 (0, 0)) (by (with_reducible repeat (first|refine z1i ?_ _|refine z3i ?_|refine z2i ?_ _));exact BK264.out) hb);have n1_ := z0i (below_step (by repeat (first|(with_reducible first|exact HB.out|apply z4i|apply z5i|apply z6i|refine z7i ?_ GE264.out)|exact HB.out)) hb);have n2_ := z0i (hbox);have n3_ := z0i ((by rw [hg];exact (y7i (by repeat (first|(with_reducible first|exact HB.out|apply z4i|apply z5i|apply z6i|refine z7i ?_ GE264.out)|exact HB.out))) : w.heap.size ≤ gb274));have n4_ := z0i ((by rw [hg];exact (y7i (by repeat (first|(with_reducible first|exact HB.out|apply z4i|apply z5i|apply z6i|refine z7i ?_ GE264.out)|exact HB.out))) : w.heap.size ≤ gb274));have n5_ := z0i ((by rw [hg];exact Nat.ne_of_lt (blk_lt (g := gb264) (o := .cells #[.int .i64 ((rd_T60 l0 x13_1).f0), .int .i64 ((rd_T60 l0 x13_1).f1), .int .i64 ((rd_T60 l0 x13_1).f2)] 60 (0, 0)) (by (with_reducible repeat (first|refine z1i ?_ _|refine z3i ?_|refine z2i ?_ _));exact BK264.out)) : gb264 ≠ gb274));have n6_ := z0i ((by rw [hg];exact Nat.ne_of_gt (blk_lt (g := gb264) (o := .cells #[.int .i64 ((rd_T60 l0 x13_1).f0), .int .i64 ((rd_T60 l0 x13_1).f1), .int .i64 ((rd_T60 l0 x13_1).f2)] 60 (0, 0)) (by (with_reducible repeat (first|refine z1i ?_ _|refine z3i ?_|refine z2i ?_ _));exact BK264.out)) : gb274 ≠ gb264));clear BK264;clear HB;have BK264 := n0_;have HB := n1_;have BK274 := n2_;have GW274 := n3_;have GE274 := n4_;have NB264_274 := n5_;have NB274_264 := n6_;clear n0_ n1_ n2_ n3_ n4_ n5_ n6_;clear hb hbox hg;have hnb33 := NB274_264.out;have hnc33 := NB264_274.out;have hcz34_0 : w32.cell? ⟨gb274, 0, none⟩ = some (.int .i64 0) := (x3i BK274.out 0).trans rfl;have hcz34_1 : w32.cell? ⟨gb274, 1, none⟩ = some (.int .i64 0) := (x3i BK274.out 1).trans rfl;have hcz34_2 : w32.cell? ⟨gb274, 2, none⟩ = some (.int .i64 0) := (x3i BK274.out 2).trans rfl;have hfz34_0 := x2i BK274.out 0;have hfz34_1 := x2i BK274.out 1;have hfz34_2 := x2i BK274.out 2;have hcz35_0 : w32.cell? ⟨gb264, 0, none⟩ = some (.int .i64 ((rd_T60 l0 x13_1).f0)) := (x3i BK264.out 0).trans rfl;have hcz35_1 : w32.cell? ⟨gb264, 1, none⟩ = some (.int .i64 ((rd_T60 l0 x13_1).f1)) := (x3i BK264.out 1).trans rfl;have hcz35_2 : w32.cell? ⟨gb264, 2, none⟩ = some (.int .i64 ((rd_T60 l0 x13_1).f2)) := (x3i BK264.out 2).trans rfl;have hfz35_0 := x2i BK264.out 0;have hfz35_1 := x2i BK264.out 1;have hfz35_2 := x2i BK264.out 2))
                   go_ret
                   exact ⟨by first |rfl|(simp [errW_none, errW_some] <;> rfl)|(simp [*, errW_none, errW_some] <;> rfl), by repeat (first|(with_reducible first|exact HB.out|apply z4i|apply z5i|apply z6i|refine z7i ?_ GE264.out|refine z7i ?_ GE274.out)|exact HB.out)⟩
                  ·rw [if_neg c31] at H
                   have c31b0 : (((rd_T60 l0 x13_1).f1) == ((rd_T60 y269 x48_3).f1)) = false := beq_eq_false_iff_ne.mpr c31
                   have c31b1 : (((rd_T60 l0 x13_1).f1) != ((rd_T60 y269 x48_3).f1)) = true := bne_iff_ne.mpr c31
                   have H' := z0i H
                   clear H
                   have p273 : 0 ≤ (x48_3 : Int) := of_decide_eq_true (by first|(with_reducible assumption) | assumption)
                   have q273 : x48_3 < (y269.length : Int) := of_decide_eq_true (by first|(with_reducible assumption) | assumption)
                   obtain ⟨ad273, e273, hx273_0, hx273_1, hx273_2⟩ := at_T60 HR272.out x48_3 p273 q273
                   obtain rfl : ad263 = ad273 := (by injection e273)
                   replace hx273_0 := (HB.out.cell (World.block_lt_of_cell? w _ hx273_0)).trans hx273_0
                   replace hx273_1 := (HB.out.cell (World.block_lt_of_cell? w _ hx273_1)).trans hx273_1
                   replace hx273_2 := (HB.out.cell (World.block_lt_of_cell? w _ hx273_2)).trans hx273_2
                   replace p273 := eq_true p273
                   replace q273 := eq_true q273
                   go_wp2_with (first|((with_reducible refine gate_dst (N := 6) rfl ?_);refine box_event ?hg (N := 6) ?hd (cs := #[.int .i64 0, .int .i64 0, .int .i64 0]) (t := 60) ?hr ?_;(case hd => rfl);(case hg => rfl);(case hr => first|(go_simp;done)|(go_simp;rfl));intro gb274 hg w36 hbox hb;have n0_ := z0i (blk_below (g := gb264) (o := .cells #[.int .i64 ((rd_T60 l0 x13_1).f0), .int .i64 ((rd_T60 l0 x13_1).f1), .int .i64 ((rd_T60 l0 x13_1).f2)] 60 (0, 0)) (by (with_reducible repeat (first|refine z1i ?_ _|refine z3i ?_|refine z2i ?_ _));exact BK264.out) hb);have n1_ := z0i (below_step (by repeat (first|(with_reducible first|exact HB.out|apply z4i|apply z5i|apply z6i|refine z7i ?_ GE264.out)|exact HB.out)) hb);have n2_ := z0i (hbox);have n3_ := z0i ((by rw [hg];exact (y7i (by repeat (first|(with_reducible first|exact HB.out|apply z4i|apply z5i|apply z6i|refine z7i ?_ GE264.out)|exact HB.out))) : w.heap.size ≤ gb274));have n4_ := z0i ((by rw [hg];exact (y7i (by repeat (first|(with_reducible first|exact HB.out|apply z4i|apply z5i|apply z6i|refine z7i ?_ GE264.out)|exact HB.out))) : w.heap.size ≤ gb274));have n5_ := z0i ((by rw [hg];exact Nat.ne_of_lt (blk_lt (g := gb264) (o := .cells #[.int .i64 ((rd_T60 l0 x13_1).f0), .int .i64 ((rd_T60 l0 x13_1).f1), .int .i64 ((rd_T60 l0 x13_1).f2)] 60 (0, 0)) (by (with_reducible repeat (first|refine z1i ?_ _|refine z3i ?_|refine z2i ?_ _));exact BK264.out)) : gb264 ≠ gb274));have n6_ := z0i ((by rw [hg];exact Nat.ne_of_gt (blk_lt (g := gb264) (o := .cells #[.int .i64 ((rd_T60 l0 x13_1).f0), .int .i64 ((rd_T60 l0 x13_1).f1), .int .i64 ((rd_T60 l0 x13_1).f2)] 60 (0, 0)) (by (with_reducible repeat (first|refine z1i ?_ _|refine z3i ?_|refine z2i ?_ _));exact BK264.out)) : gb274 ≠ gb264));clear BK264;clear HB;have BK264 := n0_;have HB := n1_;have BK274 := n2_;have GW274 := n3_;have GE274 := n4_;have NB264_274 := n5_;have NB274_264 := n6_;clear n0_ n1_ n2_ n3_ n4_ n5_ n6_;clear hb hbox hg;have hnb37 := NB274_264.out;have hnc37 := NB264_274.out;have hcz38_0 : w36.cell? ⟨gb274, 0, none⟩ = some (.int .i64 0) := (x3i BK274.out 0).trans rfl;have hcz38_1 : w36.cell? ⟨gb274, 1, none⟩ = some (.int .i64 0) := (x3i BK274.out 1).trans rfl;have hcz38_2 : w36.cell? ⟨gb274, 2, none⟩ = some (.int .i64 0) := (x3i BK274.out 2).trans rfl;have hfz38_0 := x2i BK274.out 0;have hfz38_1 := x2i BK274.out 1;have hfz38_2 := x2i BK274.out 2;have hcz39_0 : w36.cell? ⟨gb264, 0, none⟩ = some (.int .i64 ((rd_T60 l0 x13_1).f0)) := (x3i BK264.out 0).trans rfl;have hcz39_1 : w36.cell? ⟨gb264, 1, none⟩ = some (.int .i64 ((rd_T60 l0 x13_1).f1)) := (x3i BK264.out 1).trans rfl;have hcz39_2 : w36.cell? ⟨gb264, 2, none⟩ = some (.int .i64 ((rd_T60 l0 x13_1).f2)) := (x3i BK264.out 2).trans rfl;have hfz39_0 := x2i BK264.out 0;have hfz39_1 := x2i BK264.out 1;have hfz39_2 := x2i BK264.out 2))
                   go_roundg k3
                   case measure => have := HK1.out;have := HJ6.out;have := HK3.out;omega
                   case rel => exact ⟨(wrap64 (x48_3 + 1)), (by first |rfl|(simp;done)|(simp [*];done)), H', ⟨by have := HK1.out;have := HJ6.out;have := HK3.out;omega⟩, ⟨by (with_reducible repeat (first|refine z1i ?_ _|refine z3i ?_|refine z2i ?_ _));refine blk_far ?_ NB264_274.out _;(with_reducible repeat (first|refine z1i ?_ _|refine z3i ?_|refine z2i ?_ _));refine blk_far ?_ NB264_274.out _;(with_reducible repeat (first|refine z1i ?_ _|refine z3i ?_|refine z2i ?_ _));refine blk_far ?_ NB264_274.out _;(with_reducible repeat (first|refine z1i ?_ _|refine z3i ?_|refine z2i ?_ _));exact BK264.out⟩, ⟨by repeat (first|(with_reducible first|exact HB.out|apply z4i|apply z5i|apply z6i|refine z7i ?_ GE264.out|refine z7i ?_ GE274.out)|exact HB.out)⟩⟩
                 ·rw [if_neg c30] at H
                  have c30b0 : (((rd_T60 l0 x13_1).f0) == ((rd_T60 y269 x48_3).f0)) = false := beq_eq_false_iff_ne.mpr c30
                  have c30b1 : (((rd_T60 l0 x13_1).f0) != ((rd_T60 y269 x48_3).f0)) = true := bne_iff_ne.mpr c30
                  have H' := z0i H
                  clear H
                  have p273 : 0 ≤ (x48_3 : Int) := of_decide_eq_true (by first|(with_reducible assumption) | assumption)
                  have q273 : x48_3 < (y269.length : Int) := of_decide_eq_true (by first|(with_reducible assumption) | assumption)
                  obtain ⟨ad273, e273, hx273_0, hx273_1, hx273_2⟩ := at_T60 HR272.out x48_3 p273 q273
                  obtain rfl : ad263 = ad273 := (by injection e273)
                  replace hx273_0 := (HB.out.cell (World.block_lt_of_cell? w _ hx273_0)).trans hx273_0
                  replace hx273_1 := (HB.out.cell (World.block_lt_of_cell? w _ hx273_1)).trans hx273_1
                  replace hx273_2 := (HB.out.cell (World.block_lt_of_cell? w _ hx273_2)).trans hx273_2
                  replace p273 := eq_true p273
                  replace q273 := eq_true q273
                  go_wp2_with (first|((with_reducible refine gate_dst (N := 6) rfl ?_);refine box_event ?hg (N := 6) ?hd (cs := #[.int .i64 0, .int .i64 0, .int .i64 0]) (t := 60) ?hr ?_;(case hd => rfl);(case hg => rfl);(case hr => first|(go_simp;done)|(go_simp;rfl));intro gb274 hg w40 hbox hb;have n0_ := z0i (blk_below (g := gb264) (o := .cells #[.int .i64 ((rd_T60 l0 x13_1).f0), .int .i64 ((rd_T60 l0 x13_1).f1), .int .i64 ((rd_T60 l0 x13_1).f2)] 60 (0, 0)) (by (with_reducible repeat (first|refine z1i ?_ _|refine z3i ?_|refine z2i ?_ _));exact BK264.out) hb);have n1_ := z0i (below_step (by repeat (first|(with_reducible first|exact HB.out|apply z4i|apply z5i|apply z6i|refine z7i ?_ GE264.out)|exact HB.out)) hb);have n2_ := z0i (hbox);have n3_ := z0i ((by rw [hg];exact (y7i (by repeat (first|(with_reducible first|exact HB.out|apply z4i|apply z5i|apply z6i|refine z7i ?_ GE264.out)|exact HB.out))) : w.heap.size ≤ gb274));have n4_ := z0i ((by rw [hg];exact (y7i (by repeat (first|(with_reducible first|exact HB.out|apply z4i|apply z5i|apply z6i|refine z7i ?_ GE264.out)|exact HB.out))) : w.heap.size ≤ gb274));have n5_ := z0i ((by rw [hg];exact Nat.ne_of_lt (blk_lt (g := gb264) (o := .cells #[.int .i64 ((rd_T60 l0 x13_1).f0), .int .i64 ((rd_T60 l0 x13_1).f1), .int .i64 ((rd_T60 l0 x13_1).f2)] 60 (0, 0)) (by (with_reducible repeat (first|refine z1i ?_ _|refine z3i ?_|refine z2i ?_ _));exact BK264.out)) : gb264 ≠ gb274));have n6_ := z0i ((by rw [hg];exact Nat.ne_of_gt (blk_lt (g := gb264) (o := .cells #[.int .i64 ((rd_T60 l0 x13_1).f0), .int .i64 ((rd_T60 l0 x13_1).f1), .int .i64 ((rd_T60 l0 x13_1).f2)] 60 (0, 0)) (by (with_reducible repeat (first|refine z1i ?_ _|refine z3i ?_|refine z2i ?_ _));exact BK264.out)) : gb274 ≠ gb264));clear BK264;clear HB;have BK264 := n0_;have HB := n1_;have BK274 := n2_;have GW274 := n3_;have GE274 := n4_;have NB264_274 := n5_;have NB274_264 := n6_;clear n0_ n1_ n2_ n3_ n4_ n5_ n6_;clear hb hbox hg;have hnb41 := NB274_264.out;have hnc41 := NB264_274.out;have hcz42_0 : w40.cell? ⟨gb274, 0, none⟩ = some (.int .i64 0) := (x3i BK274.out 0).trans rfl;have hcz42_1 : w40.cell? ⟨gb274, 1, none⟩ = some (.int .i64 0) := (x3i BK274.out 1).trans rfl;have hcz42_2 : w40.cell? ⟨gb274, 2, none⟩ = some (.int .i64 0) := (x3i BK274.out 2).trans rfl;have hfz42_0 := x2i BK274.out 0;have hfz42_1 := x2i BK274.out 1;have hfz42_2 := x2i BK274.out 2;have hcz43_0 : w40.cell? ⟨gb264, 0, none⟩ = some (.int .i64 ((rd_T60 l0 x13_1).f0)) := (x3i BK264.out 0).trans rfl;have hcz43_1 : w40.cell? ⟨gb264, 1, none⟩ = some (.int .i64 ((rd_T60 l0 x13_1).f1)) := (x3i BK264.out 1).trans rfl;have hcz43_2 : w40.cell? ⟨gb264, 2, none⟩ = some (.int .i64 ((rd_T60 l0 x13_1).f2)) := (x3i BK264.out 2).trans rfl;have hfz43_0 := x2i BK264.out 0;have hfz43_1 := x2i BK264.out 1;have hfz43_2 := x2i BK264.out 2))
                  go_roundg k3
                  case measure => have := HK1.out;have := HJ6.out;have := HK3.out;omega
                  case rel => exact ⟨(wrap64 (x48_3 + 1)), (by first |rfl|(simp;done)|(simp [*];done)), H', ⟨by have := HK1.out;have := HJ6.out;have := HK3.out;omega⟩, ⟨by (with_reducible repeat (first|refine z1i ?_ _|refine z3i ?_|refine z2i ?_ _));refine blk_far ?_ NB264_274.out _;(with_reducible repeat (first|refine z1i ?_ _|refine z3i ?_|refine z2i ?_ _));refine blk_far ?_ NB264_274.out _;(with_reducible repeat (first|refine z1i ?_ _|refine z3i ?_|refine z2i ?_ _));refine blk_far ?_ NB264_274.out _;(with_reducible repeat (first|refine z1i ?_ _|refine z3i ?_|refine z2i ?_ _));exact BK264.out⟩, ⟨by repeat (first|(with_reducible first|exact HB.out|apply z4i|apply z5i|apply z6i|refine z7i ?_ GE264.out|refine z7i ?_ GE274.out)|exact HB.out)⟩⟩
                ·rw [if_neg c29] at H
                 exact absurd H (by simp)
               ·rw [if_neg c28] at H
                exact absurd H (by simp)
              ·rw [if_neg c27] at H
               have c27b0 : decide (x48_3 < (y269.length : Int)) = false := decide_eq_false c27
               clear c27
               have H' := z0i H
               clear H
               go_wp2
               go_roundg k3
               case measure => have := HK1.out;have := HJ6.out;have := HK3.out;omega
               case rel => exact ⟨(wrap64 (x13_1 + 1)), (by first |rfl|(simp;done)|(simp [*];done)), H', ⟨by have := HK1.out;have := HJ6.out;have := HK3.out;omega⟩, ⟨by repeat (first|(with_reducible first|exact HB.out|apply z4i|apply z5i|apply z6i|refine z7i ?_ GE264.out)|exact HB.out)⟩⟩
           ·rw [if_neg c25] at H
            exact absurd H (by simp)
          ·rw [if_neg c24] at H
           exact absurd H (by simp)
      ·rw [if_neg c6] at H
       exact absurd H (by simp)
     ·rw [if_neg c5] at H
      exact absurd H (by simp)
    ·rw [if_neg c4] at H
     have c4b0 : decide (x13_1 < (l0.length : Int)) = false := decide_eq_false c4
     clear c4
     obtain rfl := Option.some.inj H
     go_wp2
     go_ret
     exact ⟨by first |rfl|(simp [errW_none, errW_some] <;> rfl)|(simp [*, errW_none, errW_some] <;> rfl), by repeat (first|(with_reducible first|exact HB.out|apply z4i|apply z5i|apply z6i)|exact HB.out)⟩
 ·replace c3 := Bool.eq_false_iff.mpr c3
  subst c3
  have H1 : (some false) = some r := by rw [if_neg (show ¬ (false = true) by decide)] at H;first|exact H|(simp only [if_true] at H ⊢;exact H)
  clear H
  have H := H1
  clear H1
  obtain rfl := Option.some.inj H
  go_enter Try.func39, Try.ntmps39
  go_wp2_with (first|((with_reducible refine gate_callee (f := 53) rfl ?_);refine goesL_ (some 9) rfl rfl Try.func53 (by kernel_rfl) rfl #[.int .i64 (l0.length : Int), .int .i64 1, .int .i64 12] rfl (by (try simp only [List.map_toArray, List.map_cons, List.map_nil]);first | done |rfl|(simp only [List.length_drop, List.length_take];rfl)) ?_;(with_reducible refine (spec_l1In.calls (l0.length : Int) 1 12 false _ A2.out).mono ?_);rintro e w' ⟨rfl, ⟨nd, rfl⟩⟩;refine ⟨_, rfl, ?_⟩))
  go_ret
  exact ⟨by first |rfl|(simp [errW_none, errW_some] <;> rfl)|(simp [*, errW_none, errW_some] <;> rfl), by repeat (first|(with_reducible first|exact HB.out|apply z4i|apply z5i|apply z6i)|exact HB.out)⟩

def spec_SteinKernel.f  : Option ((List (S60))) := some (([(⟨1, 0, 7⟩ : S60), (⟨(-1), 1, 3⟩ : S60), (⟨0, 1, 5⟩ : S60), (⟨1, 1, 1⟩ : S60)] : List (S60)))
set_option maxHeartbeats 8000000 in
set_option maxRecDepth 100000 in
theorem spec_SteinKernel.calls  (r : List (S60)) (w : World) (h : spec_SteinKernel.f  = some r) :
  Calls Try.prog 66 #[] w fun e w' => ∃ v0_ : Value, e = .returned (v0_) ∧ Kd.R k60 60 w' w.heap.size (fun _ => True) v0_ r ∧ Below w.heap.size w w' := by
 have hu60 := Try.underlying60
 have HB := z0i (Below.refl w.heap.size w)
 have H : (some (([(⟨1, 0, 7⟩ : S60), (⟨(-1), 1, 3⟩ : S60), (⟨0, 1, 5⟩ : S60), (⟨1, 1, 1⟩ : S60)] : List (S60)))) = some r := h
 clear h
 obtain ⟨y275, hy275⟩ : ∃ y_ : List (S60), y_ = (([(⟨1, 0, 7⟩ : S60), (⟨(-1), 1, 3⟩ : S60), (⟨0, 1, 5⟩ : S60), (⟨1, 1, 1⟩ : S60)] : List (S60))) := ⟨_, rfl⟩
 replace H : (some y275) = some r := by first|(rw [hy275];with_reducible exact H)|(have H2_ := (Option.bind_some _ _).symm.trans H;rw [hy275];with_reducible exact H2_)|(have H2_ := (Option.bind_some _ _).symm.trans H;with_reducible exact H2_) | with_reducible exact H|(rw [hy275];exact H)|exact H
 have Ny275 := z0i hy275
 clear hy275
 obtain rfl := Option.some.inj H
 go_enter Try.func66, Try.ntmps66
 go_wp2_with (first|((with_reducible refine gate_dst (N := 5) rfl ?_);refine Kd.R_lit k60 _ 60 ?hg (N := 5) ?hd (xs := ([(⟨1, 0, 7⟩ : S60), (⟨(-1), 1, 3⟩ : S60), (⟨0, 1, 5⟩ : S60), (⟨1, 1, 1⟩ : S60)] : List (S60))) (inner := [.int .i64 1, .int .i64 0, .int .i64 7, .int .i64 (-1), .int .i64 1, .int .i64 3, .int .i64 0, .int .i64 1, .int .i64 5, .int .i64 1, .int .i64 1, .int .i64 1]) (ok := fun _ => True) (okp := fun _ => True) ?hr ?hp (fun _ hk => hk) trivial (Below.refl _ _) (Nat.le_refl _) (by simp) ?_;(case hd => rfl);(case hg => rfl);(case hr => first|(go_simp;done)|(go_simp;rfl));(case hp => exact (Reps.c3 (show Kd.M k60 _ _ _ (⟨1, 0, 7⟩ : S60) [.int .i64 1, .int .i64 0, .int .i64 7] from (k60_mkM _ _ _ (⟨1, 0, 7⟩ : S60) )) (Reps.c3 (show Kd.M k60 _ _ _ (⟨(-1), 1, 3⟩ : S60) [.int .i64 (-1), .int .i64 1, .int .i64 3] from (k60_mkM _ _ _ (⟨(-1), 1, 3⟩ : S60) )) (Reps.c3 (show Kd.M k60 _ _ _ (⟨0, 1, 5⟩ : S60) [.int .i64 0, .int .i64 1, .int .i64 5] from (k60_mkM _ _ _ (⟨0, 1, 5⟩ : S60) )) (Reps.c3 (show Kd.M k60 _ _ _ (⟨1, 1, 1⟩ : S60) [.int .i64 1, .int .i64 1, .int .i64 1] from (k60_mkM _ _ _ (⟨1, 1, 1⟩ : S60) )) (Reps.none _ _))))));intro v276 w1 ho2 hb hg_ hnew_;clear hg_ hnew_;(first | rw [← Ny275.out] at ho2|(simp only [Int.reduceToNat] at ho2;rw [← Ny275.out] at ho2));have n0_ := z0i (Kd.R_lower ho2 (y7i (by repeat (first|(with_reducible first|exact HB.out|apply z4i|apply z5i|apply z6i)|exact HB.out))));have n1_ := z0i (below_step (by repeat (first|(with_reducible first|exact HB.out|apply z4i|apply z5i|apply z6i)|exact HB.out)) hb);clear HB;have HO277 := n0_;have HB := n1_;clear n0_ n1_;clear hb ho2))
 go_ret
 exact ⟨_, by first |rfl|(simp [errW_none, errW_some] <;> rfl)|(simp [*, errW_none, errW_some] <;> rfl), by (with_reducible repeat (first|apply Kd.R_alloc|apply Kd.R_drewN|apply Kd.R_drew));exact HO277.out, by repeat (first|(with_reducible first|exact HB.out|apply z4i|apply z5i|apply z6i)|exact HB.out)⟩

def spec_PlainKernel.f  : Option ((List (S60))) := some (([(⟨1, 0, 1⟩ : S60)] : List (S60)))
set_option maxHeartbeats 8000000 in
set_option maxRecDepth 100000 in
theorem spec_PlainKernel.calls  (r : List (S60)) (w : World) (h : spec_PlainKernel.f  = some r) :
  Calls Try.prog 67 #[] w fun e w' => ∃ v0_ : Value, e = .returned (v0_) ∧ Kd.R k60 60 w' w.heap.size (fun _ => True) v0_ r ∧ Below w.heap.size w w' := by
 have hu60 := Try.underlying60
 have HB := z0i (Below.refl w.heap.size w)
 have H : (some (([(⟨1, 0, 1⟩ : S60)] : List (S60)))) = some r := h
 clear h
 obtain ⟨y278, hy278⟩ : ∃ y_ : List (S60), y_ = (([(⟨1, 0, 1⟩ : S60)] : List (S60))) := ⟨_, rfl⟩
 replace H : (some y278) = some r := by first|(rw [hy278];with_reducible exact H)|(have H2_ := (Option.bind_some _ _).symm.trans H;rw [hy278];with_reducible exact H2_)|(have H2_ := (Option.bind_some _ _).symm.trans H;with_reducible exact H2_) | with_reducible exact H|(rw [hy278];exact H)|exact H
 have Ny278 := z0i hy278
 clear hy278
 obtain rfl := Option.some.inj H
 go_enter Try.func67, Try.ntmps67
 go_wp2_with (first|((with_reducible refine gate_dst (N := 2) rfl ?_);refine Kd.R_lit k60 _ 60 ?hg (N := 2) ?hd (xs := ([(⟨1, 0, 1⟩ : S60)] : List (S60))) (inner := [.int .i64 1, .int .i64 0, .int .i64 1]) (ok := fun _ => True) (okp := fun _ => True) ?hr ?hp (fun _ hk => hk) trivial (Below.refl _ _) (Nat.le_refl _) (by simp) ?_;(case hd => rfl);(case hg => rfl);(case hr => first|(go_simp;done)|(go_simp;rfl));(case hp => exact (Reps.c3 (show Kd.M k60 _ _ _ (⟨1, 0, 1⟩ : S60) [.int .i64 1, .int .i64 0, .int .i64 1] from (k60_mkM _ _ _ (⟨1, 0, 1⟩ : S60) )) (Reps.none _ _)));intro v279 w1 ho2 hb hg_ hnew_;clear hg_ hnew_;(first | rw [← Ny278.out] at ho2|(simp only [Int.reduceToNat] at ho2;rw [← Ny278.out] at ho2));have n0_ := z0i (Kd.R_lower ho2 (y7i (by repeat (first|(with_reducible first|exact HB.out|apply z4i|apply z5i|apply z6i)|exact HB.out))));have n1_ := z0i (below_step (by repeat (first|(with_reducible first|exact HB.out|apply z4i|apply z5i|apply z6i)|exact HB.out)) hb);clear HB;have HO280 := n0_;have HB := n1_;clear n0_ n1_;clear hb ho2))
 go_ret
 exact ⟨_, by first |rfl|(simp [errW_none, errW_some] <;> rfl)|(simp [*, errW_none, errW_some] <;> rfl), by (with_reducible repeat (first|apply Kd.R_alloc|apply Kd.R_drewN|apply Kd.R_drew));exact HO280.out, by repeat (first|(with_reducible first|exact HB.out|apply z4i|apply z5i|apply z6i)|exact HB.out)⟩

end Go.Proofs.Ytnohdgbfgdnpfaa.PFnCausal
