/- Machine side of laws FnCausal: written for this claim by the kit's print program under this session's wip/tools/mp_setup.py (with contracts of the session's own, wip/ext). -/
import Derived.Test.YtnohdgbfgdnpfaaPFnCausalx0
namespace Go.Proofs.Ytnohdgbfgdnpfaa.PFnCausal
open Go.RowKit Go.Proofs.YtnohdgbfgdnpfaaW.PrintWords Go.Proofs.YtnohdgbfgdnpfaaW.PrintLast Go.Proofs.YtnohdgbfgdnpfaaW.PrintMore
attribute [local go_sem] max2_int min2_int max_two min_two max_three min_three max_four min_four   -- for this text's walks alone
set_option linter.unusedVariables false
set_option linter.unusedSimpArgs false
-- squeezed: words under short names
set_option linter.defProp false in
def z0e := @Aside0.mk
set_option linter.defProp false in
def z1e := @blk_drewN
set_option linter.defProp false in
def z2e := @blk_alloc
set_option linter.defProp false in
def z3e := @blk_drew
set_option linter.defProp false in
def z4e := @below_alloc
set_option linter.defProp false in
def z5e := @pw_below_drewN
set_option linter.defProp false in
def z6e := @below_drew1
set_option linter.defProp false in
def z7e := @below_set
set_option linter.defProp false in
def x2e := @blk_frozen
set_option linter.defProp false in
def x3e := @blk_cell
def bse_ (n m : Nat) : Array Bool := ((List.range n).map fun i => m.testBit i).toArray
theorem s1e_ {α : Type} (l : List α) (i : Nat) (a : α) : l.toArray.setIfInBounds i a = (l.set i a).toArray := List.setIfInBounds_toArray l i a
theorem s2e_ {α : Type} (a b : α) (l : List α) : (a :: l).set 0 b = b :: l := rfl
theorem s3e_ {α : Type} (a b : α) (n : Nat) (l : List α) : (a :: l).set (n + 1) b = a :: l.set n b := rfl

mutual
def impl_IsKernel.j0 : Nat → List (S60) → Bool → Option (Bool)
 | 0, _, _ => none
 | k + 1, x0, x14 => if x14 = true then (some false) else (impl_IsKernel.l0 k x0 x0 (x0.length : Int) 0)
def impl_IsKernel.l0 : Nat → List (S60) → List (S60) → Int → Int → Option (Bool)
 | 0, _, _, _, _ => none
 | k + 1, x0, x15, x16, x17 => if x17 < x16 then (if 0 ≤ x17 then (if x17 < (x15.length : Int) then (if ((rd_T60 x15 x17).f0) < (-4) then (impl_IsKernel.j2 k x0 x17 x15 x16 x17 true ((rd_T60 x15 x17).f0) ((rd_T60 x15 x17).f1) ((rd_T60 x15 x17).f2)) else (if ((rd_T60 x15 x17).f0) > 4 then (impl_IsKernel.j2 k x0 x17 x15 x16 x17 true ((rd_T60 x15 x17).f0) ((rd_T60 x15 x17).f1) ((rd_T60 x15 x17).f2)) else (if ((rd_T60 x15 x17).f1) < 0 then (impl_IsKernel.j2 k x0 x17 x15 x16 x17 true ((rd_T60 x15 x17).f0) ((rd_T60 x15 x17).f1) ((rd_T60 x15 x17).f2)) else (if ((rd_T60 x15 x17).f1) > 4 then (impl_IsKernel.j2 k x0 x17 x15 x16 x17 true ((rd_T60 x15 x17).f0) ((rd_T60 x15 x17).f1) ((rd_T60 x15 x17).f2)) else (if ((rd_T60 x15 x17).f1) = 0 then (if ((rd_T60 x15 x17).f0) < 1 then (impl_IsKernel.j2 k x0 x17 x15 x16 x17 true ((rd_T60 x15 x17).f0) ((rd_T60 x15 x17).f1) ((rd_T60 x15 x17).f2)) else (if ((rd_T60 x15 x17).f2) < 1 then (impl_IsKernel.j2 k x0 x17 x15 x16 x17 true ((rd_T60 x15 x17).f0) ((rd_T60 x15 x17).f1) ((rd_T60 x15 x17).f2)) else (impl_IsKernel.j2 k x0 x17 x15 x16 x17 (decide (((rd_T60 x15 x17).f2) > 100)) ((rd_T60 x15 x17).f0) ((rd_T60 x15 x17).f1) ((rd_T60 x15 x17).f2)))) else (if ((rd_T60 x15 x17).f2) < 1 then (impl_IsKernel.j2 k x0 x17 x15 x16 x17 true ((rd_T60 x15 x17).f0) ((rd_T60 x15 x17).f1) ((rd_T60 x15 x17).f2)) else (impl_IsKernel.j2 k x0 x17 x15 x16 x17 (decide (((rd_T60 x15 x17).f2) > 100)) ((rd_T60 x15 x17).f0) ((rd_T60 x15 x17).f1) ((rd_T60 x15 x17).f2)))))))) else (none)) else (none)) else (some true)
def impl_IsKernel.j2 : Nat → List (S60) → Int → List (S60) → Int → Int → Bool → Int → Int → Int → Option (Bool)
 | 0, _, _, _, _, _, _, _, _, _ => none
 | k + 1, x0, x3, x15, x16, x17, x59, x181000, x181001, x181002 => if x59 = true then (some false) else (if 0 ≤ x3 then (if x3 ≤ (x0.length : Int) then ((some (x0.take (x3 : Int).toNat : List (S60))).bind fun y181 => (impl_IsKernel.l1 k x0 x15 x16 x17 y181 (y181.length : Int) 0 x181000 x181001 x181002)) else (none)) else (none))
def impl_IsKernel.l1 : Nat → List (S60) → List (S60) → Int → Int → List (S60) → Int → Int → Int → Int → Int → Option (Bool)
 | 0, _, _, _, _, _, _, _, _, _, _ => none
 | k + 1, x0, x15, x16, x17, x62, x63, x64, x181000, x181001, x181002 => if x64 < x63 then (if 0 ≤ x64 then (if x64 < (x62.length : Int) then (if x181000 = ((rd_T60 x62 x64).f0) then (if x181001 = ((rd_T60 x62 x64).f1) then (some false) else (impl_IsKernel.l1 k x0 x15 x16 x17 x62 x63 (wrap64 (x64 + 1)) x181000 x181001 x181002)) else (impl_IsKernel.l1 k x0 x15 x16 x17 x62 x63 (wrap64 (x64 + 1)) x181000 x181001 x181002)) else (none)) else (none)) else (impl_IsKernel.l0 k x0 x15 x16 (wrap64 (x17 + 1)))
end
def impl_IsKernel.f (k : Nat) (l0 : List (S60)) : Option (Bool) := if (l0.length : Int) < 1 then (impl_IsKernel.j0 k l0 true) else (impl_IsKernel.j0 k l0 (decide ((l0.length : Int) > 12)))
set_option maxHeartbeats 8000000 in
set_option maxRecDepth 100000 in
theorem impl_IsKernel.calls (k : Nat) (A0 : Option Addr) (c0 : Nat) (l0 : List (S60)) (r : Bool) (w : World) (hr0 : Kd.C k60 w A0 l0.length l0) (hc0 : l0.length ≤ c0) (h : impl_IsKernel.f k l0 = some r) :
  Calls Try.prog 9 #[.slice A0 l0.length c0] w fun e w' => e = .returned (.bool r) ∧ Below w.heap.size w w' := by
 have hu60 := Try.underlying60
 have HR0 := z0e hr0
 have HC0 := z0e hc0
 clear hr0 hc0
 have HB := z0e (Below.refl w.heap.size w)
 have H : (if (l0.length : Int) < 1 then (impl_IsKernel.j0 k l0 true) else (impl_IsKernel.j0 k l0 (decide ((l0.length : Int) > 12)))) = some r := h
 clear h
 have HC2 := z0e H
 clear H
 go_enter Try.func9, Try.ntmps9
 go_upto_region 1 with (fail)
 go_cut [14] (fun v14 wc => ∃ (kq : Nat) (x14_1 : Bool), v14 = .bool x14_1 ∧ Aside0 (impl_IsKernel.j0 kq l0 x14_1 = some r) ∧ Aside0 (kq ≤ k) ∧ Aside0 (Below w.heap.size w wc))
 case first =>
  have H := HC2.out
  clear HC2
  by_cases c3 : (l0.length : Int) < 1
  ·rw [if_pos c3] at H
   have c3b0 : decide ((l0.length : Int) < 1) = true := decide_eq_true c3
   have c3b1 : decide (l0.length < 1) = true := decide_eq_true (by omega)
   clear c3
   (first | rw [c3b0]|(simp only [i64_w, i32_w];rw [c3b0]) | skip)
   have H' := z0e H
   clear H
   go_wp2
   go_meet
   case rel => exact ⟨_, (true), (by first |rfl|(simp;done)|(simp [*];done)), H', ⟨by first | omega|exact Nat.le_refl _⟩, ⟨by repeat (first|(with_reducible first|exact HB.out|apply z4e|apply z5e|apply z6e)|exact HB.out)⟩⟩
  ·rw [if_neg c3] at H
   have c3b0 : decide ((l0.length : Int) < 1) = false := decide_eq_false c3
   have c3b1 : decide (l0.length < 1) = false := decide_eq_false (by omega)
   clear c3
   (first | rw [c3b0]|(simp only [i64_w, i32_w];rw [c3b0]) | skip)
   have H' := z0e H
   clear H
   go_wp2
   go_meet
   case rel => exact ⟨_, (decide ((l0.length : Int) > 12)), (by first |rfl|(simp;done)|(simp [*];done)), H', ⟨by first | omega|exact Nat.le_refl _⟩, ⟨by repeat (first|(with_reducible first|exact HB.out|apply z4e|apply z5e|apply z6e)|exact HB.out)⟩⟩
 case rest =>
  clear HC2
  (try clear p2);(try clear c3);(try clear c3b0);(try clear c3b1)
  obtain ⟨kq, x14_1, rfl, HA, HJ1, HB⟩ := hcut
  cases kq with
  | zero => exact absurd HA.out (by simp [impl_IsKernel.j0])
  | succ kj1 =>
   have H := HA.out
   clear HA
   simp only [impl_IsKernel.j0] at H
   by_cases c4 : x14_1 = true
   ·subst c4
    have H1 : (some false) = some r := by rw [if_pos rfl] at H;first|exact H|(simp only [if_true] at H ⊢;exact H)
    clear H
    have H := H1
    clear H1
    obtain rfl := Option.some.inj H
    go_wp2
    go_ret
    exact ⟨by first |rfl|(simp [errW_none, errW_some] <;> rfl)|(simp [*, errW_none, errW_some] <;> rfl), by repeat (first|(with_reducible first|exact HB.out|apply z4e|apply z5e|apply z6e)|exact HB.out)⟩
   ·replace c4 := Bool.eq_false_iff.mpr c4
    subst c4
    have H1 : (impl_IsKernel.l0 kj1 l0 l0 (l0.length : Int) 0) = some r := by rw [if_neg (show ¬ (false = true) by decide)] at H;first|exact H|(simp only [if_true] at H ⊢;exact H)
    clear H
    have H := H1
    clear H1
    have H' := z0e H
    clear H
    go_wp2
    go_loopg [17] kj1 (fun kq v17 w' => ∃ (x17_2 : Int), v17 = .int .i64 x17_2 ∧ Aside0 (impl_IsKernel.l0 kq l0 l0 (l0.length : Int) x17_2 = some r) ∧ Aside0 (kq ≤ kj1) ∧ Aside0 (Below w.heap.size w w'))
    case atStart => exact ⟨(0), (by first |rfl|(simp;done)|(simp [*];done)), H', ⟨Nat.le_refl _⟩, ⟨by repeat (first|(with_reducible first|exact HB.out|apply z4e|apply z5e|apply z6e)|exact HB.out)⟩⟩
    case round =>
     clear H'
     (try clear p2);(try clear c3);(try clear c3b0);(try clear c3b1);(try clear c4);(try clear p2)
     obtain ⟨x17_2, rfl, HA, HK2, HB⟩ := hrel
     cases gk with
     | zero => exact absurd HA.out (by simp [impl_IsKernel.l0])
     | succ k2 =>
      have H := HA.out
      clear HA
      simp only [impl_IsKernel.l0] at H
      by_cases c5 : x17_2 < (l0.length : Int)
      ·rw [if_pos c5] at H
       have c5b0 : decide (x17_2 < (l0.length : Int)) = true := decide_eq_true c5
       clear c5
       by_cases c6 : 0 ≤ x17_2
       ·rw [if_pos c6] at H
        have c6b0 : decide (0 ≤ x17_2) = true := decide_eq_true c6
        clear c6
        by_cases c7 : x17_2 < (l0.length : Int)
        ·rw [if_pos c7] at H
         have c7b0 : decide (x17_2 < (l0.length : Int)) = true := decide_eq_true c7
         clear c7
         have HC8 := z0e H
         clear H
         have p179 : 0 ≤ (x17_2 : Int) := of_decide_eq_true (by first|(with_reducible assumption) | assumption)
         have q179 : x17_2 < (l0.length : Int) := of_decide_eq_true (by first|(with_reducible assumption) | assumption)
         obtain ⟨ad179, e179, hx179_0, hx179_1, hx179_2⟩ := at_T60 HR0.out x17_2 p179 q179
         cases e179
         replace hx179_0 := (HB.out.cell (World.block_lt_of_cell? w _ hx179_0)).trans hx179_0
         replace hx179_1 := (HB.out.cell (World.block_lt_of_cell? w _ hx179_1)).trans hx179_1
         replace hx179_2 := (HB.out.cell (World.block_lt_of_cell? w _ hx179_2)).trans hx179_2
         replace p179 := eq_true p179
         replace q179 := eq_true q179
         go_upto_region 6 with (first|((with_reducible refine gate_dst (N := 4) rfl ?_);(try (refine gate_guard (by rfl) ?_;dsimp only));refine box_event ?hg (N := 4) ?hd (cs := #[.int .i64 0, .int .i64 0, .int .i64 0]) (t := 60) ?hr ?_;(case hd => rfl);(case hg => rfl);(case hr => first|(go_simp;done)|(go_simp;rfl));intro gb180 hg w9 hbox hb;have n0_ := z0e (below_step (by repeat (first|(with_reducible first|exact HB.out|apply z4e|apply z5e|apply z6e)|exact HB.out)) hb);have n1_ := z0e (hbox);have n2_ := z0e ((by rw [hg];exact (below_size (by repeat (first|(with_reducible first|exact HB.out|apply z4e|apply z5e|apply z6e)|exact HB.out))) : w.heap.size ≤ gb180));have n3_ := z0e ((by rw [hg];exact (below_size (by repeat (first|(with_reducible first|exact HB.out|apply z4e|apply z5e|apply z6e)|exact HB.out))) : w.heap.size ≤ gb180));clear HB;have HB := n0_;have BK180 := n1_;have GW180 := n2_;have GE180 := n3_;clear n0_ n1_ n2_ n3_;clear hb hbox hg;have hcz10_0 : w9.cell? ⟨gb180, 0, none⟩ = some (.int .i64 0) := (x3e BK180.out 0).trans rfl;have hcz10_1 : w9.cell? ⟨gb180, 1, none⟩ = some (.int .i64 0) := (x3e BK180.out 1).trans rfl;have hcz10_2 : w9.cell? ⟨gb180, 2, none⟩ = some (.int .i64 0) := (x3e BK180.out 2).trans rfl;have hfz10_0 := x2e BK180.out 0;have hfz10_1 := x2e BK180.out 1;have hfz10_2 := x2e BK180.out 2))
         (try simp only [Act.put, s1e_, s2e_, s3e_])
         go_cut [59] (fun v59 wc => ∃ (kq : Nat) (x59_7 : Bool), v59 = .bool x59_7 ∧ Aside0 (impl_IsKernel.j2 kq l0 x17_2 l0 (l0.length : Int) x17_2 x59_7 ((rd_T60 l0 x17_2).f0) ((rd_T60 l0 x17_2).f1) ((rd_T60 l0 x17_2).f2) = some r) ∧ Aside0 (kq ≤ k2) ∧ Aside0 (wc.heap[gb180]? = some (.cells #[.int .i64 ((rd_T60 l0 x17_2).f0), .int .i64 ((rd_T60 l0 x17_2).f1), .int .i64 ((rd_T60 l0 x17_2).f2)] 60 (0, 0))) ∧ Aside0 (Below w.heap.size w wc))
         case first =>
          have H := HC8.out
          clear HC8
          by_cases c11 : ((rd_T60 l0 x17_2).f0) < (-4)
          ·rw [if_pos c11] at H
           have c11b0 : decide (((rd_T60 l0 x17_2).f0) < (-4)) = true := decide_eq_true c11
           clear c11
           (first | rw [c11b0]|(simp only [i64_w, i32_w];rw [c11b0]) | skip)
           have H' := z0e H
           clear H
           have hcz12_0 : w9.cell? ⟨gb180, 0, none⟩ = some (.int .i64 0) := (x3e BK180.out 0).trans rfl
           have hcz12_1 : w9.cell? ⟨gb180, 1, none⟩ = some (.int .i64 0) := (x3e BK180.out 1).trans rfl
           have hcz12_2 : w9.cell? ⟨gb180, 2, none⟩ = some (.int .i64 0) := (x3e BK180.out 2).trans rfl
           have hfz12_0 := x2e BK180.out 0
           have hfz12_1 := x2e BK180.out 1
           have hfz12_2 := x2e BK180.out 2
           go_wp2
           go_meet
           case rel => exact ⟨_, (true), (by first |rfl|(simp;done)|(simp [*];done)), H', ⟨by have := HJ1.out;have := HK2.out;first | omega|exact Nat.le_refl _⟩, ⟨by (with_reducible repeat (first|refine z1e ?_ _|refine z3e ?_|refine z2e ?_ _));refine blk_put (cs := #[.int .i64 ((rd_T60 l0 x17_2).f0), .int .i64 ((rd_T60 l0 x17_2).f1), .int .i64 0]) ?_ 2 _ rfl;(with_reducible repeat (first|refine z1e ?_ _|refine z3e ?_|refine z2e ?_ _));refine blk_put (cs := #[.int .i64 ((rd_T60 l0 x17_2).f0), .int .i64 0, .int .i64 0]) ?_ 1 _ rfl;(with_reducible repeat (first|refine z1e ?_ _|refine z3e ?_|refine z2e ?_ _));refine blk_put (cs := #[.int .i64 0, .int .i64 0, .int .i64 0]) ?_ 0 _ rfl;(with_reducible repeat (first|refine z1e ?_ _|refine z3e ?_|refine z2e ?_ _));exact BK180.out⟩, ⟨by repeat (first|(with_reducible first|exact HB.out|apply z4e|apply z5e|apply z6e|refine z7e ?_ GE180.out)|exact HB.out)⟩⟩
          ·rw [if_neg c11] at H
           have c11b0 : decide (((rd_T60 l0 x17_2).f0) < (-4)) = false := decide_eq_false c11
           clear c11
           (first | rw [c11b0]|(simp only [i64_w, i32_w];rw [c11b0]) | skip)
           by_cases c13 : ((rd_T60 l0 x17_2).f0) > 4
           ·rw [if_pos c13] at H
            have c13b0 : decide (4 < ((rd_T60 l0 x17_2).f0)) = true := decide_eq_true c13
            clear c13
            have H' := z0e H
            clear H
            have hcz14_0 : w9.cell? ⟨gb180, 0, none⟩ = some (.int .i64 0) := (x3e BK180.out 0).trans rfl
            have hcz14_1 : w9.cell? ⟨gb180, 1, none⟩ = some (.int .i64 0) := (x3e BK180.out 1).trans rfl
            have hcz14_2 : w9.cell? ⟨gb180, 2, none⟩ = some (.int .i64 0) := (x3e BK180.out 2).trans rfl
            have hfz14_0 := x2e BK180.out 0
            have hfz14_1 := x2e BK180.out 1
            have hfz14_2 := x2e BK180.out 2
            go_wp2
            go_meet
            case rel => exact ⟨_, (true), (by first |rfl|(simp;done)|(simp [*];done)), H', ⟨by have := HJ1.out;have := HK2.out;first | omega|exact Nat.le_refl _⟩, ⟨by (with_reducible repeat (first|refine z1e ?_ _|refine z3e ?_|refine z2e ?_ _));refine blk_put (cs := #[.int .i64 ((rd_T60 l0 x17_2).f0), .int .i64 ((rd_T60 l0 x17_2).f1), .int .i64 0]) ?_ 2 _ rfl;(with_reducible repeat (first|refine z1e ?_ _|refine z3e ?_|refine z2e ?_ _));refine blk_put (cs := #[.int .i64 ((rd_T60 l0 x17_2).f0), .int .i64 0, .int .i64 0]) ?_ 1 _ rfl;(with_reducible repeat (first|refine z1e ?_ _|refine z3e ?_|refine z2e ?_ _));refine blk_put (cs := #[.int .i64 0, .int .i64 0, .int .i64 0]) ?_ 0 _ rfl;(with_reducible repeat (first|refine z1e ?_ _|refine z3e ?_|refine z2e ?_ _));exact BK180.out⟩, ⟨by repeat (first|(with_reducible first|exact HB.out|apply z4e|apply z5e|apply z6e|refine z7e ?_ GE180.out)|exact HB.out)⟩⟩
           ·rw [if_neg c13] at H
            have c13b0 : decide (4 < ((rd_T60 l0 x17_2).f0)) = false := decide_eq_false c13
            clear c13
            by_cases c15 : ((rd_T60 l0 x17_2).f1) < 0
            ·rw [if_pos c15] at H
             have c15b0 : decide (((rd_T60 l0 x17_2).f1) < 0) = true := decide_eq_true c15
             clear c15
             have H' := z0e H
             clear H
             have hcz16_0 : w9.cell? ⟨gb180, 0, none⟩ = some (.int .i64 0) := (x3e BK180.out 0).trans rfl
             have hcz16_1 : w9.cell? ⟨gb180, 1, none⟩ = some (.int .i64 0) := (x3e BK180.out 1).trans rfl
             have hcz16_2 : w9.cell? ⟨gb180, 2, none⟩ = some (.int .i64 0) := (x3e BK180.out 2).trans rfl
             have hfz16_0 := x2e BK180.out 0
             have hfz16_1 := x2e BK180.out 1
             have hfz16_2 := x2e BK180.out 2
             go_wp2
             go_meet
             case rel => exact ⟨_, (true), (by first |rfl|(simp;done)|(simp [*];done)), H', ⟨by have := HJ1.out;have := HK2.out;first | omega|exact Nat.le_refl _⟩, ⟨by (with_reducible repeat (first|refine z1e ?_ _|refine z3e ?_|refine z2e ?_ _));refine blk_put (cs := #[.int .i64 ((rd_T60 l0 x17_2).f0), .int .i64 ((rd_T60 l0 x17_2).f1), .int .i64 0]) ?_ 2 _ rfl;(with_reducible repeat (first|refine z1e ?_ _|refine z3e ?_|refine z2e ?_ _));refine blk_put (cs := #[.int .i64 ((rd_T60 l0 x17_2).f0), .int .i64 0, .int .i64 0]) ?_ 1 _ rfl;(with_reducible repeat (first|refine z1e ?_ _|refine z3e ?_|refine z2e ?_ _));refine blk_put (cs := #[.int .i64 0, .int .i64 0, .int .i64 0]) ?_ 0 _ rfl;(with_reducible repeat (first|refine z1e ?_ _|refine z3e ?_|refine z2e ?_ _));exact BK180.out⟩, ⟨by repeat (first|(with_reducible first|exact HB.out|apply z4e|apply z5e|apply z6e|refine z7e ?_ GE180.out)|exact HB.out)⟩⟩
            ·rw [if_neg c15] at H
             have c15b0 : decide (((rd_T60 l0 x17_2).f1) < 0) = false := decide_eq_false c15
             clear c15
             by_cases c17 : ((rd_T60 l0 x17_2).f1) > 4
             ·rw [if_pos c17] at H
              have c17b0 : decide (4 < ((rd_T60 l0 x17_2).f1)) = true := decide_eq_true c17
              clear c17
              have H' := z0e H
              clear H
              have hcz18_0 : w9.cell? ⟨gb180, 0, none⟩ = some (.int .i64 0) := (x3e BK180.out 0).trans rfl
              have hcz18_1 : w9.cell? ⟨gb180, 1, none⟩ = some (.int .i64 0) := (x3e BK180.out 1).trans rfl
              have hcz18_2 : w9.cell? ⟨gb180, 2, none⟩ = some (.int .i64 0) := (x3e BK180.out 2).trans rfl
              have hfz18_0 := x2e BK180.out 0
              have hfz18_1 := x2e BK180.out 1
              have hfz18_2 := x2e BK180.out 2
              go_wp2
              go_meet
              case rel => exact ⟨_, (true), (by first |rfl|(simp;done)|(simp [*];done)), H', ⟨by have := HJ1.out;have := HK2.out;first | omega|exact Nat.le_refl _⟩, ⟨by (with_reducible repeat (first|refine z1e ?_ _|refine z3e ?_|refine z2e ?_ _));refine blk_put (cs := #[.int .i64 ((rd_T60 l0 x17_2).f0), .int .i64 ((rd_T60 l0 x17_2).f1), .int .i64 0]) ?_ 2 _ rfl;(with_reducible repeat (first|refine z1e ?_ _|refine z3e ?_|refine z2e ?_ _));refine blk_put (cs := #[.int .i64 ((rd_T60 l0 x17_2).f0), .int .i64 0, .int .i64 0]) ?_ 1 _ rfl;(with_reducible repeat (first|refine z1e ?_ _|refine z3e ?_|refine z2e ?_ _));refine blk_put (cs := #[.int .i64 0, .int .i64 0, .int .i64 0]) ?_ 0 _ rfl;(with_reducible repeat (first|refine z1e ?_ _|refine z3e ?_|refine z2e ?_ _));exact BK180.out⟩, ⟨by repeat (first|(with_reducible first|exact HB.out|apply z4e|apply z5e|apply z6e|refine z7e ?_ GE180.out)|exact HB.out)⟩⟩
             ·rw [if_neg c17] at H
              have c17b0 : decide (4 < ((rd_T60 l0 x17_2).f1)) = false := decide_eq_false c17
              clear c17
              by_cases c19 : ((rd_T60 l0 x17_2).f1) = 0
              ·rw [if_pos c19] at H
               have c19b0 : (((rd_T60 l0 x17_2).f1) == 0) = true := beq_iff_eq.mpr c19
               have c19b1 : (((rd_T60 l0 x17_2).f1) != 0) = false := bne_eq_false_iff_eq.mpr c19
               clear c19
               by_cases c20 : ((rd_T60 l0 x17_2).f0) < 1
               ·rw [if_pos c20] at H
                have c20b0 : decide (((rd_T60 l0 x17_2).f0) < 1) = true := decide_eq_true c20
                clear c20
                have H' := z0e H
                clear H
                have hcz21_0 : w9.cell? ⟨gb180, 0, none⟩ = some (.int .i64 0) := (x3e BK180.out 0).trans rfl
                have hcz21_1 : w9.cell? ⟨gb180, 1, none⟩ = some (.int .i64 0) := (x3e BK180.out 1).trans rfl
                have hcz21_2 : w9.cell? ⟨gb180, 2, none⟩ = some (.int .i64 0) := (x3e BK180.out 2).trans rfl
                have hfz21_0 := x2e BK180.out 0
                have hfz21_1 := x2e BK180.out 1
                have hfz21_2 := x2e BK180.out 2
                go_wp2
                go_meet
                case rel => exact ⟨_, (true), (by first |rfl|(simp;done)|(simp [*];done)), H', ⟨by have := HJ1.out;have := HK2.out;first | omega|exact Nat.le_refl _⟩, ⟨by (with_reducible repeat (first|refine z1e ?_ _|refine z3e ?_|refine z2e ?_ _));refine blk_put (cs := #[.int .i64 ((rd_T60 l0 x17_2).f0), .int .i64 ((rd_T60 l0 x17_2).f1), .int .i64 0]) ?_ 2 _ rfl;(with_reducible repeat (first|refine z1e ?_ _|refine z3e ?_|refine z2e ?_ _));refine blk_put (cs := #[.int .i64 ((rd_T60 l0 x17_2).f0), .int .i64 0, .int .i64 0]) ?_ 1 _ rfl;(with_reducible repeat (first|refine z1e ?_ _|refine z3e ?_|refine z2e ?_ _));refine blk_put (cs := #[.int .i64 0, .int .i64 0, .int .i64 0]) ?_ 0 _ rfl;(with_reducible repeat (first|refine z1e ?_ _|refine z3e ?_|refine z2e ?_ _));exact BK180.out⟩, ⟨by repeat (first|(with_reducible first|exact HB.out|apply z4e|apply z5e|apply z6e|refine z7e ?_ GE180.out)|exact HB.out)⟩⟩
               ·rw [if_neg c20] at H
                have c20b0 : decide (((rd_T60 l0 x17_2).f0) < 1) = false := decide_eq_false c20
                clear c20
                by_cases c22 : ((rd_T60 l0 x17_2).f2) < 1
                ·rw [if_pos c22] at H
                 have c22b0 : decide (((rd_T60 l0 x17_2).f2) < 1) = true := decide_eq_true c22
                 clear c22
                 have H' := z0e H
                 clear H
                 have hcz23_0 : w9.cell? ⟨gb180, 0, none⟩ = some (.int .i64 0) := (x3e BK180.out 0).trans rfl
                 have hcz23_1 : w9.cell? ⟨gb180, 1, none⟩ = some (.int .i64 0) := (x3e BK180.out 1).trans rfl
                 have hcz23_2 : w9.cell? ⟨gb180, 2, none⟩ = some (.int .i64 0) := (x3e BK180.out 2).trans rfl
                 have hfz23_0 := x2e BK180.out 0
                 have hfz23_1 := x2e BK180.out 1
                 have hfz23_2 := x2e BK180.out 2
                 go_wp2
                 go_meet
                 case rel => exact ⟨_, (true), (by first |rfl|(simp;done)|(simp [*];done)), H', ⟨by have := HJ1.out;have := HK2.out;first | omega|exact Nat.le_refl _⟩, ⟨by (with_reducible repeat (first|refine z1e ?_ _|refine z3e ?_|refine z2e ?_ _));refine blk_put (cs := #[.int .i64 ((rd_T60 l0 x17_2).f0), .int .i64 ((rd_T60 l0 x17_2).f1), .int .i64 0]) ?_ 2 _ rfl;(with_reducible repeat (first|refine z1e ?_ _|refine z3e ?_|refine z2e ?_ _));refine blk_put (cs := #[.int .i64 ((rd_T60 l0 x17_2).f0), .int .i64 0, .int .i64 0]) ?_ 1 _ rfl;(with_reducible repeat (first|refine z1e ?_ _|refine z3e ?_|refine z2e ?_ _));refine blk_put (cs := #[.int .i64 0, .int .i64 0, .int .i64 0]) ?_ 0 _ rfl;(with_reducible repeat (first|refine z1e ?_ _|refine z3e ?_|refine z2e ?_ _));exact BK180.out⟩, ⟨by repeat (first|(with_reducible first|exact HB.out|apply z4e|apply z5e|apply z6e|refine z7e ?_ GE180.out)|exact HB.out)⟩⟩
                ·rw [if_neg c22] at H
                 have c22b0 : decide (((rd_T60 l0 x17_2).f2) < 1) = false := decide_eq_false c22
                 clear c22
                 have H' := z0e H
                 clear H
                 have hcz24_0 : w9.cell? ⟨gb180, 0, none⟩ = some (.int .i64 0) := (x3e BK180.out 0).trans rfl
                 have hcz24_1 : w9.cell? ⟨gb180, 1, none⟩ = some (.int .i64 0) := (x3e BK180.out 1).trans rfl
                 have hcz24_2 : w9.cell? ⟨gb180, 2, none⟩ = some (.int .i64 0) := (x3e BK180.out 2).trans rfl
                 have hfz24_0 := x2e BK180.out 0
                 have hfz24_1 := x2e BK180.out 1
                 have hfz24_2 := x2e BK180.out 2
                 go_wp2
                 go_meet
                 case rel => exact ⟨_, (decide (((rd_T60 l0 x17_2).f2) > 100)), (by first |rfl|(simp;done)|(simp [*];done)), H', ⟨by have := HJ1.out;have := HK2.out;first | omega|exact Nat.le_refl _⟩, ⟨by (with_reducible repeat (first|refine z1e ?_ _|refine z3e ?_|refine z2e ?_ _));refine blk_put (cs := #[.int .i64 ((rd_T60 l0 x17_2).f0), .int .i64 ((rd_T60 l0 x17_2).f1), .int .i64 0]) ?_ 2 _ rfl;(with_reducible repeat (first|refine z1e ?_ _|refine z3e ?_|refine z2e ?_ _));refine blk_put (cs := #[.int .i64 ((rd_T60 l0 x17_2).f0), .int .i64 0, .int .i64 0]) ?_ 1 _ rfl;(with_reducible repeat (first|refine z1e ?_ _|refine z3e ?_|refine z2e ?_ _));refine blk_put (cs := #[.int .i64 0, .int .i64 0, .int .i64 0]) ?_ 0 _ rfl;(with_reducible repeat (first|refine z1e ?_ _|refine z3e ?_|refine z2e ?_ _));exact BK180.out⟩, ⟨by repeat (first|(with_reducible first|exact HB.out|apply z4e|apply z5e|apply z6e|refine z7e ?_ GE180.out)|exact HB.out)⟩⟩
              ·rw [if_neg c19] at H
               have c19b0 : (((rd_T60 l0 x17_2).f1) == 0) = false := beq_eq_false_iff_ne.mpr c19
               have c19b1 : (((rd_T60 l0 x17_2).f1) != 0) = true := bne_iff_ne.mpr c19
               by_cases c25 : ((rd_T60 l0 x17_2).f2) < 1
               ·rw [if_pos c25] at H
                have c25b0 : decide (((rd_T60 l0 x17_2).f2) < 1) = true := decide_eq_true c25
                clear c25
                have H' := z0e H
                clear H
                have hcz26_0 : w9.cell? ⟨gb180, 0, none⟩ = some (.int .i64 0) := (x3e BK180.out 0).trans rfl
                have hcz26_1 : w9.cell? ⟨gb180, 1, none⟩ = some (.int .i64 0) := (x3e BK180.out 1).trans rfl
                have hcz26_2 : w9.cell? ⟨gb180, 2, none⟩ = some (.int .i64 0) := (x3e BK180.out 2).trans rfl
                have hfz26_0 := x2e BK180.out 0
                have hfz26_1 := x2e BK180.out 1
                have hfz26_2 := x2e BK180.out 2
                go_wp2
                go_meet
                case rel => exact ⟨_, (true), (by first |rfl|(simp;done)|(simp [*];done)), H', ⟨by have := HJ1.out;have := HK2.out;first | omega|exact Nat.le_refl _⟩, ⟨by (with_reducible repeat (first|refine z1e ?_ _|refine z3e ?_|refine z2e ?_ _));refine blk_put (cs := #[.int .i64 ((rd_T60 l0 x17_2).f0), .int .i64 ((rd_T60 l0 x17_2).f1), .int .i64 0]) ?_ 2 _ rfl;(with_reducible repeat (first|refine z1e ?_ _|refine z3e ?_|refine z2e ?_ _));refine blk_put (cs := #[.int .i64 ((rd_T60 l0 x17_2).f0), .int .i64 0, .int .i64 0]) ?_ 1 _ rfl;(with_reducible repeat (first|refine z1e ?_ _|refine z3e ?_|refine z2e ?_ _));refine blk_put (cs := #[.int .i64 0, .int .i64 0, .int .i64 0]) ?_ 0 _ rfl;(with_reducible repeat (first|refine z1e ?_ _|refine z3e ?_|refine z2e ?_ _));exact BK180.out⟩, ⟨by repeat (first|(with_reducible first|exact HB.out|apply z4e|apply z5e|apply z6e|refine z7e ?_ GE180.out)|exact HB.out)⟩⟩
               ·rw [if_neg c25] at H
                have c25b0 : decide (((rd_T60 l0 x17_2).f2) < 1) = false := decide_eq_false c25
                clear c25
                have H' := z0e H
                clear H
                have hcz27_0 : w9.cell? ⟨gb180, 0, none⟩ = some (.int .i64 0) := (x3e BK180.out 0).trans rfl
                have hcz27_1 : w9.cell? ⟨gb180, 1, none⟩ = some (.int .i64 0) := (x3e BK180.out 1).trans rfl
                have hcz27_2 : w9.cell? ⟨gb180, 2, none⟩ = some (.int .i64 0) := (x3e BK180.out 2).trans rfl
                have hfz27_0 := x2e BK180.out 0
                have hfz27_1 := x2e BK180.out 1
                have hfz27_2 := x2e BK180.out 2
                go_wp2
                go_meet
                case rel => exact ⟨_, (decide (((rd_T60 l0 x17_2).f2) > 100)), (by first |rfl|(simp;done)|(simp [*];done)), H', ⟨by have := HJ1.out;have := HK2.out;first | omega|exact Nat.le_refl _⟩, ⟨by (with_reducible repeat (first|refine z1e ?_ _|refine z3e ?_|refine z2e ?_ _));refine blk_put (cs := #[.int .i64 ((rd_T60 l0 x17_2).f0), .int .i64 ((rd_T60 l0 x17_2).f1), .int .i64 0]) ?_ 2 _ rfl;(with_reducible repeat (first|refine z1e ?_ _|refine z3e ?_|refine z2e ?_ _));refine blk_put (cs := #[.int .i64 ((rd_T60 l0 x17_2).f0), .int .i64 0, .int .i64 0]) ?_ 1 _ rfl;(with_reducible repeat (first|refine z1e ?_ _|refine z3e ?_|refine z2e ?_ _));refine blk_put (cs := #[.int .i64 0, .int .i64 0, .int .i64 0]) ?_ 0 _ rfl;(with_reducible repeat (first|refine z1e ?_ _|refine z3e ?_|refine z2e ?_ _));exact BK180.out⟩, ⟨by repeat (first|(with_reducible first|exact HB.out|apply z4e|apply z5e|apply z6e|refine z7e ?_ GE180.out)|exact HB.out)⟩⟩
         case rest =>
          clear HC8
          (try clear c1);(try clear p1);(try clear q1);(try clear hx1);(try clear c2);(try clear p2);(try clear c3);(try clear c3b0);(try clear c3b1);(try clear c4);(try clear c5);(try clear c5b0);(try clear c6);(try clear c6b0);(try clear c7);(try clear c7b0);(try clear c9);(try clear c11);(try clear c11b0);(try clear c13);(try clear c13b0);(try clear c15);(try clear c15b0);(try clear c17);(try clear c17b0);(try clear p17);(try clear q17);(try clear hx17);(try clear c19);(try clear c19b0);(try clear c19b1);(try clear c20);(try clear c20b0);(try clear c22);(try clear c22b0);(try clear c25);(try clear c25b0);(try clear hcz10_0);(try clear hcz10_1);(try clear hcz10_2);(try clear hcz12_0);(try clear hcz12_1);(try clear hcz12_2);(try clear hcz14_0);(try clear hcz14_1);(try clear hcz14_2);(try clear hcz16_0);(try clear hcz16_1);(try clear hcz16_2);(try clear hcz18_0);(try clear hcz18_1);(try clear hcz18_2);(try clear hcz21_0);(try clear hcz21_1);(try clear hcz21_2);(try clear hcz23_0);(try clear hcz23_1);(try clear hcz23_2);(try clear hcz24_0);(try clear hcz24_1);(try clear hcz24_2);(try clear hcz26_0);(try clear hcz26_1);(try clear hcz26_2);(try clear hcz27_0);(try clear hcz27_1);(try clear hcz27_2);(try clear hfz10_0);(try clear hfz10_1);(try clear hfz10_2);(try clear hfz12_0);(try clear hfz12_1);(try clear hfz12_2);(try clear hfz14_0);(try clear hfz14_1);(try clear hfz14_2);(try clear hfz16_0);(try clear hfz16_1);(try clear hfz16_2);(try clear hfz18_0);(try clear hfz18_1);(try clear hfz18_2);(try clear hfz21_0);(try clear hfz21_1);(try clear hfz21_2);(try clear hfz23_0);(try clear hfz23_1);(try clear hfz23_2);(try clear hfz24_0);(try clear hfz24_1);(try clear hfz24_2);(try clear hfz26_0);(try clear hfz26_1);(try clear hfz26_2);(try clear hfz27_0);(try clear hfz27_1);(try clear hfz27_2);(try clear hx179_0);(try clear hx179_1);(try clear hx179_2);(try clear p179);(try clear p2);(try clear q179)
          obtain ⟨kq, x59_7, rfl, HA, HJ7, BK180, HB⟩ := hcut
          cases kq with
          | zero => exact absurd HA.out (by simp [impl_IsKernel.j2])
          | succ kj7 =>
           have H := HA.out
           clear HA
           simp only [impl_IsKernel.j2] at H
           by_cases c28 : x59_7 = true
           ·subst c28
            have H1 : (some false) = some r := by rw [if_pos rfl] at H;first|exact H|(simp only [if_true] at H ⊢;exact H)
            clear H
            have H := H1
            clear H1
            obtain rfl := Option.some.inj H
            go_wp2
            go_ret
            exact ⟨by first |rfl|(simp [errW_none, errW_some] <;> rfl)|(simp [*, errW_none, errW_some] <;> rfl), by repeat (first|(with_reducible first|exact HB.out|apply z4e|apply z5e|apply z6e|refine z7e ?_ GE180.out)|exact HB.out)⟩
           ·replace c28 := Bool.eq_false_iff.mpr c28
            subst c28
            have H1 : (if 0 ≤ x17_2 then (if x17_2 ≤ (l0.length : Int) then ((some (l0.take (x17_2 : Int).toNat : List (S60))).bind fun y181 => (impl_IsKernel.l1 kj7 l0 l0 (l0.length : Int) x17_2 y181 (y181.length : Int) 0 ((rd_T60 l0 x17_2).f0) ((rd_T60 l0 x17_2).f1) ((rd_T60 l0 x17_2).f2))) else (none)) else (none)) = some r := by rw [if_neg (show ¬ (false = true) by decide)] at H;first|exact H|(simp only [if_true] at H ⊢;exact H)
            clear H
            have H := H1
            clear H1
            by_cases c29 : 0 ≤ x17_2
            ·rw [if_pos c29] at H
             have c29b0 := eq_true c29
             have c29b1 : decide (0 ≤ x17_2) = true := decide_eq_true c29
             clear c29
             by_cases c30 : x17_2 ≤ (l0.length : Int)
             ·rw [if_pos c30] at H
              have c30b0 := eq_true c30
              have c30b1 : decide (x17_2 ≤ (l0.length : Int)) = true := decide_eq_true c30
              clear c30
              obtain ⟨y181, hy181⟩ : ∃ y_ : List (S60), y_ = (l0.take (x17_2 : Int).toNat) := ⟨_, rfl⟩
              replace H : (impl_IsKernel.l1 kj7 l0 l0 (l0.length : Int) x17_2 y181 (y181.length : Int) 0 ((rd_T60 l0 x17_2).f0) ((rd_T60 l0 x17_2).f1) ((rd_T60 l0 x17_2).f2)) = some r := by first|(rw [hy181];with_reducible exact H)|(have H2_ := (Option.bind_some _ _).symm.trans H;rw [hy181];with_reducible exact H2_)|(have H2_ := (Option.bind_some _ _).symm.trans H;with_reducible exact H2_) | with_reducible exact H|(rw [hy181];exact H)|exact H
              have Ny181 := z0e hy181
              clear hy181
              have H' := z0e H
              clear H
              have q31 : (x17_2 : Int) ≤ ((l0.length : Int) : Int) := of_decide_eq_true (by first|(with_reducible assumption) | assumption)
              obtain ⟨i031, hi031, _, hsz31, _⟩ := info_parts info60
              have hroom31 : l0.length ≤ c0 := HC0.out
              have hC31 : Kd.C k60 _ (some ad179) l0.length l0 := HR0.out
              have hcut31 := cut_to (P := Try.prog) 23 60 .i64 Try.underlying23 hi031 (some ad179) l0.length c0 x17_2 (of_decide_eq_true (by first|(with_reducible assumption) | assumption)) q31 hroom31
              have hr31 := Kd.C_take (m := (x17_2 : Int).toNat) hC31 (by omega)
              have hy31 : y181.length = (x17_2 : Int).toNat := (by rw [Ny181.out, List.length_take];omega)
              rw [← Ny181.out] at hr31
              rw [← hy31] at hcut31
              have HR184 := z0e hr31
              have HC184 := z0e (show y181.length ≤ c0 from by omega)
              clear hr31 hC31 hroom31 hi031 hsz31
              have KY31 := z0e hy31
              clear hy31
              replace q31 := eq_true q31
              go_wp2
              go_loopg [64] kj7 (fun kq v64 w' => ∃ (x64_4 : Int), v64 = .int .i64 x64_4 ∧ Aside0 (impl_IsKernel.l1 kq l0 l0 (l0.length : Int) x17_2 y181 (y181.length : Int) x64_4 ((rd_T60 l0 x17_2).f0) ((rd_T60 l0 x17_2).f1) ((rd_T60 l0 x17_2).f2) = some r) ∧ Aside0 (kq ≤ kj7) ∧ Aside0 (w'.heap[gb180]? = some (.cells #[.int .i64 ((rd_T60 l0 x17_2).f0), .int .i64 ((rd_T60 l0 x17_2).f1), .int .i64 ((rd_T60 l0 x17_2).f2)] 60 (0, 0))) ∧ Aside0 (Below w.heap.size w w'))
              case atStart => exact ⟨(0), (by first |rfl|(simp;done)|(simp [*];done)), H', ⟨Nat.le_refl _⟩, ⟨by (with_reducible repeat (first|refine z1e ?_ _|refine z3e ?_|refine z2e ?_ _));exact BK180.out⟩, ⟨by repeat (first|(with_reducible first|exact HB.out|apply z4e|apply z5e|apply z6e|refine z7e ?_ GE180.out)|exact HB.out)⟩⟩
              case round =>
               clear H'
               (try clear c1);(try clear p1);(try clear q1);(try clear hx1);(try clear c2);(try clear p2);(try clear c3);(try clear c3b0);(try clear c3b1);(try clear q3);(try clear c4);(try clear c5);(try clear c5b0);(try clear c6);(try clear c6b0);(try clear c7);(try clear c7b0);(try clear c9);(try clear c11);(try clear c11b0);(try clear c13);(try clear c13b0);(try clear c15);(try clear c15b0);(try clear c17);(try clear c17b0);(try clear p17);(try clear q17);(try clear hx17);(try clear c19);(try clear c19b0);(try clear c19b1);(try clear c20);(try clear c20b0);(try clear c22);(try clear c22b0);(try clear c25);(try clear c25b0);(try clear c28);(try clear c29);(try clear c29b0);(try clear c29b1);(try clear c30);(try clear c30b0);(try clear c30b1);(try clear q31);(try clear hcz10_0);(try clear hcz10_1);(try clear hcz10_2);(try clear hcz12_0);(try clear hcz12_1);(try clear hcz12_2);(try clear hcz14_0);(try clear hcz14_1);(try clear hcz14_2);(try clear hcz16_0);(try clear hcz16_1);(try clear hcz16_2);(try clear hcz18_0);(try clear hcz18_1);(try clear hcz18_2);(try clear hcz21_0);(try clear hcz21_1);(try clear hcz21_2);(try clear hcz23_0);(try clear hcz23_1);(try clear hcz23_2);(try clear hcz24_0);(try clear hcz24_1);(try clear hcz24_2);(try clear hcz26_0);(try clear hcz26_1);(try clear hcz26_2);(try clear hcz27_0);(try clear hcz27_1);(try clear hcz27_2);(try clear hfz10_0);(try clear hfz10_1);(try clear hfz10_2);(try clear hfz12_0);(try clear hfz12_1);(try clear hfz12_2);(try clear hfz14_0);(try clear hfz14_1);(try clear hfz14_2);(try clear hfz16_0);(try clear hfz16_1);(try clear hfz16_2);(try clear hfz18_0);(try clear hfz18_1);(try clear hfz18_2);(try clear hfz21_0);(try clear hfz21_1);(try clear hfz21_2);(try clear hfz23_0);(try clear hfz23_1);(try clear hfz23_2);(try clear hfz24_0);(try clear hfz24_1);(try clear hfz24_2);(try clear hfz26_0);(try clear hfz26_1);(try clear hfz26_2);(try clear hfz27_0);(try clear hfz27_1);(try clear hfz27_2);(try clear hx179_0);(try clear hx179_1);(try clear hx179_2);(try clear p1);(try clear p17);(try clear p179);(try clear p2);(try clear q1);(try clear q17);(try clear q179);(try clear q31)
               obtain ⟨x64_4, rfl, HA, HK4, BK180, HB⟩ := hrel
               cases gk with
               | zero => exact absurd HA.out (by simp [impl_IsKernel.l1])
               | succ k4 =>
                have H := HA.out
                clear HA
                simp only [impl_IsKernel.l1] at H
                by_cases c32 : x64_4 < (y181.length : Int)
                ·rw [if_pos c32] at H
                 have c32b0 : decide (x64_4 < (y181.length : Int)) = true := decide_eq_true c32
                 clear c32
                 by_cases c33 : 0 ≤ x64_4
                 ·rw [if_pos c33] at H
                  have c33b0 : decide (0 ≤ x64_4) = true := decide_eq_true c33
                  clear c33
                  by_cases c34 : x64_4 < (y181.length : Int)
                  ·rw [if_pos c34] at H
                   have c34b0 : decide (x64_4 < (y181.length : Int)) = true := decide_eq_true c34
                   clear c34
                   by_cases c35 : ((rd_T60 l0 x17_2).f0) = ((rd_T60 y181 x64_4).f0)
                   ·rw [if_pos c35] at H
                    have c35b0 : (((rd_T60 l0 x17_2).f0) == ((rd_T60 y181 x64_4).f0)) = true := beq_iff_eq.mpr c35
                    have c35b1 : (((rd_T60 l0 x17_2).f0) != ((rd_T60 y181 x64_4).f0)) = false := bne_eq_false_iff_eq.mpr c35
                    clear c35
                    by_cases c36 : ((rd_T60 l0 x17_2).f1) = ((rd_T60 y181 x64_4).f1)
                    ·rw [if_pos c36] at H
                     have c36b0 : (((rd_T60 l0 x17_2).f1) == ((rd_T60 y181 x64_4).f1)) = true := beq_iff_eq.mpr c36
                     have c36b1 : (((rd_T60 l0 x17_2).f1) != ((rd_T60 y181 x64_4).f1)) = false := bne_eq_false_iff_eq.mpr c36
                     clear c36
                     obtain rfl := Option.some.inj H
                     have p185 : 0 ≤ (x64_4 : Int) := of_decide_eq_true (by first|(with_reducible assumption) | assumption)
                     have q185 : x64_4 < (y181.length : Int) := of_decide_eq_true (by first|(with_reducible assumption) | assumption)
                     obtain ⟨ad185, e185, hx185_0, hx185_1, hx185_2⟩ := at_T60 HR184.out x64_4 p185 q185
                     obtain rfl : ad179 = ad185 := (by injection e185)
                     replace hx185_0 := (HB.out.cell (World.block_lt_of_cell? w _ hx185_0)).trans hx185_0
                     replace hx185_1 := (HB.out.cell (World.block_lt_of_cell? w _ hx185_1)).trans hx185_1
                     replace hx185_2 := (HB.out.cell (World.block_lt_of_cell? w _ hx185_2)).trans hx185_2
                     replace p185 := eq_true p185
                     replace q185 := eq_true q185
                     go_wp2_with (first|((with_reducible refine gate_dst (N := 6) rfl ?_);(try (refine gate_guard (by rfl) ?_;dsimp only));refine box_event ?hg (N := 6) ?hd (cs := #[.int .i64 0, .int .i64 0, .int .i64 0]) (t := 60) ?hr ?_;(case hd => rfl);(case hg => rfl);(case hr => first|(go_simp;done)|(go_simp;rfl));intro gb186 hg w37 hbox hb;have n0_ := z0e (blk_below (g := gb180) (o := .cells #[.int .i64 ((rd_T60 l0 x17_2).f0), .int .i64 ((rd_T60 l0 x17_2).f1), .int .i64 ((rd_T60 l0 x17_2).f2)] 60 (0, 0)) (by (with_reducible repeat (first|refine z1e ?_ _|refine z3e ?_|refine z2e ?_ _));exact BK180.out) hb);have n1_ := z0e (below_step (by repeat (first|(with_reducible first|exact HB.out|apply z4e|apply z5e|apply z6e|refine z7e ?_ GE180.out)|exact HB.out)) hb);have n2_ := z0e (hbox);have n3_ := z0e ((by rw [hg];exact (below_size (by repeat (first|(with_reducible first|exact HB.out|apply z4e|apply z5e|apply z6e|refine z7e ?_ GE180.out)|exact HB.out))) : w.heap.size ≤ gb186));have n4_ := z0e ((by rw [hg];exact (below_size (by repeat (first|(with_reducible first|exact HB.out|apply z4e|apply z5e|apply z6e|refine z7e ?_ GE180.out)|exact HB.out))) : w.heap.size ≤ gb186));have n5_ := z0e ((by rw [hg];exact Nat.ne_of_lt (blk_lt (g := gb180) (o := .cells #[.int .i64 ((rd_T60 l0 x17_2).f0), .int .i64 ((rd_T60 l0 x17_2).f1), .int .i64 ((rd_T60 l0 x17_2).f2)] 60 (0, 0)) (by (with_reducible repeat (first|refine z1e ?_ _|refine z3e ?_|refine z2e ?_ _));exact BK180.out)) : gb180 ≠ gb186));have n6_ := z0e ((by rw [hg];exact Nat.ne_of_gt (blk_lt (g := gb180) (o := .cells #[.int .i64 ((rd_T60 l0 x17_2).f0), .int .i64 ((rd_T60 l0 x17_2).f1), .int .i64 ((rd_T60 l0 x17_2).f2)] 60 (0, 0)) (by (with_reducible repeat (first|refine z1e ?_ _|refine z3e ?_|refine z2e ?_ _));exact BK180.out)) : gb186 ≠ gb180));clear BK180;clear HB;have BK180 := n0_;have HB := n1_;have BK186 := n2_;have GW186 := n3_;have GE186 := n4_;have NB180_186 := n5_;have NB186_180 := n6_;clear n0_ n1_ n2_ n3_ n4_ n5_ n6_;clear hb hbox hg;have hnb38 := NB186_180.out;have hnc38 := NB180_186.out;have hcz39_0 : w37.cell? ⟨gb186, 0, none⟩ = some (.int .i64 0) := (x3e BK186.out 0).trans rfl;have hcz39_1 : w37.cell? ⟨gb186, 1, none⟩ = some (.int .i64 0) := (x3e BK186.out 1).trans rfl;have hcz39_2 : w37.cell? ⟨gb186, 2, none⟩ = some (.int .i64 0) := (x3e BK186.out 2).trans rfl;have hfz39_0 := x2e BK186.out 0;have hfz39_1 := x2e BK186.out 1;have hfz39_2 := x2e BK186.out 2;have hcz40_0 : w37.cell? ⟨gb180, 0, none⟩ = some (.int .i64 ((rd_T60 l0 x17_2).f0)) := (x3e BK180.out 0).trans rfl;have hcz40_1 : w37.cell? ⟨gb180, 1, none⟩ = some (.int .i64 ((rd_T60 l0 x17_2).f1)) := (x3e BK180.out 1).trans rfl;have hcz40_2 : w37.cell? ⟨gb180, 2, none⟩ = some (.int .i64 ((rd_T60 l0 x17_2).f2)) := (x3e BK180.out 2).trans rfl;have hfz40_0 := x2e BK180.out 0;have hfz40_1 := x2e BK180.out 1;have hfz40_2 := x2e BK180.out 2))
                     go_ret
                     exact ⟨by first |rfl|(simp [errW_none, errW_some] <;> rfl)|(simp [*, errW_none, errW_some] <;> rfl), by repeat (first|(with_reducible first|exact HB.out|apply z4e|apply z5e|apply z6e|refine z7e ?_ GE180.out|refine z7e ?_ GE186.out)|exact HB.out)⟩
                    ·rw [if_neg c36] at H
                     have c36b0 : (((rd_T60 l0 x17_2).f1) == ((rd_T60 y181 x64_4).f1)) = false := beq_eq_false_iff_ne.mpr c36
                     have c36b1 : (((rd_T60 l0 x17_2).f1) != ((rd_T60 y181 x64_4).f1)) = true := bne_iff_ne.mpr c36
                     have H' := z0e H
                     clear H
                     have p185 : 0 ≤ (x64_4 : Int) := of_decide_eq_true (by first|(with_reducible assumption) | assumption)
                     have q185 : x64_4 < (y181.length : Int) := of_decide_eq_true (by first|(with_reducible assumption) | assumption)
                     obtain ⟨ad185, e185, hx185_0, hx185_1, hx185_2⟩ := at_T60 HR184.out x64_4 p185 q185
                     obtain rfl : ad179 = ad185 := (by injection e185)
                     replace hx185_0 := (HB.out.cell (World.block_lt_of_cell? w _ hx185_0)).trans hx185_0
                     replace hx185_1 := (HB.out.cell (World.block_lt_of_cell? w _ hx185_1)).trans hx185_1
                     replace hx185_2 := (HB.out.cell (World.block_lt_of_cell? w _ hx185_2)).trans hx185_2
                     replace p185 := eq_true p185
                     replace q185 := eq_true q185
                     go_wp2_with (first|((with_reducible refine gate_dst (N := 6) rfl ?_);(try (refine gate_guard (by rfl) ?_;dsimp only));refine box_event ?hg (N := 6) ?hd (cs := #[.int .i64 0, .int .i64 0, .int .i64 0]) (t := 60) ?hr ?_;(case hd => rfl);(case hg => rfl);(case hr => first|(go_simp;done)|(go_simp;rfl));intro gb186 hg w41 hbox hb;have n0_ := z0e (blk_below (g := gb180) (o := .cells #[.int .i64 ((rd_T60 l0 x17_2).f0), .int .i64 ((rd_T60 l0 x17_2).f1), .int .i64 ((rd_T60 l0 x17_2).f2)] 60 (0, 0)) (by (with_reducible repeat (first|refine z1e ?_ _|refine z3e ?_|refine z2e ?_ _));exact BK180.out) hb);have n1_ := z0e (below_step (by repeat (first|(with_reducible first|exact HB.out|apply z4e|apply z5e|apply z6e|refine z7e ?_ GE180.out)|exact HB.out)) hb);have n2_ := z0e (hbox);have n3_ := z0e ((by rw [hg];exact (below_size (by repeat (first|(with_reducible first|exact HB.out|apply z4e|apply z5e|apply z6e|refine z7e ?_ GE180.out)|exact HB.out))) : w.heap.size ≤ gb186));have n4_ := z0e ((by rw [hg];exact (below_size (by repeat (first|(with_reducible first|exact HB.out|apply z4e|apply z5e|apply z6e|refine z7e ?_ GE180.out)|exact HB.out))) : w.heap.size ≤ gb186));have n5_ := z0e ((by rw [hg];exact Nat.ne_of_lt (blk_lt (g := gb180) (o := .cells #[.int .i64 ((rd_T60 l0 x17_2).f0), .int .i64 ((rd_T60 l0 x17_2).f1), .int .i64 ((rd_T60 l0 x17_2).f2)] 60 (0, 0)) (by (with_reducible repeat (first|refine z1e ?_ _|refine z3e ?_|refine z2e ?_ _));exact BK180.out)) : gb180 ≠ gb186));have n6_ := z0e ((by rw [hg];exact Nat.ne_of_gt (blk_lt (g := gb180) (o := .cells #[.int .i64 ((rd_T60 l0 x17_2).f0), .int .i64 ((rd_T60 l0 x17_2).f1), .int .i64 ((rd_T60 l0 x17_2).f2)] 60 (0, 0)) (by (with_reducible repeat (first|refine z1e ?_ _|refine z3e ?_|refine z2e ?_ _));exact BK180.out)) : gb186 ≠ gb180));clear BK180;clear HB;have BK180 := n0_;have HB := n1_;have BK186 := n2_;have GW186 := n3_;have GE186 := n4_;have NB180_186 := n5_;have NB186_180 := n6_;clear n0_ n1_ n2_ n3_ n4_ n5_ n6_;clear hb hbox hg;have hnb42 := NB186_180.out;have hnc42 := NB180_186.out;have hcz43_0 : w41.cell? ⟨gb186, 0, none⟩ = some (.int .i64 0) := (x3e BK186.out 0).trans rfl;have hcz43_1 : w41.cell? ⟨gb186, 1, none⟩ = some (.int .i64 0) := (x3e BK186.out 1).trans rfl;have hcz43_2 : w41.cell? ⟨gb186, 2, none⟩ = some (.int .i64 0) := (x3e BK186.out 2).trans rfl;have hfz43_0 := x2e BK186.out 0;have hfz43_1 := x2e BK186.out 1;have hfz43_2 := x2e BK186.out 2;have hcz44_0 : w41.cell? ⟨gb180, 0, none⟩ = some (.int .i64 ((rd_T60 l0 x17_2).f0)) := (x3e BK180.out 0).trans rfl;have hcz44_1 : w41.cell? ⟨gb180, 1, none⟩ = some (.int .i64 ((rd_T60 l0 x17_2).f1)) := (x3e BK180.out 1).trans rfl;have hcz44_2 : w41.cell? ⟨gb180, 2, none⟩ = some (.int .i64 ((rd_T60 l0 x17_2).f2)) := (x3e BK180.out 2).trans rfl;have hfz44_0 := x2e BK180.out 0;have hfz44_1 := x2e BK180.out 1;have hfz44_2 := x2e BK180.out 2))
                     go_roundg k4
                     case measure => have := HJ1.out;have := HK2.out;have := HJ7.out;have := HK4.out;omega
                     case rel => exact ⟨(wrap64 (x64_4 + 1)), (by first |rfl|(simp;done)|(simp [*];done)), H', ⟨by have := HJ1.out;have := HK2.out;have := HJ7.out;have := HK4.out;omega⟩, ⟨by (with_reducible repeat (first|refine z1e ?_ _|refine z3e ?_|refine z2e ?_ _));refine blk_far ?_ NB180_186.out _;(with_reducible repeat (first|refine z1e ?_ _|refine z3e ?_|refine z2e ?_ _));refine blk_far ?_ NB180_186.out _;(with_reducible repeat (first|refine z1e ?_ _|refine z3e ?_|refine z2e ?_ _));refine blk_far ?_ NB180_186.out _;(with_reducible repeat (first|refine z1e ?_ _|refine z3e ?_|refine z2e ?_ _));exact BK180.out⟩, ⟨by repeat (first|(with_reducible first|exact HB.out|apply z4e|apply z5e|apply z6e|refine z7e ?_ GE180.out|refine z7e ?_ GE186.out)|exact HB.out)⟩⟩
                   ·rw [if_neg c35] at H
                    have c35b0 : (((rd_T60 l0 x17_2).f0) == ((rd_T60 y181 x64_4).f0)) = false := beq_eq_false_iff_ne.mpr c35
                    have c35b1 : (((rd_T60 l0 x17_2).f0) != ((rd_T60 y181 x64_4).f0)) = true := bne_iff_ne.mpr c35
                    have H' := z0e H
                    clear H
                    have p185 : 0 ≤ (x64_4 : Int) := of_decide_eq_true (by first|(with_reducible assumption) | assumption)
                    have q185 : x64_4 < (y181.length : Int) := of_decide_eq_true (by first|(with_reducible assumption) | assumption)
                    obtain ⟨ad185, e185, hx185_0, hx185_1, hx185_2⟩ := at_T60 HR184.out x64_4 p185 q185
                    obtain rfl : ad179 = ad185 := (by injection e185)
                    replace hx185_0 := (HB.out.cell (World.block_lt_of_cell? w _ hx185_0)).trans hx185_0
                    replace hx185_1 := (HB.out.cell (World.block_lt_of_cell? w _ hx185_1)).trans hx185_1
                    replace hx185_2 := (HB.out.cell (World.block_lt_of_cell? w _ hx185_2)).trans hx185_2
                    replace p185 := eq_true p185
                    replace q185 := eq_true q185
                    go_wp2_with (first|((with_reducible refine gate_dst (N := 6) rfl ?_);(try (refine gate_guard (by rfl) ?_;dsimp only));refine box_event ?hg (N := 6) ?hd (cs := #[.int .i64 0, .int .i64 0, .int .i64 0]) (t := 60) ?hr ?_;(case hd => rfl);(case hg => rfl);(case hr => first|(go_simp;done)|(go_simp;rfl));intro gb186 hg w45 hbox hb;have n0_ := z0e (blk_below (g := gb180) (o := .cells #[.int .i64 ((rd_T60 l0 x17_2).f0), .int .i64 ((rd_T60 l0 x17_2).f1), .int .i64 ((rd_T60 l0 x17_2).f2)] 60 (0, 0)) (by (with_reducible repeat (first|refine z1e ?_ _|refine z3e ?_|refine z2e ?_ _));exact BK180.out) hb);have n1_ := z0e (below_step (by repeat (first|(with_reducible first|exact HB.out|apply z4e|apply z5e|apply z6e|refine z7e ?_ GE180.out)|exact HB.out)) hb);have n2_ := z0e (hbox);have n3_ := z0e ((by rw [hg];exact (below_size (by repeat (first|(with_reducible first|exact HB.out|apply z4e|apply z5e|apply z6e|refine z7e ?_ GE180.out)|exact HB.out))) : w.heap.size ≤ gb186));have n4_ := z0e ((by rw [hg];exact (below_size (by repeat (first|(with_reducible first|exact HB.out|apply z4e|apply z5e|apply z6e|refine z7e ?_ GE180.out)|exact HB.out))) : w.heap.size ≤ gb186));have n5_ := z0e ((by rw [hg];exact Nat.ne_of_lt (blk_lt (g := gb180) (o := .cells #[.int .i64 ((rd_T60 l0 x17_2).f0), .int .i64 ((rd_T60 l0 x17_2).f1), .int .i64 ((rd_T60 l0 x17_2).f2)] 60 (0, 0)) (by (with_reducible repeat (first|refine z1e ?_ _|refine z3e ?_|refine z2e ?_ _));exact BK180.out)) : gb180 ≠ gb186));have n6_ := z0e ((by rw [hg];exact Nat.ne_of_gt (blk_lt (g := gb180) (o := .cells #[.int .i64 ((rd_T60 l0 x17_2).f0), .int .i64 ((rd_T60 l0 x17_2).f1), .int .i64 ((rd_T60 l0 x17_2).f2)] 60 (0, 0)) (by (with_reducible repeat (first|refine z1e ?_ _|refine z3e ?_|refine z2e ?_ _));exact BK180.out)) : gb186 ≠ gb180));clear BK180;clear HB;have BK180 := n0_;have HB := n1_;have BK186 := n2_;have GW186 := n3_;have GE186 := n4_;have NB180_186 := n5_;have NB186_180 := n6_;clear n0_ n1_ n2_ n3_ n4_ n5_ n6_;clear hb hbox hg;have hnb46 := NB186_180.out;have hnc46 := NB180_186.out;have hcz47_0 : w45.cell? ⟨gb186, 0, none⟩ = some (.int .i64 0) := (x3e BK186.out 0).trans rfl;have hcz47_1 : w45.cell? ⟨gb186, 1, none⟩ = some (.int .i64 0) := (x3e BK186.out 1).trans rfl;have hcz47_2 : w45.cell? ⟨gb186, 2, none⟩ = some (.int .i64 0) := (x3e BK186.out 2).trans rfl;have hfz47_0 := x2e BK186.out 0;have hfz47_1 := x2e BK186.out 1;have hfz47_2 := x2e BK186.out 2;have hcz48_0 : w45.cell? ⟨gb180, 0, none⟩ = some (.int .i64 ((rd_T60 l0 x17_2).f0)) := (x3e BK180.out 0).trans rfl;have hcz48_1 : w45.cell? ⟨gb180, 1, none⟩ = some (.int .i64 ((rd_T60 l0 x17_2).f1)) := (x3e BK180.out 1).trans rfl;have hcz48_2 : w45.cell? ⟨gb180, 2, none⟩ = some (.int .i64 ((rd_T60 l0 x17_2).f2)) := (x3e BK180.out 2).trans rfl;have hfz48_0 := x2e BK180.out 0;have hfz48_1 := x2e BK180.out 1;have hfz48_2 := x2e BK180.out 2))
                    go_roundg k4
                    case measure => have := HJ1.out;have := HK2.out;have := HJ7.out;have := HK4.out;omega
                    case rel => exact ⟨(wrap64 (x64_4 + 1)), (by first |rfl|(simp;done)|(simp [*];done)), H', ⟨by have := HJ1.out;have := HK2.out;have := HJ7.out;have := HK4.out;omega⟩, ⟨by (with_reducible repeat (first|refine z1e ?_ _|refine z3e ?_|refine z2e ?_ _));refine blk_far ?_ NB180_186.out _;(with_reducible repeat (first|refine z1e ?_ _|refine z3e ?_|refine z2e ?_ _));refine blk_far ?_ NB180_186.out _;(with_reducible repeat (first|refine z1e ?_ _|refine z3e ?_|refine z2e ?_ _));refine blk_far ?_ NB180_186.out _;(with_reducible repeat (first|refine z1e ?_ _|refine z3e ?_|refine z2e ?_ _));exact BK180.out⟩, ⟨by repeat (first|(with_reducible first|exact HB.out|apply z4e|apply z5e|apply z6e|refine z7e ?_ GE180.out|refine z7e ?_ GE186.out)|exact HB.out)⟩⟩
                  ·rw [if_neg c34] at H
                   exact absurd H (by simp)
                 ·rw [if_neg c33] at H
                  exact absurd H (by simp)
                ·rw [if_neg c32] at H
                 have c32b0 : decide (x64_4 < (y181.length : Int)) = false := decide_eq_false c32
                 clear c32
                 have H' := z0e H
                 clear H
                 go_wp2
                 go_roundg k4
                 case measure => have := HJ1.out;have := HK2.out;have := HJ7.out;have := HK4.out;omega
                 case rel => exact ⟨(wrap64 (x17_2 + 1)), (by first |rfl|(simp;done)|(simp [*];done)), H', ⟨by have := HJ1.out;have := HK2.out;have := HJ7.out;have := HK4.out;omega⟩, ⟨by repeat (first|(with_reducible first|exact HB.out|apply z4e|apply z5e|apply z6e|refine z7e ?_ GE180.out)|exact HB.out)⟩⟩
             ·rw [if_neg c30] at H
              exact absurd H (by simp)
            ·rw [if_neg c29] at H
             exact absurd H (by simp)
        ·rw [if_neg c7] at H
         exact absurd H (by simp)
       ·rw [if_neg c6] at H
        exact absurd H (by simp)
      ·rw [if_neg c5] at H
       have c5b0 : decide (x17_2 < (l0.length : Int)) = false := decide_eq_false c5
       clear c5
       obtain rfl := Option.some.inj H
       go_wp2
       go_ret
       exact ⟨by first |rfl|(simp [errW_none, errW_some] <;> rfl)|(simp [*, errW_none, errW_some] <;> rfl), by repeat (first|(with_reducible first|exact HB.out|apply z4e|apply z5e|apply z6e)|exact HB.out)⟩

def impl_sized.f (a0 : Int) (a1 : Int) : Option (Bool) := if a0 ≥ 1 then (if a0 ≤ 64 then (if a1 ≥ 1 then (if a1 ≤ 64 then (some (decide ((wrap64 (a0 * a1)) ≤ 1024))) else (some false)) else (some false)) else (some false)) else (some false)
set_option maxHeartbeats 8000000 in
set_option maxRecDepth 100000 in
theorem impl_sized.calls (a0 : Int) (a1 : Int) (r : Bool) (w : World) (h : impl_sized.f a0 a1 = some r) :
  Calls Try.prog 50 #[.int .i64 a0, .int .i64 a1] w fun e w' => e = .returned (.bool r) ∧ Drawn0 w w' := by
 have H : (if a0 ≥ 1 then (if a0 ≤ 64 then (if a1 ≥ 1 then (if a1 ≤ 64 then (some (decide ((wrap64 (a0 * a1)) ≤ 1024))) else (some false)) else (some false)) else (some false)) else (some false)) = some r := h
 clear h
 by_cases c3 : a0 ≥ 1
 ·rw [if_pos c3] at H
  have c3b0 : decide (1 ≤ a0) = true := decide_eq_true c3
  clear c3
  by_cases c4 : a0 ≤ 64
  ·rw [if_pos c4] at H
   have c4b0 : decide (a0 ≤ 64) = true := decide_eq_true c4
   clear c4
   by_cases c5 : a1 ≥ 1
   ·rw [if_pos c5] at H
    have c5b0 : decide (1 ≤ a1) = true := decide_eq_true c5
    clear c5
    by_cases c6 : a1 ≤ 64
    ·rw [if_pos c6] at H
     have c6b0 : decide (a1 ≤ 64) = true := decide_eq_true c6
     clear c6
     obtain rfl := Option.some.inj H
     go_enter Try.func50, Try.ntmps50
     go_wp2
     go_ret
     exact ⟨by first |rfl|(simp;done)|(simp [*];done), by repeat (first|exact Drawn0.refl _|apply Drawn0.step)⟩
    ·rw [if_neg c6] at H
     have c6b0 : decide (a1 ≤ 64) = false := decide_eq_false c6
     clear c6
     obtain rfl := Option.some.inj H
     go_enter Try.func50, Try.ntmps50
     go_wp2
     go_ret
     exact ⟨by first |rfl|(simp;done)|(simp [*];done), by repeat (first|exact Drawn0.refl _|apply Drawn0.step)⟩
   ·rw [if_neg c5] at H
    have c5b0 : decide (1 ≤ a1) = false := decide_eq_false c5
    clear c5
    obtain rfl := Option.some.inj H
    go_enter Try.func50, Try.ntmps50
    go_wp2
    go_ret
    exact ⟨by first |rfl|(simp;done)|(simp [*];done), by repeat (first|exact Drawn0.refl _|apply Drawn0.step)⟩
  ·rw [if_neg c4] at H
   have c4b0 : decide (a0 ≤ 64) = false := decide_eq_false c4
   clear c4
   obtain rfl := Option.some.inj H
   go_enter Try.func50, Try.ntmps50
   go_wp2
   go_ret
   exact ⟨by first |rfl|(simp;done)|(simp [*];done), by repeat (first|exact Drawn0.refl _|apply Drawn0.step)⟩
 ·rw [if_neg c3] at H
  have c3b0 : decide (1 ≤ a0) = false := decide_eq_false c3
  clear c3
  obtain rfl := Option.some.inj H
  go_enter Try.func50, Try.ntmps50
  go_wp2
  go_ret
  exact ⟨by first |rfl|(simp;done)|(simp [*];done), by repeat (first|exact Drawn0.refl _|apply Drawn0.step)⟩
def impl_within.f (l0 : List Int) (a1 : Int) : Option Bool := if l0.length ≤ 140737488355328 then some (l0.all fun n => decide (0 ≤ n ∧ n ≤ a1)) else none
theorem impl_within.calls (A0 : Option Addr) (c0 : Nat) (l0 : List Int) (a1 : Int) (r : Bool) (w : World) (hr0 : Kd.C (Kd.int .i64) w A0 l0.length l0) (hc0 : l0.length ≤ c0) (h : impl_within.f l0 a1 = some r) :
  Calls Try.prog 61 #[.slice A0 l0.length c0, .int .i64 a1] w fun e w' => e = .returned (.bool r) ∧ Below w.heap.size w w' := by
 unfold impl_within.f at h
 split at h
 ·rename_i hl
  obtain rfl := Option.some.inj h
  exact Ext.within A0 c0 l0 a1 w hr0 hl
 ·exact absurd h (by simp)

end Go.Proofs.Ytnohdgbfgdnpfaa.PFnCausal
