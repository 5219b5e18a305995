/- Machine side of laws FnExactDiffusePicture: written for this claim by the kit's print program under this session's wip/tools/mp_setup.py (with contracts of the session's own, wip/ext). -/
import Derived.Test.YtnohdgbfgdnpfaaPFnExactDiffusePicturex0
namespace Go.Proofs.Ytnohdgbfgdnpfaa.PFnExactDiffusePicture
open Go.RowKit Go.Proofs.YtnohdgbfgdnpfaaW.PrintWords Go.Proofs.YtnohdgbfgdnpfaaW.PrintLast Go.Proofs.YtnohdgbfgdnpfaaW.PrintMore
attribute [local go_sem] max2_int min2_int max_two min_two max_three min_three max_four min_four   -- for this text's walks alone
set_option linter.unusedVariables false
set_option linter.unusedSimpArgs false
-- squeezed: words under short names
set_option linter.defProp false in
def z0g := @Aside0.mk
set_option linter.defProp false in
def z1g := @blk_drewN
set_option linter.defProp false in
def z2g := @blk_alloc
set_option linter.defProp false in
def z3g := @blk_drew
set_option linter.defProp false in
def z4g := @below_alloc
set_option linter.defProp false in
def z5g := @pw_below_drewN
set_option linter.defProp false in
def z6g := @below_drew1
set_option linter.defProp false in
def z7g := @below_set
set_option linter.defProp false in
def x2g := @blk_frozen
set_option linter.defProp false in
def x3g := @blk_cell
def bsg_ (n m : Nat) : Array Bool := ((List.range n).map fun i => m.testBit i).toArray
theorem s1g_ {α : Type} (l : List α) (i : Nat) (a : α) : l.toArray.setIfInBounds i a = (l.set i a).toArray := List.setIfInBounds_toArray l i a
theorem s2g_ {α : Type} (a b : α) (l : List α) : (a :: l).set 0 b = b :: l := rfl
theorem s3g_ {α : Type} (a b : α) (n : Nat) (l : List α) : (a :: l).set (n + 1) b = a :: l.set n b := rfl

/-! ### spec_l1In: function 53 -/
def spec_l1In.f (a0 : Int) (a1 : Int) (a2 : Int) : Option (Bool) := if a0 ≥ a1 then (some (decide (a0 ≤ a2))) else (some false)
set_option maxHeartbeats 8000000 in
set_option maxRecDepth 100000 in
theorem spec_l1In.calls (a0 : Int) (a1 : Int) (a2 : Int) (r : Bool) (w : World) (h : spec_l1In.f a0 a1 a2 = some r) :
  Calls Try.prog 53 #[.int .i64 a0, .int .i64 a1, .int .i64 a2] w fun e w' => e = .returned (.bool r) ∧ Drawn0 w w' := by
 have H : (if a0 ≥ a1 then (some (decide (a0 ≤ a2))) else (some false)) = some r := h
 clear h
 by_cases c4 : a0 ≥ a1
 ·rw [if_pos c4] at H
  have c4b0 : decide (a1 ≤ a0) = true := decide_eq_true c4
  clear c4
  obtain rfl := Option.some.inj H
  go_enter Try.func53, Try.ntmps53
  go_wp2
  go_ret
  exact ⟨by first | rfl | (simp; done) | (simp [*]; done), by repeat (first | exact Drawn0.refl _ | apply Drawn0.step)⟩
 ·rw [if_neg c4] at H
  have c4b0 : decide (a1 ≤ a0) = false := decide_eq_false c4
  clear c4
  obtain rfl := Option.some.inj H
  go_enter Try.func53, Try.ntmps53
  go_wp2
  go_ret
  exact ⟨by first | rfl | (simp; done) | (simp [*]; done), by repeat (first | exact Drawn0.refl _ | apply Drawn0.step)⟩

/-! ### spec_IsKernel: function 39 -/
mutual
def spec_IsKernel.l0 : Nat → List (S60) → List (S60) → Int → Int → Option (Bool)
 | 0, _, _, _, _ => none
 | k + 1, x0, x11, x12, x13 => if x13 < x12 then (if 0 ≤ x13 then (if x13 < (x11.length : Int) then ((spec_l1In.f ((rd_T60 x11 x13).f0) (-4) 4).bind fun t223 => (if t223 = true then ((spec_l1In.f ((rd_T60 x11 x13).f1) 0 4).bind fun t224 => (if t224 = true then (if ((rd_T60 x11 x13).f1) = 0 then (if ((rd_T60 x11 x13).f0) < 1 then (spec_IsKernel.j1 k x0 x13 x11 x12 x13 true ((rd_T60 x11 x13).f0) ((rd_T60 x11 x13).f1) ((rd_T60 x11 x13).f2)) else ((spec_l1In.f ((rd_T60 x11 x13).f2) 1 100).bind fun t225 => (spec_IsKernel.j1 k x0 x13 x11 x12 x13 (!t225) ((rd_T60 x11 x13).f0) ((rd_T60 x11 x13).f1) ((rd_T60 x11 x13).f2)))) else ((spec_l1In.f ((rd_T60 x11 x13).f2) 1 100).bind fun t226 => (spec_IsKernel.j1 k x0 x13 x11 x12 x13 (!t226) ((rd_T60 x11 x13).f0) ((rd_T60 x11 x13).f1) ((rd_T60 x11 x13).f2)))) else (spec_IsKernel.j1 k x0 x13 x11 x12 x13 true ((rd_T60 x11 x13).f0) ((rd_T60 x11 x13).f1) ((rd_T60 x11 x13).f2)))) else (spec_IsKernel.j1 k x0 x13 x11 x12 x13 true ((rd_T60 x11 x13).f0) ((rd_T60 x11 x13).f1) ((rd_T60 x11 x13).f2)))) else (none)) else (none)) else (some true)
def spec_IsKernel.j1 : Nat → List (S60) → Int → List (S60) → Int → Int → Bool → Int → Int → Int → Option (Bool)
 | 0, _, _, _, _, _, _, _, _, _ => none
 | k + 1, x0, x3, x11, x12, x13, x43, x223000, x223001, x223002 => if x43 = true then (some false) else (if 0 ≤ x3 then (if x3 ≤ (x0.length : Int) then ((some (x0.take (x3 : Int).toNat : List (S60))).bind fun y227 => (spec_IsKernel.l1 k x0 x11 x12 x13 y227 (y227.length : Int) 0 x223000 x223001 x223002)) else (none)) else (none))
def spec_IsKernel.l1 : Nat → List (S60) → List (S60) → Int → Int → List (S60) → Int → Int → Int → Int → Int → Option (Bool)
 | 0, _, _, _, _, _, _, _, _, _, _ => none
 | k + 1, x0, x11, x12, x13, x46, x47, x48, x223000, x223001, x223002 => if x48 < x47 then (if 0 ≤ x48 then (if x48 < (x46.length : Int) then (if x223000 = ((rd_T60 x46 x48).f0) then (if x223001 = ((rd_T60 x46 x48).f1) then (some false) else (spec_IsKernel.l1 k x0 x11 x12 x13 x46 x47 (wrap64 (x48 + 1)) x223000 x223001 x223002)) else (spec_IsKernel.l1 k x0 x11 x12 x13 x46 x47 (wrap64 (x48 + 1)) x223000 x223001 x223002)) else (none)) else (none)) else (spec_IsKernel.l0 k x0 x11 x12 (wrap64 (x13 + 1)))
end
def spec_IsKernel.f (k : Nat) (l0 : List (S60)) : Option (Bool) := (spec_l1In.f (l0.length : Int) 1 12).bind fun t220 => (if t220 = true then (spec_IsKernel.l0 k l0 l0 (l0.length : Int) 0) else (some false))
set_option maxHeartbeats 8000000 in
set_option maxRecDepth 100000 in
theorem spec_IsKernel.calls (k : Nat) (A0 : Option Addr) (c0 : Nat) (l0 : List (S60)) (r : Bool) (w : World) (hr0 : Kd.C k60 w A0 l0.length l0) (hc0 : l0.length ≤ c0) (h : spec_IsKernel.f k l0 = some r) :
  Calls Try.prog 39 #[.slice A0 l0.length c0] w fun e w' => e = .returned (.bool r) ∧ Below w.heap.size w w' := by
 have hu60 := Try.underlying60
 have HR0 := z0g hr0
 have HC0 := z0g hc0
 clear hr0 hc0
 have HB := z0g (Below.refl w.heap.size w)
 have H : ((spec_l1In.f (l0.length : Int) 1 12).bind fun t220 => (if t220 = true then (spec_IsKernel.l0 k l0 l0 (l0.length : Int) 0) else (some false))) = some r := h
 clear h
 replace H := Option.bind_eq_some_iff.mp H
 obtain ⟨t220, A20, H⟩ := H
 replace H : (if t220 = true then (spec_IsKernel.l0 k l0 l0 (l0.length : Int) 0) else (some false)) = some r := H
 have A2 := z0g A20
 clear A20
 by_cases c3 : t220 = true
 ·subst c3
  have H1 : (spec_IsKernel.l0 k l0 l0 (l0.length : Int) 0) = some r := by rw [if_pos rfl] at H; first | exact H | (simp only [if_true] at H ⊢; exact H)
  clear H
  have H := H1
  clear H1
  have H' := z0g H
  clear H
  go_enter Try.func39, Try.ntmps39
  go_wp2_with (first | ((with_reducible refine gate_callee (f := 53) rfl ?_); refine goesL_ (some 9) rfl rfl Try.func53 (by kernel_rfl) rfl #[.int .i64 (l0.length : Int), .int .i64 1, .int .i64 12] rfl (by (try simp only [List.map_toArray, List.map_cons, List.map_nil]); first | done | rfl | (simp only [List.length_drop, List.length_take]; rfl)) ?_; (with_reducible refine (spec_l1In.calls (l0.length : Int) 1 12 true _ A2.out).mono ?_); rintro e w' ⟨rfl, ⟨nd, rfl⟩⟩; refine ⟨_, rfl, ?_⟩))
  go_loopg [13] k (fun kq v13 w' => ∃ (x13_1 : Int), v13 = .int .i64 x13_1 ∧ Aside0 (spec_IsKernel.l0 kq l0 l0 (l0.length : Int) x13_1 = some r) ∧ Aside0 (kq ≤ k) ∧ Aside0 (Below w.heap.size w w'))
  case atStart => exact ⟨(0), (by first | rfl | (simp; done) | (simp [*]; done)), H', ⟨Nat.le_refl _⟩, ⟨by repeat (first | (with_reducible first | exact HB.out | apply z4g | apply z5g | apply z6g) | exact HB.out)⟩⟩
  case round =>
   clear H'
   try clear p2
   try clear c3
   obtain ⟨x13_1, rfl, HA, HK1, HB⟩ := hrel
   cases gk with
   | zero => exact absurd HA.out (by simp [spec_IsKernel.l0])
   | succ k1 =>
    have H := HA.out
    clear HA
    simp only [spec_IsKernel.l0] at H
    by_cases c4 : x13_1 < (l0.length : Int)
    ·rw [if_pos c4] at H
     have c4b0 : decide (x13_1 < (l0.length : Int)) = true := decide_eq_true c4
     clear c4
     by_cases c5 : 0 ≤ x13_1
     ·rw [if_pos c5] at H
      have c5b0 : decide (0 ≤ x13_1) = true := decide_eq_true c5
      clear c5
      by_cases c6 : x13_1 < (l0.length : Int)
      ·rw [if_pos c6] at H
       have c6b0 : decide (x13_1 < (l0.length : Int)) = true := decide_eq_true c6
       clear c6
       have HC7 := z0g H
       clear H
       have p221 : 0 ≤ (x13_1 : Int) := of_decide_eq_true (by first | (with_reducible assumption) | assumption)
       have q221 : x13_1 < (l0.length : Int) := of_decide_eq_true (by first | (with_reducible assumption) | assumption)
       obtain ⟨ad221, e221, hx221_0, hx221_1, hx221_2⟩ := at_T60 HR0.out x13_1 p221 q221
       cases e221
       replace hx221_0 := (HB.out.cell (World.block_lt_of_cell? w _ hx221_0)).trans hx221_0
       replace hx221_1 := (HB.out.cell (World.block_lt_of_cell? w _ hx221_1)).trans hx221_1
       replace hx221_2 := (HB.out.cell (World.block_lt_of_cell? w _ hx221_2)).trans hx221_2
       replace p221 := eq_true p221
       replace q221 := eq_true q221
       go_upto_region 6 with (first | ((with_reducible refine gate_dst (N := 4) rfl ?_); refine box_event ?hg (N := 4) ?hd (cs := #[.int .i64 0, .int .i64 0, .int .i64 0]) (t := 60) ?hr ?_; (case hd => rfl); (case hg => rfl); (case hr => first | (go_simp; done) | (go_simp; rfl)); intro gb222 hg w8 hbox hb; have n0_ := z0g (below_step (by repeat (first | (with_reducible first | exact HB.out | apply z4g | apply z5g | apply z6g) | exact HB.out)) hb); have n1_ := z0g (hbox); have n2_ := z0g ((by rw [hg]; exact (below_size (by repeat (first | (with_reducible first | exact HB.out | apply z4g | apply z5g | apply z6g) | exact HB.out))) : w.heap.size ≤ gb222)); have n3_ := z0g ((by rw [hg]; exact (below_size (by repeat (first | (with_reducible first | exact HB.out | apply z4g | apply z5g | apply z6g) | exact HB.out))) : w.heap.size ≤ gb222)); clear HB; have HB := n0_; have BK222 := n1_; have GW222 := n2_; have GE222 := n3_; clear n0_ n1_ n2_ n3_; clear hb hbox hg; have hcz9_0 : w8.cell? ⟨gb222, 0, none⟩ = some (.int .i64 0) := (x3g BK222.out 0).trans rfl; have hcz9_1 : w8.cell? ⟨gb222, 1, none⟩ = some (.int .i64 0) := (x3g BK222.out 1).trans rfl; have hcz9_2 : w8.cell? ⟨gb222, 2, none⟩ = some (.int .i64 0) := (x3g BK222.out 2).trans rfl; have hfz9_0 := x2g BK222.out 0; have hfz9_1 := x2g BK222.out 1; have hfz9_2 := x2g BK222.out 2))
       (try simp only [Act.put, s1g_, s2g_, s3g_])
       go_cut [43] (fun v43 wc => ∃ (kq : Nat) (x43_6 : Bool), v43 = .bool x43_6 ∧ Aside0 (spec_IsKernel.j1 kq l0 x13_1 l0 (l0.length : Int) x13_1 x43_6 ((rd_T60 l0 x13_1).f0) ((rd_T60 l0 x13_1).f1) ((rd_T60 l0 x13_1).f2) = some r) ∧ Aside0 (kq ≤ k1) ∧ Aside0 (wc.heap[gb222]? = some (.cells #[.int .i64 ((rd_T60 l0 x13_1).f0), .int .i64 ((rd_T60 l0 x13_1).f1), .int .i64 ((rd_T60 l0 x13_1).f2)] 60 (0, 0))) ∧ Aside0 (Below w.heap.size w wc))
       case first =>
        have H := HC7.out
        clear HC7
        replace H := Option.bind_eq_some_iff.mp H
        obtain ⟨t223, A100, H⟩ := H
        replace H : (if t223 = true then ((spec_l1In.f ((rd_T60 l0 x13_1).f1) 0 4).bind fun t224 => (if t224 = true then (if ((rd_T60 l0 x13_1).f1) = 0 then (if ((rd_T60 l0 x13_1).f0) < 1 then (spec_IsKernel.j1 k1 l0 x13_1 l0 (l0.length : Int) x13_1 true ((rd_T60 l0 x13_1).f0) ((rd_T60 l0 x13_1).f1) ((rd_T60 l0 x13_1).f2)) else ((spec_l1In.f ((rd_T60 l0 x13_1).f2) 1 100).bind fun t225 => (spec_IsKernel.j1 k1 l0 x13_1 l0 (l0.length : Int) x13_1 (!t225) ((rd_T60 l0 x13_1).f0) ((rd_T60 l0 x13_1).f1) ((rd_T60 l0 x13_1).f2)))) else ((spec_l1In.f ((rd_T60 l0 x13_1).f2) 1 100).bind fun t226 => (spec_IsKernel.j1 k1 l0 x13_1 l0 (l0.length : Int) x13_1 (!t226) ((rd_T60 l0 x13_1).f0) ((rd_T60 l0 x13_1).f1) ((rd_T60 l0 x13_1).f2)))) else (spec_IsKernel.j1 k1 l0 x13_1 l0 (l0.length : Int) x13_1 true ((rd_T60 l0 x13_1).f0) ((rd_T60 l0 x13_1).f1) ((rd_T60 l0 x13_1).f2)))) else (spec_IsKernel.j1 k1 l0 x13_1 l0 (l0.length : Int) x13_1 true ((rd_T60 l0 x13_1).f0) ((rd_T60 l0 x13_1).f1) ((rd_T60 l0 x13_1).f2))) = some r := H
        have A10 := z0g A100
        clear A100
        by_cases c11 : t223 = true
        ·subst c11
         have H1 : ((spec_l1In.f ((rd_T60 l0 x13_1).f1) 0 4).bind fun t224 => (if t224 = true then (if ((rd_T60 l0 x13_1).f1) = 0 then (if ((rd_T60 l0 x13_1).f0) < 1 then (spec_IsKernel.j1 k1 l0 x13_1 l0 (l0.length : Int) x13_1 true ((rd_T60 l0 x13_1).f0) ((rd_T60 l0 x13_1).f1) ((rd_T60 l0 x13_1).f2)) else ((spec_l1In.f ((rd_T60 l0 x13_1).f2) 1 100).bind fun t225 => (spec_IsKernel.j1 k1 l0 x13_1 l0 (l0.length : Int) x13_1 (!t225) ((rd_T60 l0 x13_1).f0) ((rd_T60 l0 x13_1).f1) ((rd_T60 l0 x13_1).f2)))) else ((spec_l1In.f ((rd_T60 l0 x13_1).f2) 1 100).bind fun t226 => (spec_IsKernel.j1 k1 l0 x13_1 l0 (l0.length : Int) x13_1 (!t226) ((rd_T60 l0 x13_1).f0) ((rd_T60 l0 x13_1).f1) ((rd_T60 l0 x13_1).f2)))) else (spec_IsKernel.j1 k1 l0 x13_1 l0 (l0.length : Int) x13_1 true ((rd_T60 l0 x13_1).f0) ((rd_T60 l0 x13_1).f1) ((rd_T60 l0 x13_1).f2)))) = some r := by rw [if_pos rfl] at H; first | exact H | (simp only [if_true] at H ⊢; exact H)
         clear H
         have H := H1
         clear H1
         replace H := Option.bind_eq_some_iff.mp H
         obtain ⟨t224, A120, H⟩ := H
         replace H : (if t224 = true then (if ((rd_T60 l0 x13_1).f1) = 0 then (if ((rd_T60 l0 x13_1).f0) < 1 then (spec_IsKernel.j1 k1 l0 x13_1 l0 (l0.length : Int) x13_1 true ((rd_T60 l0 x13_1).f0) ((rd_T60 l0 x13_1).f1) ((rd_T60 l0 x13_1).f2)) else ((spec_l1In.f ((rd_T60 l0 x13_1).f2) 1 100).bind fun t225 => (spec_IsKernel.j1 k1 l0 x13_1 l0 (l0.length : Int) x13_1 (!t225) ((rd_T60 l0 x13_1).f0) ((rd_T60 l0 x13_1).f1) ((rd_T60 l0 x13_1).f2)))) else ((spec_l1In.f ((rd_T60 l0 x13_1).f2) 1 100).bind fun t226 => (spec_IsKernel.j1 k1 l0 x13_1 l0 (l0.length : Int) x13_1 (!t226) ((rd_T60 l0 x13_1).f0) ((rd_T60 l0 x13_1).f1) ((rd_T60 l0 x13_1).f2)))) else (spec_IsKernel.j1 k1 l0 x13_1 l0 (l0.length : Int) x13_1 true ((rd_T60 l0 x13_1).f0) ((rd_T60 l0 x13_1).f1) ((rd_T60 l0 x13_1).f2))) = some r := H
         have A12 := z0g A120
         clear A120
         by_cases c13 : t224 = true
         ·subst c13
          have H1 : (if ((rd_T60 l0 x13_1).f1) = 0 then (if ((rd_T60 l0 x13_1).f0) < 1 then (spec_IsKernel.j1 k1 l0 x13_1 l0 (l0.length : Int) x13_1 true ((rd_T60 l0 x13_1).f0) ((rd_T60 l0 x13_1).f1) ((rd_T60 l0 x13_1).f2)) else ((spec_l1In.f ((rd_T60 l0 x13_1).f2) 1 100).bind fun t225 => (spec_IsKernel.j1 k1 l0 x13_1 l0 (l0.length : Int) x13_1 (!t225) ((rd_T60 l0 x13_1).f0) ((rd_T60 l0 x13_1).f1) ((rd_T60 l0 x13_1).f2)))) else ((spec_l1In.f ((rd_T60 l0 x13_1).f2) 1 100).bind fun t226 => (spec_IsKernel.j1 k1 l0 x13_1 l0 (l0.length : Int) x13_1 (!t226) ((rd_T60 l0 x13_1).f0) ((rd_T60 l0 x13_1).f1) ((rd_T60 l0 x13_1).f2)))) = some r := by rw [if_pos rfl] at H; first | exact H | (simp only [if_true] at H ⊢; exact H)
          clear H
          have H := H1
          clear H1
          by_cases c14 : ((rd_T60 l0 x13_1).f1) = 0
          ·rw [if_pos c14] at H
           have c14b0 : (((rd_T60 l0 x13_1).f1) == 0) = true := beq_iff_eq.mpr c14
           have c14b1 : (((rd_T60 l0 x13_1).f1) != 0) = false := bne_eq_false_iff_eq.mpr c14
           clear c14
           (first | rw [c14b0] | (simp only [i64_w, i32_w]; rw [c14b0]) | skip)
           by_cases c15 : ((rd_T60 l0 x13_1).f0) < 1
           ·rw [if_pos c15] at H
            have c15b0 : decide (((rd_T60 l0 x13_1).f0) < 1) = true := decide_eq_true c15
            clear c15
            have H' := z0g H
            clear H
            have hcz16_0 : w8.cell? ⟨gb222, 0, none⟩ = some (.int .i64 0) := (x3g BK222.out 0).trans rfl
            have hcz16_1 : w8.cell? ⟨gb222, 1, none⟩ = some (.int .i64 0) := (x3g BK222.out 1).trans rfl
            have hcz16_2 : w8.cell? ⟨gb222, 2, none⟩ = some (.int .i64 0) := (x3g BK222.out 2).trans rfl
            have hfz16_0 := x2g BK222.out 0
            have hfz16_1 := x2g BK222.out 1
            have hfz16_2 := x2g BK222.out 2
            go_wp2_with (first | ((with_reducible refine gate_callee (f := 53) rfl ?_); refine goesL_ (some 20) rfl rfl Try.func53 (by kernel_rfl) rfl #[.int .i64 ((rd_T60 l0 x13_1).f0), .int .i64 (-4), .int .i64 4] rfl (by (try simp only [List.map_toArray, List.map_cons, List.map_nil]); first | done | rfl | (simp only [List.length_drop, List.length_take]; rfl)) ?_; (with_reducible refine (spec_l1In.calls ((rd_T60 l0 x13_1).f0) (-4) 4 true _ A10.out).mono ?_); rintro e w' ⟨rfl, ⟨nd, rfl⟩⟩; refine ⟨_, rfl, ?_⟩) | (go_at_call 53; (with_reducible refine (spec_l1In.calls ((rd_T60 l0 x13_1).f1) 0 4 true _ A12.out).mono ?_); rintro e w' ⟨rfl, ⟨nd, rfl⟩⟩))
            go_meet
            case rel => exact ⟨_, (true), (by first | rfl | (simp; done) | (simp [*]; done)), H', ⟨by have := HK1.out; first | omega | exact Nat.le_refl _⟩, ⟨by (with_reducible repeat (first | refine z1g ?_ _ | refine z3g ?_ | refine z2g ?_ _)); refine blk_put (cs := #[.int .i64 ((rd_T60 l0 x13_1).f0), .int .i64 ((rd_T60 l0 x13_1).f1), .int .i64 0]) ?_ 2 _ rfl; (with_reducible repeat (first | refine z1g ?_ _ | refine z3g ?_ | refine z2g ?_ _)); refine blk_put (cs := #[.int .i64 ((rd_T60 l0 x13_1).f0), .int .i64 0, .int .i64 0]) ?_ 1 _ rfl; (with_reducible repeat (first | refine z1g ?_ _ | refine z3g ?_ | refine z2g ?_ _)); refine blk_put (cs := #[.int .i64 0, .int .i64 0, .int .i64 0]) ?_ 0 _ rfl; (with_reducible repeat (first | refine z1g ?_ _ | refine z3g ?_ | refine z2g ?_ _)); exact BK222.out⟩, ⟨by repeat (first | (with_reducible first | exact HB.out | apply z4g | apply z5g | apply z6g | refine z7g ?_ GE222.out) | exact HB.out)⟩⟩
           ·rw [if_neg c15] at H
            have c15b0 : decide (((rd_T60 l0 x13_1).f0) < 1) = false := decide_eq_false c15
            clear c15
            replace H := Option.bind_eq_some_iff.mp H
            obtain ⟨t225, A170, H⟩ := H
            replace H : (spec_IsKernel.j1 k1 l0 x13_1 l0 (l0.length : Int) x13_1 (!t225) ((rd_T60 l0 x13_1).f0) ((rd_T60 l0 x13_1).f1) ((rd_T60 l0 x13_1).f2)) = some r := H
            have A17 := z0g A170
            clear A170
            have H' := z0g H
            clear H
            have hcz18_0 : w8.cell? ⟨gb222, 0, none⟩ = some (.int .i64 0) := (x3g BK222.out 0).trans rfl
            have hcz18_1 : w8.cell? ⟨gb222, 1, none⟩ = some (.int .i64 0) := (x3g BK222.out 1).trans rfl
            have hcz18_2 : w8.cell? ⟨gb222, 2, none⟩ = some (.int .i64 0) := (x3g BK222.out 2).trans rfl
            have hfz18_0 := x2g BK222.out 0
            have hfz18_1 := x2g BK222.out 1
            have hfz18_2 := x2g BK222.out 2
            go_wp2_with (first | ((with_reducible refine gate_callee (f := 53) rfl ?_); refine goesL_ (some 20) rfl rfl Try.func53 (by kernel_rfl) rfl #[.int .i64 ((rd_T60 l0 x13_1).f0), .int .i64 (-4), .int .i64 4] rfl (by (try simp only [List.map_toArray, List.map_cons, List.map_nil]); first | done | rfl | (simp only [List.length_drop, List.length_take]; rfl)) ?_; (with_reducible refine (spec_l1In.calls ((rd_T60 l0 x13_1).f0) (-4) 4 true _ A10.out).mono ?_); rintro e w' ⟨rfl, ⟨nd, rfl⟩⟩; refine ⟨_, rfl, ?_⟩) | (go_at_call 53; (with_reducible refine (spec_l1In.calls ((rd_T60 l0 x13_1).f1) 0 4 true _ A12.out).mono ?_); rintro e w' ⟨rfl, ⟨nd, rfl⟩⟩) | (go_at_call 53; (with_reducible refine (spec_l1In.calls ((rd_T60 l0 x13_1).f2) 1 100 t225 _ A17.out).mono ?_); rintro e w' ⟨rfl, ⟨nd, rfl⟩⟩))
            go_meet
            case rel => exact ⟨_, (!t225), (by first | rfl | (simp; done) | (simp [*]; done)), H', ⟨by have := HK1.out; first | omega | exact Nat.le_refl _⟩, ⟨by (with_reducible repeat (first | refine z1g ?_ _ | refine z3g ?_ | refine z2g ?_ _)); refine blk_put (cs := #[.int .i64 ((rd_T60 l0 x13_1).f0), .int .i64 ((rd_T60 l0 x13_1).f1), .int .i64 0]) ?_ 2 _ rfl; (with_reducible repeat (first | refine z1g ?_ _ | refine z3g ?_ | refine z2g ?_ _)); refine blk_put (cs := #[.int .i64 ((rd_T60 l0 x13_1).f0), .int .i64 0, .int .i64 0]) ?_ 1 _ rfl; (with_reducible repeat (first | refine z1g ?_ _ | refine z3g ?_ | refine z2g ?_ _)); refine blk_put (cs := #[.int .i64 0, .int .i64 0, .int .i64 0]) ?_ 0 _ rfl; (with_reducible repeat (first | refine z1g ?_ _ | refine z3g ?_ | refine z2g ?_ _)); exact BK222.out⟩, ⟨by repeat (first | (with_reducible first | exact HB.out | apply z4g | apply z5g | apply z6g | refine z7g ?_ GE222.out) | exact HB.out)⟩⟩
          ·rw [if_neg c14] at H
           have c14b0 : (((rd_T60 l0 x13_1).f1) == 0) = false := beq_eq_false_iff_ne.mpr c14
           have c14b1 : (((rd_T60 l0 x13_1).f1) != 0) = true := bne_iff_ne.mpr c14
           (first | rw [c14b0] | (simp only [i64_w, i32_w]; rw [c14b0]) | skip)
           replace H := Option.bind_eq_some_iff.mp H
           obtain ⟨t226, A190, H⟩ := H
           replace H : (spec_IsKernel.j1 k1 l0 x13_1 l0 (l0.length : Int) x13_1 (!t226) ((rd_T60 l0 x13_1).f0) ((rd_T60 l0 x13_1).f1) ((rd_T60 l0 x13_1).f2)) = some r := H
           have A19 := z0g A190
           clear A190
           have H' := z0g H
           clear H
           have hcz20_0 : w8.cell? ⟨gb222, 0, none⟩ = some (.int .i64 0) := (x3g BK222.out 0).trans rfl
           have hcz20_1 : w8.cell? ⟨gb222, 1, none⟩ = some (.int .i64 0) := (x3g BK222.out 1).trans rfl
           have hcz20_2 : w8.cell? ⟨gb222, 2, none⟩ = some (.int .i64 0) := (x3g BK222.out 2).trans rfl
           have hfz20_0 := x2g BK222.out 0
           have hfz20_1 := x2g BK222.out 1
           have hfz20_2 := x2g BK222.out 2
           go_wp2_with (first | ((with_reducible refine gate_callee (f := 53) rfl ?_); refine goesL_ (some 20) rfl rfl Try.func53 (by kernel_rfl) rfl #[.int .i64 ((rd_T60 l0 x13_1).f0), .int .i64 (-4), .int .i64 4] rfl (by (try simp only [List.map_toArray, List.map_cons, List.map_nil]); first | done | rfl | (simp only [List.length_drop, List.length_take]; rfl)) ?_; (with_reducible refine (spec_l1In.calls ((rd_T60 l0 x13_1).f0) (-4) 4 true _ A10.out).mono ?_); rintro e w' ⟨rfl, ⟨nd, rfl⟩⟩; refine ⟨_, rfl, ?_⟩) | (go_at_call 53; (with_reducible refine (spec_l1In.calls ((rd_T60 l0 x13_1).f1) 0 4 true _ A12.out).mono ?_); rintro e w' ⟨rfl, ⟨nd, rfl⟩⟩) | (go_at_call 53; (with_reducible refine (spec_l1In.calls ((rd_T60 l0 x13_1).f2) 1 100 t226 _ A19.out).mono ?_); rintro e w' ⟨rfl, ⟨nd, rfl⟩⟩))
           go_meet
           case rel => exact ⟨_, (!t226), (by first | rfl | (simp; done) | (simp [*]; done)), H', ⟨by have := HK1.out; first | omega | exact Nat.le_refl _⟩, ⟨by (with_reducible repeat (first | refine z1g ?_ _ | refine z3g ?_ | refine z2g ?_ _)); refine blk_put (cs := #[.int .i64 ((rd_T60 l0 x13_1).f0), .int .i64 ((rd_T60 l0 x13_1).f1), .int .i64 0]) ?_ 2 _ rfl; (with_reducible repeat (first | refine z1g ?_ _ | refine z3g ?_ | refine z2g ?_ _)); refine blk_put (cs := #[.int .i64 ((rd_T60 l0 x13_1).f0), .int .i64 0, .int .i64 0]) ?_ 1 _ rfl; (with_reducible repeat (first | refine z1g ?_ _ | refine z3g ?_ | refine z2g ?_ _)); refine blk_put (cs := #[.int .i64 0, .int .i64 0, .int .i64 0]) ?_ 0 _ rfl; (with_reducible repeat (first | refine z1g ?_ _ | refine z3g ?_ | refine z2g ?_ _)); exact BK222.out⟩, ⟨by repeat (first | (with_reducible first | exact HB.out | apply z4g | apply z5g | apply z6g | refine z7g ?_ GE222.out) | exact HB.out)⟩⟩
         ·replace c13 := Bool.eq_false_iff.mpr c13
          subst c13
          have H1 : (spec_IsKernel.j1 k1 l0 x13_1 l0 (l0.length : Int) x13_1 true ((rd_T60 l0 x13_1).f0) ((rd_T60 l0 x13_1).f1) ((rd_T60 l0 x13_1).f2)) = some r := by rw [if_neg (show ¬ (false = true) by decide)] at H; first | exact H | (simp only [if_true] at H ⊢; exact H)
          clear H
          have H := H1
          clear H1
          have H' := z0g H
          clear H
          have hcz21_0 : w8.cell? ⟨gb222, 0, none⟩ = some (.int .i64 0) := (x3g BK222.out 0).trans rfl
          have hcz21_1 : w8.cell? ⟨gb222, 1, none⟩ = some (.int .i64 0) := (x3g BK222.out 1).trans rfl
          have hcz21_2 : w8.cell? ⟨gb222, 2, none⟩ = some (.int .i64 0) := (x3g BK222.out 2).trans rfl
          have hfz21_0 := x2g BK222.out 0
          have hfz21_1 := x2g BK222.out 1
          have hfz21_2 := x2g BK222.out 2
          go_wp2_with (first | ((with_reducible refine gate_callee (f := 53) rfl ?_); refine goesL_ (some 20) rfl rfl Try.func53 (by kernel_rfl) rfl #[.int .i64 ((rd_T60 l0 x13_1).f0), .int .i64 (-4), .int .i64 4] rfl (by (try simp only [List.map_toArray, List.map_cons, List.map_nil]); first | done | rfl | (simp only [List.length_drop, List.length_take]; rfl)) ?_; (with_reducible refine (spec_l1In.calls ((rd_T60 l0 x13_1).f0) (-4) 4 true _ A10.out).mono ?_); rintro e w' ⟨rfl, ⟨nd, rfl⟩⟩; refine ⟨_, rfl, ?_⟩) | (go_at_call 53; (with_reducible refine (spec_l1In.calls ((rd_T60 l0 x13_1).f1) 0 4 false _ A12.out).mono ?_); rintro e w' ⟨rfl, ⟨nd, rfl⟩⟩))
          go_meet
          case rel => exact ⟨_, (true), (by first | rfl | (simp; done) | (simp [*]; done)), H', ⟨by have := HK1.out; first | omega | exact Nat.le_refl _⟩, ⟨by (with_reducible repeat (first | refine z1g ?_ _ | refine z3g ?_ | refine z2g ?_ _)); refine blk_put (cs := #[.int .i64 ((rd_T60 l0 x13_1).f0), .int .i64 ((rd_T60 l0 x13_1).f1), .int .i64 0]) ?_ 2 _ rfl; (with_reducible repeat (first | refine z1g ?_ _ | refine z3g ?_ | refine z2g ?_ _)); refine blk_put (cs := #[.int .i64 ((rd_T60 l0 x13_1).f0), .int .i64 0, .int .i64 0]) ?_ 1 _ rfl; (with_reducible repeat (first | refine z1g ?_ _ | refine z3g ?_ | refine z2g ?_ _)); refine blk_put (cs := #[.int .i64 0, .int .i64 0, .int .i64 0]) ?_ 0 _ rfl; (with_reducible repeat (first | refine z1g ?_ _ | refine z3g ?_ | refine z2g ?_ _)); exact BK222.out⟩, ⟨by repeat (first | (with_reducible first | exact HB.out | apply z4g | apply z5g | apply z6g | refine z7g ?_ GE222.out) | exact HB.out)⟩⟩
        ·replace c11 := Bool.eq_false_iff.mpr c11
         subst c11
         have H1 : (spec_IsKernel.j1 k1 l0 x13_1 l0 (l0.length : Int) x13_1 true ((rd_T60 l0 x13_1).f0) ((rd_T60 l0 x13_1).f1) ((rd_T60 l0 x13_1).f2)) = some r := by rw [if_neg (show ¬ (false = true) by decide)] at H; first | exact H | (simp only [if_true] at H ⊢; exact H)
         clear H
         have H := H1
         clear H1
         have H' := z0g H
         clear H
         have hcz22_0 : w8.cell? ⟨gb222, 0, none⟩ = some (.int .i64 0) := (x3g BK222.out 0).trans rfl
         have hcz22_1 : w8.cell? ⟨gb222, 1, none⟩ = some (.int .i64 0) := (x3g BK222.out 1).trans rfl
         have hcz22_2 : w8.cell? ⟨gb222, 2, none⟩ = some (.int .i64 0) := (x3g BK222.out 2).trans rfl
         have hfz22_0 := x2g BK222.out 0
         have hfz22_1 := x2g BK222.out 1
         have hfz22_2 := x2g BK222.out 2
         go_wp2_with (first | ((with_reducible refine gate_callee (f := 53) rfl ?_); refine goesL_ (some 20) rfl rfl Try.func53 (by kernel_rfl) rfl #[.int .i64 ((rd_T60 l0 x13_1).f0), .int .i64 (-4), .int .i64 4] rfl (by (try simp only [List.map_toArray, List.map_cons, List.map_nil]); first | done | rfl | (simp only [List.length_drop, List.length_take]; rfl)) ?_; (with_reducible refine (spec_l1In.calls ((rd_T60 l0 x13_1).f0) (-4) 4 false _ A10.out).mono ?_); rintro e w' ⟨rfl, ⟨nd, rfl⟩⟩; refine ⟨_, rfl, ?_⟩))
         go_meet
         case rel => exact ⟨_, (true), (by first | rfl | (simp; done) | (simp [*]; done)), H', ⟨by have := HK1.out; first | omega | exact Nat.le_refl _⟩, ⟨by (with_reducible repeat (first | refine z1g ?_ _ | refine z3g ?_ | refine z2g ?_ _)); refine blk_put (cs := #[.int .i64 ((rd_T60 l0 x13_1).f0), .int .i64 ((rd_T60 l0 x13_1).f1), .int .i64 0]) ?_ 2 _ rfl; (with_reducible repeat (first | refine z1g ?_ _ | refine z3g ?_ | refine z2g ?_ _)); refine blk_put (cs := #[.int .i64 ((rd_T60 l0 x13_1).f0), .int .i64 0, .int .i64 0]) ?_ 1 _ rfl; (with_reducible repeat (first | refine z1g ?_ _ | refine z3g ?_ | refine z2g ?_ _)); refine blk_put (cs := #[.int .i64 0, .int .i64 0, .int .i64 0]) ?_ 0 _ rfl; (with_reducible repeat (first | refine z1g ?_ _ | refine z3g ?_ | refine z2g ?_ _)); exact BK222.out⟩, ⟨by repeat (first | (with_reducible first | exact HB.out | apply z4g | apply z5g | apply z6g | refine z7g ?_ GE222.out) | exact HB.out)⟩⟩
       case rest =>
        clear HC7
        try clear c1
        try clear p2
        try clear q2
        try clear hx2
        try clear c3
        try clear c4
        try clear c4b0
        try clear c5
        try clear c5b0
        try clear c6
        try clear c6b0
        try clear c11
        try clear c13
        try clear c14
        try clear c14b0
        try clear c14b1
        try clear c15
        try clear c15b0
        try clear p22
        try clear q22
        try clear hx22
        try clear hcz16_0
        try clear hcz16_1
        try clear hcz16_2
        try clear hcz18_0
        try clear hcz18_1
        try clear hcz18_2
        try clear hcz20_0
        try clear hcz20_1
        try clear hcz20_2
        try clear hcz21_0
        try clear hcz21_1
        try clear hcz21_2
        try clear hcz22_0
        try clear hcz22_1
        try clear hcz22_2
        try clear hcz9_0
        try clear hcz9_1
        try clear hcz9_2
        try clear hfz16_0
        try clear hfz16_1
        try clear hfz16_2
        try clear hfz18_0
        try clear hfz18_1
        try clear hfz18_2
        try clear hfz20_0
        try clear hfz20_1
        try clear hfz20_2
        try clear hfz21_0
        try clear hfz21_1
        try clear hfz21_2
        try clear hfz22_0
        try clear hfz22_1
        try clear hfz22_2
        try clear hfz9_0
        try clear hfz9_1
        try clear hfz9_2
        try clear hx221_0
        try clear hx221_1
        try clear hx221_2
        try clear p2
        try clear p221
        try clear q221
        obtain ⟨kq, x43_6, rfl, HA, HJ6, BK222, HB⟩ := hcut
        cases kq with
        | zero => exact absurd HA.out (by simp [spec_IsKernel.j1])
        | succ kj6 =>
         have H := HA.out
         clear HA
         simp only [spec_IsKernel.j1] at H
         by_cases c23 : x43_6 = true
         ·subst c23
          have H1 : (some false) = some r := by rw [if_pos rfl] at H; first | exact H | (simp only [if_true] at H ⊢; exact H)
          clear H
          have H := H1
          clear H1
          obtain rfl := Option.some.inj H
          go_wp2
          go_ret
          exact ⟨by first | rfl | (simp [errW_none, errW_some] <;> rfl) | (simp [*, errW_none, errW_some] <;> rfl), by repeat (first | (with_reducible first | exact HB.out | apply z4g | apply z5g | apply z6g | refine z7g ?_ GE222.out) | exact HB.out)⟩
         ·replace c23 := Bool.eq_false_iff.mpr c23
          subst c23
          have H1 : (if 0 ≤ x13_1 then (if x13_1 ≤ (l0.length : Int) then ((some (l0.take (x13_1 : Int).toNat : List (S60))).bind fun y227 => (spec_IsKernel.l1 kj6 l0 l0 (l0.length : Int) x13_1 y227 (y227.length : Int) 0 ((rd_T60 l0 x13_1).f0) ((rd_T60 l0 x13_1).f1) ((rd_T60 l0 x13_1).f2))) else (none)) else (none)) = some r := by rw [if_neg (show ¬ (false = true) by decide)] at H; first | exact H | (simp only [if_true] at H ⊢; exact H)
          clear H
          have H := H1
          clear H1
          by_cases c24 : 0 ≤ x13_1
          ·rw [if_pos c24] at H
           have c24b0 := eq_true c24
           have c24b1 : decide (0 ≤ x13_1) = true := decide_eq_true c24
           clear c24
           by_cases c25 : x13_1 ≤ (l0.length : Int)
           ·rw [if_pos c25] at H
            have c25b0 := eq_true c25
            have c25b1 : decide (x13_1 ≤ (l0.length : Int)) = true := decide_eq_true c25
            clear c25
            obtain ⟨y227, hy227⟩ : ∃ y_ : List (S60), y_ = (l0.take (x13_1 : Int).toNat) := ⟨_, rfl⟩
            replace H : (spec_IsKernel.l1 kj6 l0 l0 (l0.length : Int) x13_1 y227 (y227.length : Int) 0 ((rd_T60 l0 x13_1).f0) ((rd_T60 l0 x13_1).f1) ((rd_T60 l0 x13_1).f2)) = some r := by first | (rw [hy227]; with_reducible exact H) | (have H2_ := (Option.bind_some _ _).symm.trans H; rw [hy227]; with_reducible exact H2_) | (have H2_ := (Option.bind_some _ _).symm.trans H; with_reducible exact H2_) | with_reducible exact H | (rw [hy227]; exact H) | exact H
            have Ny227 := z0g hy227
            clear hy227
            have H' := z0g H
            clear H
            have q26 : (x13_1 : Int) ≤ ((l0.length : Int) : Int) := of_decide_eq_true (by first | (with_reducible assumption) | assumption)
            obtain ⟨i026, hi026, _, hsz26, _⟩ := info_parts info60
            have hroom26 : l0.length ≤ c0 := HC0.out
            have hC26 : Kd.C k60 _ (some ad221) l0.length l0 := HR0.out
            have hcut26 := cut_to (P := Try.prog) 23 60 .i64 Try.underlying23 hi026 (some ad221) l0.length c0 x13_1 (of_decide_eq_true (by first | (with_reducible assumption) | assumption)) q26 hroom26
            have hr26 := Kd.C_take (m := (x13_1 : Int).toNat) hC26 (by omega)
            have hy26 : y227.length = (x13_1 : Int).toNat := (by rw [Ny227.out, List.length_take]; omega)
            rw [← Ny227.out] at hr26
            rw [← hy26] at hcut26
            have HR230 := z0g hr26
            have HC230 := z0g (show y227.length ≤ c0 from by omega)
            clear hr26 hC26 hroom26 hi026 hsz26
            have KY26 := z0g hy26
            clear hy26
            replace q26 := eq_true q26
            go_wp2
            go_loopg [48] kj6 (fun kq v48 w' => ∃ (x48_3 : Int), v48 = .int .i64 x48_3 ∧ Aside0 (spec_IsKernel.l1 kq l0 l0 (l0.length : Int) x13_1 y227 (y227.length : Int) x48_3 ((rd_T60 l0 x13_1).f0) ((rd_T60 l0 x13_1).f1) ((rd_T60 l0 x13_1).f2) = some r) ∧ Aside0 (kq ≤ kj6) ∧ Aside0 (w'.heap[gb222]? = some (.cells #[.int .i64 ((rd_T60 l0 x13_1).f0), .int .i64 ((rd_T60 l0 x13_1).f1), .int .i64 ((rd_T60 l0 x13_1).f2)] 60 (0, 0))) ∧ Aside0 (Below w.heap.size w w'))
            case atStart => exact ⟨(0), (by first | rfl | (simp; done) | (simp [*]; done)), H', ⟨Nat.le_refl _⟩, ⟨by (with_reducible repeat (first | refine z1g ?_ _ | refine z3g ?_ | refine z2g ?_ _)); exact BK222.out⟩, ⟨by repeat (first | (with_reducible first | exact HB.out | apply z4g | apply z5g | apply z6g | refine z7g ?_ GE222.out) | exact HB.out)⟩⟩
            case round =>
             clear H'
             try clear c1
             try clear c2
             try clear p2
             try clear q2
             try clear hx2
             try clear c3
             try clear c4
             try clear c4b0
             try clear c5
             try clear c5b0
             try clear c6
             try clear c6b0
             try clear c11
             try clear c13
             try clear c14
             try clear c14b0
             try clear c14b1
             try clear c15
             try clear c15b0
             try clear p22
             try clear q22
             try clear hx22
             try clear c23
             try clear c24
             try clear c24b0
             try clear c24b1
             try clear c25
             try clear c25b0
             try clear c25b1
             try clear q26
             try clear hcz16_0
             try clear hcz16_1
             try clear hcz16_2
             try clear hcz18_0
             try clear hcz18_1
             try clear hcz18_2
             try clear hcz20_0
             try clear hcz20_1
             try clear hcz20_2
             try clear hcz21_0
             try clear hcz21_1
             try clear hcz21_2
             try clear hcz22_0
             try clear hcz22_1
             try clear hcz22_2
             try clear hcz9_0
             try clear hcz9_1
             try clear hcz9_2
             try clear hfz16_0
             try clear hfz16_1
             try clear hfz16_2
             try clear hfz18_0
             try clear hfz18_1
             try clear hfz18_2
             try clear hfz20_0
             try clear hfz20_1
             try clear hfz20_2
             try clear hfz21_0
             try clear hfz21_1
             try clear hfz21_2
             try clear hfz22_0
             try clear hfz22_1
             try clear hfz22_2
             try clear hfz9_0
             try clear hfz9_1
             try clear hfz9_2
             try clear hx221_0
             try clear hx221_1
             try clear hx221_2
             try clear p2
             try clear p22
             try clear p221
             try clear q2
             try clear q22
             try clear q221
             try clear q26
             obtain ⟨x48_3, rfl, HA, HK3, BK222, HB⟩ := hrel
             cases gk with
             | zero => exact absurd HA.out (by simp [spec_IsKernel.l1])
             | succ k3 =>
              have H := HA.out
              clear HA
              simp only [spec_IsKernel.l1] at H
              by_cases c27 : x48_3 < (y227.length : Int)
              ·rw [if_pos c27] at H
               have c27b0 : decide (x48_3 < (y227.length : Int)) = true := decide_eq_true c27
               clear c27
               by_cases c28 : 0 ≤ x48_3
               ·rw [if_pos c28] at H
                have c28b0 : decide (0 ≤ x48_3) = true := decide_eq_true c28
                clear c28
                by_cases c29 : x48_3 < (y227.length : Int)
                ·rw [if_pos c29] at H
                 have c29b0 : decide (x48_3 < (y227.length : Int)) = true := decide_eq_true c29
                 clear c29
                 by_cases c30 : ((rd_T60 l0 x13_1).f0) = ((rd_T60 y227 x48_3).f0)
                 ·rw [if_pos c30] at H
                  have c30b0 : (((rd_T60 l0 x13_1).f0) == ((rd_T60 y227 x48_3).f0)) = true := beq_iff_eq.mpr c30
                  have c30b1 : (((rd_T60 l0 x13_1).f0) != ((rd_T60 y227 x48_3).f0)) = false := bne_eq_false_iff_eq.mpr c30
                  clear c30
                  by_cases c31 : ((rd_T60 l0 x13_1).f1) = ((rd_T60 y227 x48_3).f1)
                  ·rw [if_pos c31] at H
                   have c31b0 : (((rd_T60 l0 x13_1).f1) == ((rd_T60 y227 x48_3).f1)) = true := beq_iff_eq.mpr c31
                   have c31b1 : (((rd_T60 l0 x13_1).f1) != ((rd_T60 y227 x48_3).f1)) = false := bne_eq_false_iff_eq.mpr c31
                   clear c31
                   obtain rfl := Option.some.inj H
                   have p231 : 0 ≤ (x48_3 : Int) := of_decide_eq_true (by first | (with_reducible assumption) | assumption)
                   have q231 : x48_3 < (y227.length : Int) := of_decide_eq_true (by first | (with_reducible assumption) | assumption)
                   obtain ⟨ad231, e231, hx231_0, hx231_1, hx231_2⟩ := at_T60 HR230.out x48_3 p231 q231
                   obtain rfl : ad221 = ad231 := (by injection e231)
                   replace hx231_0 := (HB.out.cell (World.block_lt_of_cell? w _ hx231_0)).trans hx231_0
                   replace hx231_1 := (HB.out.cell (World.block_lt_of_cell? w _ hx231_1)).trans hx231_1
                   replace hx231_2 := (HB.out.cell (World.block_lt_of_cell? w _ hx231_2)).trans hx231_2
                   replace p231 := eq_true p231
                   replace q231 := eq_true q231
                   go_wp2_with (first | ((with_reducible refine gate_dst (N := 6) rfl ?_); refine box_event ?hg (N := 6) ?hd (cs := #[.int .i64 0, .int .i64 0, .int .i64 0]) (t := 60) ?hr ?_; (case hd => rfl); (case hg => rfl); (case hr => first | (go_simp; done) | (go_simp; rfl)); intro gb232 hg w32 hbox hb; have n0_ := z0g (blk_below (g := gb222) (o := .cells #[.int .i64 ((rd_T60 l0 x13_1).f0), .int .i64 ((rd_T60 l0 x13_1).f1), .int .i64 ((rd_T60 l0 x13_1).f2)] 60 (0, 0)) (by (with_reducible repeat (first | refine z1g ?_ _ | refine z3g ?_ | refine z2g ?_ _)); exact BK222.out) hb); have n1_ := z0g (below_step (by repeat (first | (with_reducible first | exact HB.out | apply z4g | apply z5g | apply z6g | refine z7g ?_ GE222.out) | exact HB.out)) hb); have n2_ := z0g (hbox); have n3_ := z0g ((by rw [hg]; exact (below_size (by repeat (first | (with_reducible first | exact HB.out | apply z4g | apply z5g | apply z6g | refine z7g ?_ GE222.out) | exact HB.out))) : w.heap.size ≤ gb232)); have n4_ := z0g ((by rw [hg]; exact (below_size (by repeat (first | (with_reducible first | exact HB.out | apply z4g | apply z5g | apply z6g | refine z7g ?_ GE222.out) | exact HB.out))) : w.heap.size ≤ gb232)); have n5_ := z0g ((by rw [hg]; exact Nat.ne_of_lt (blk_lt (g := gb222) (o := .cells #[.int .i64 ((rd_T60 l0 x13_1).f0), .int .i64 ((rd_T60 l0 x13_1).f1), .int .i64 ((rd_T60 l0 x13_1).f2)] 60 (0, 0)) (by (with_reducible repeat (first | refine z1g ?_ _ | refine z3g ?_ | refine z2g ?_ _)); exact BK222.out)) : gb222 ≠ gb232)); have n6_ := z0g ((by rw [hg]; exact Nat.ne_of_gt (blk_lt (g := gb222) (o := .cells #[.int .i64 ((rd_T60 l0 x13_1).f0), .int .i64 ((rd_T60 l0 x13_1).f1), .int .i64 ((rd_T60 l0 x13_1).f2)] 60 (0, 0)) (by (with_reducible repeat (first | refine z1g ?_ _ | refine z3g ?_ | refine z2g ?_ _)); exact BK222.out)) : gb232 ≠ gb222)); clear BK222; clear HB; have BK222 := n0_; have HB := n1_; have BK232 := n2_; have GW232 := n3_; have GE232 := n4_; have NB222_232 := n5_; have NB232_222 := n6_; clear n0_ n1_ n2_ n3_ n4_ n5_ n6_; clear hb hbox hg; have hnb33 := NB232_222.out; have hnc33 := NB222_232.out; have hcz34_0 : w32.cell? ⟨gb232, 0, none⟩ = some (.int .i64 0) := (x3g BK232.out 0).trans rfl; have hcz34_1 : w32.cell? ⟨gb232, 1, none⟩ = some (.int .i64 0) := (x3g BK232.out 1).trans rfl; have hcz34_2 : w32.cell? ⟨gb232, 2, none⟩ = some (.int .i64 0) := (x3g BK232.out 2).trans rfl; have hfz34_0 := x2g BK232.out 0; have hfz34_1 := x2g BK232.out 1; have hfz34_2 := x2g BK232.out 2; have hcz35_0 : w32.cell? ⟨gb222, 0, none⟩ = some (.int .i64 ((rd_T60 l0 x13_1).f0)) := (x3g BK222.out 0).trans rfl; have hcz35_1 : w32.cell? ⟨gb222, 1, none⟩ = some (.int .i64 ((rd_T60 l0 x13_1).f1)) := (x3g BK222.out 1).trans rfl; have hcz35_2 : w32.cell? ⟨gb222, 2, none⟩ = some (.int .i64 ((rd_T60 l0 x13_1).f2)) := (x3g BK222.out 2).trans rfl; have hfz35_0 := x2g BK222.out 0; have hfz35_1 := x2g BK222.out 1; have hfz35_2 := x2g BK222.out 2))
                   go_ret
                   exact ⟨by first | rfl | (simp [errW_none, errW_some] <;> rfl) | (simp [*, errW_none, errW_some] <;> rfl), by repeat (first | (with_reducible first | exact HB.out | apply z4g | apply z5g | apply z6g | refine z7g ?_ GE222.out | refine z7g ?_ GE232.out) | exact HB.out)⟩
                  ·rw [if_neg c31] at H
                   have c31b0 : (((rd_T60 l0 x13_1).f1) == ((rd_T60 y227 x48_3).f1)) = false := beq_eq_false_iff_ne.mpr c31
                   have c31b1 : (((rd_T60 l0 x13_1).f1) != ((rd_T60 y227 x48_3).f1)) = true := bne_iff_ne.mpr c31
                   have H' := z0g H
                   clear H
                   have p231 : 0 ≤ (x48_3 : Int) := of_decide_eq_true (by first | (with_reducible assumption) | assumption)
                   have q231 : x48_3 < (y227.length : Int) := of_decide_eq_true (by first | (with_reducible assumption) | assumption)
                   obtain ⟨ad231, e231, hx231_0, hx231_1, hx231_2⟩ := at_T60 HR230.out x48_3 p231 q231
                   obtain rfl : ad221 = ad231 := (by injection e231)
                   replace hx231_0 := (HB.out.cell (World.block_lt_of_cell? w _ hx231_0)).trans hx231_0
                   replace hx231_1 := (HB.out.cell (World.block_lt_of_cell? w _ hx231_1)).trans hx231_1
                   replace hx231_2 := (HB.out.cell (World.block_lt_of_cell? w _ hx231_2)).trans hx231_2
                   replace p231 := eq_true p231
                   replace q231 := eq_true q231
                   go_wp2_with (first | ((with_reducible refine gate_dst (N := 6) rfl ?_); refine box_event ?hg (N := 6) ?hd (cs := #[.int .i64 0, .int .i64 0, .int .i64 0]) (t := 60) ?hr ?_; (case hd => rfl); (case hg => rfl); (case hr => first | (go_simp; done) | (go_simp; rfl)); intro gb232 hg w36 hbox hb; have n0_ := z0g (blk_below (g := gb222) (o := .cells #[.int .i64 ((rd_T60 l0 x13_1).f0), .int .i64 ((rd_T60 l0 x13_1).f1), .int .i64 ((rd_T60 l0 x13_1).f2)] 60 (0, 0)) (by (with_reducible repeat (first | refine z1g ?_ _ | refine z3g ?_ | refine z2g ?_ _)); exact BK222.out) hb); have n1_ := z0g (below_step (by repeat (first | (with_reducible first | exact HB.out | apply z4g | apply z5g | apply z6g | refine z7g ?_ GE222.out) | exact HB.out)) hb); have n2_ := z0g (hbox); have n3_ := z0g ((by rw [hg]; exact (below_size (by repeat (first | (with_reducible first | exact HB.out | apply z4g | apply z5g | apply z6g | refine z7g ?_ GE222.out) | exact HB.out))) : w.heap.size ≤ gb232)); have n4_ := z0g ((by rw [hg]; exact (below_size (by repeat (first | (with_reducible first | exact HB.out | apply z4g | apply z5g | apply z6g | refine z7g ?_ GE222.out) | exact HB.out))) : w.heap.size ≤ gb232)); have n5_ := z0g ((by rw [hg]; exact Nat.ne_of_lt (blk_lt (g := gb222) (o := .cells #[.int .i64 ((rd_T60 l0 x13_1).f0), .int .i64 ((rd_T60 l0 x13_1).f1), .int .i64 ((rd_T60 l0 x13_1).f2)] 60 (0, 0)) (by (with_reducible repeat (first | refine z1g ?_ _ | refine z3g ?_ | refine z2g ?_ _)); exact BK222.out)) : gb222 ≠ gb232)); have n6_ := z0g ((by rw [hg]; exact Nat.ne_of_gt (blk_lt (g := gb222) (o := .cells #[.int .i64 ((rd_T60 l0 x13_1).f0), .int .i64 ((rd_T60 l0 x13_1).f1), .int .i64 ((rd_T60 l0 x13_1).f2)] 60 (0, 0)) (by (with_reducible repeat (first | refine z1g ?_ _ | refine z3g ?_ | refine z2g ?_ _)); exact BK222.out)) : gb232 ≠ gb222)); clear BK222; clear HB; have BK222 := n0_; have HB := n1_; have BK232 := n2_; have GW232 := n3_; have GE232 := n4_; have NB222_232 := n5_; have NB232_222 := n6_; clear n0_ n1_ n2_ n3_ n4_ n5_ n6_; clear hb hbox hg; have hnb37 := NB232_222.out; have hnc37 := NB222_232.out; have hcz38_0 : w36.cell? ⟨gb232, 0, none⟩ = some (.int .i64 0) := (x3g BK232.out 0).trans rfl; have hcz38_1 : w36.cell? ⟨gb232, 1, none⟩ = some (.int .i64 0) := (x3g BK232.out 1).trans rfl; have hcz38_2 : w36.cell? ⟨gb232, 2, none⟩ = some (.int .i64 0) := (x3g BK232.out 2).trans rfl; have hfz38_0 := x2g BK232.out 0; have hfz38_1 := x2g BK232.out 1; have hfz38_2 := x2g BK232.out 2; have hcz39_0 : w36.cell? ⟨gb222, 0, none⟩ = some (.int .i64 ((rd_T60 l0 x13_1).f0)) := (x3g BK222.out 0).trans rfl; have hcz39_1 : w36.cell? ⟨gb222, 1, none⟩ = some (.int .i64 ((rd_T60 l0 x13_1).f1)) := (x3g BK222.out 1).trans rfl; have hcz39_2 : w36.cell? ⟨gb222, 2, none⟩ = some (.int .i64 ((rd_T60 l0 x13_1).f2)) := (x3g BK222.out 2).trans rfl; have hfz39_0 := x2g BK222.out 0; have hfz39_1 := x2g BK222.out 1; have hfz39_2 := x2g BK222.out 2))
                   go_roundg k3
                   case measure => have := HK1.out; have := HJ6.out; have := HK3.out; omega
                   case rel => exact ⟨(wrap64 (x48_3 + 1)), (by first | rfl | (simp; done) | (simp [*]; done)), H', ⟨by have := HK1.out; have := HJ6.out; have := HK3.out; omega⟩, ⟨by (with_reducible repeat (first | refine z1g ?_ _ | refine z3g ?_ | refine z2g ?_ _)); refine blk_far ?_ NB222_232.out _; (with_reducible repeat (first | refine z1g ?_ _ | refine z3g ?_ | refine z2g ?_ _)); refine blk_far ?_ NB222_232.out _; (with_reducible repeat (first | refine z1g ?_ _ | refine z3g ?_ | refine z2g ?_ _)); refine blk_far ?_ NB222_232.out _; (with_reducible repeat (first | refine z1g ?_ _ | refine z3g ?_ | refine z2g ?_ _)); exact BK222.out⟩, ⟨by repeat (first | (with_reducible first | exact HB.out | apply z4g | apply z5g | apply z6g | refine z7g ?_ GE222.out | refine z7g ?_ GE232.out) | exact HB.out)⟩⟩
                 ·rw [if_neg c30] at H
                  have c30b0 : (((rd_T60 l0 x13_1).f0) == ((rd_T60 y227 x48_3).f0)) = false := beq_eq_false_iff_ne.mpr c30
                  have c30b1 : (((rd_T60 l0 x13_1).f0) != ((rd_T60 y227 x48_3).f0)) = true := bne_iff_ne.mpr c30
                  have H' := z0g H
                  clear H
                  have p231 : 0 ≤ (x48_3 : Int) := of_decide_eq_true (by first | (with_reducible assumption) | assumption)
                  have q231 : x48_3 < (y227.length : Int) := of_decide_eq_true (by first | (with_reducible assumption) | assumption)
                  obtain ⟨ad231, e231, hx231_0, hx231_1, hx231_2⟩ := at_T60 HR230.out x48_3 p231 q231
                  obtain rfl : ad221 = ad231 := (by injection e231)
                  replace hx231_0 := (HB.out.cell (World.block_lt_of_cell? w _ hx231_0)).trans hx231_0
                  replace hx231_1 := (HB.out.cell (World.block_lt_of_cell? w _ hx231_1)).trans hx231_1
                  replace hx231_2 := (HB.out.cell (World.block_lt_of_cell? w _ hx231_2)).trans hx231_2
                  replace p231 := eq_true p231
                  replace q231 := eq_true q231
                  go_wp2_with (first | ((with_reducible refine gate_dst (N := 6) rfl ?_); refine box_event ?hg (N := 6) ?hd (cs := #[.int .i64 0, .int .i64 0, .int .i64 0]) (t := 60) ?hr ?_; (case hd => rfl); (case hg => rfl); (case hr => first | (go_simp; done) | (go_simp; rfl)); intro gb232 hg w40 hbox hb; have n0_ := z0g (blk_below (g := gb222) (o := .cells #[.int .i64 ((rd_T60 l0 x13_1).f0), .int .i64 ((rd_T60 l0 x13_1).f1), .int .i64 ((rd_T60 l0 x13_1).f2)] 60 (0, 0)) (by (with_reducible repeat (first | refine z1g ?_ _ | refine z3g ?_ | refine z2g ?_ _)); exact BK222.out) hb); have n1_ := z0g (below_step (by repeat (first | (with_reducible first | exact HB.out | apply z4g | apply z5g | apply z6g | refine z7g ?_ GE222.out) | exact HB.out)) hb); have n2_ := z0g (hbox); have n3_ := z0g ((by rw [hg]; exact (below_size (by repeat (first | (with_reducible first | exact HB.out | apply z4g | apply z5g | apply z6g | refine z7g ?_ GE222.out) | exact HB.out))) : w.heap.size ≤ gb232)); have n4_ := z0g ((by rw [hg]; exact (below_size (by repeat (first | (with_reducible first | exact HB.out | apply z4g | apply z5g | apply z6g | refine z7g ?_ GE222.out) | exact HB.out))) : w.heap.size ≤ gb232)); have n5_ := z0g ((by rw [hg]; exact Nat.ne_of_lt (blk_lt (g := gb222) (o := .cells #[.int .i64 ((rd_T60 l0 x13_1).f0), .int .i64 ((rd_T60 l0 x13_1).f1), .int .i64 ((rd_T60 l0 x13_1).f2)] 60 (0, 0)) (by (with_reducible repeat (first | refine z1g ?_ _ | refine z3g ?_ | refine z2g ?_ _)); exact BK222.out)) : gb222 ≠ gb232)); have n6_ := z0g ((by rw [hg]; exact Nat.ne_of_gt (blk_lt (g := gb222) (o := .cells #[.int .i64 ((rd_T60 l0 x13_1).f0), .int .i64 ((rd_T60 l0 x13_1).f1), .int .i64 ((rd_T60 l0 x13_1).f2)] 60 (0, 0)) (by (with_reducible repeat (first | refine z1g ?_ _ | refine z3g ?_ | refine z2g ?_ _)); exact BK222.out)) : gb232 ≠ gb222)); clear BK222; clear HB; have BK222 := n0_; have HB := n1_; have BK232 := n2_; have GW232 := n3_; have GE232 := n4_; have NB222_232 := n5_; have NB232_222 := n6_; clear n0_ n1_ n2_ n3_ n4_ n5_ n6_; clear hb hbox hg; have hnb41 := NB232_222.out; have hnc41 := NB222_232.out; have hcz42_0 : w40.cell? ⟨gb232, 0, none⟩ = some (.int .i64 0) := (x3g BK232.out 0).trans rfl; have hcz42_1 : w40.cell? ⟨gb232, 1, none⟩ = some (.int .i64 0) := (x3g BK232.out 1).trans rfl; have hcz42_2 : w40.cell? ⟨gb232, 2, none⟩ = some (.int .i64 0) := (x3g BK232.out 2).trans rfl; have hfz42_0 := x2g BK232.out 0; have hfz42_1 := x2g BK232.out 1; have hfz42_2 := x2g BK232.out 2; have hcz43_0 : w40.cell? ⟨gb222, 0, none⟩ = some (.int .i64 ((rd_T60 l0 x13_1).f0)) := (x3g BK222.out 0).trans rfl; have hcz43_1 : w40.cell? ⟨gb222, 1, none⟩ = some (.int .i64 ((rd_T60 l0 x13_1).f1)) := (x3g BK222.out 1).trans rfl; have hcz43_2 : w40.cell? ⟨gb222, 2, none⟩ = some (.int .i64 ((rd_T60 l0 x13_1).f2)) := (x3g BK222.out 2).trans rfl; have hfz43_0 := x2g BK222.out 0; have hfz43_1 := x2g BK222.out 1; have hfz43_2 := x2g BK222.out 2))
                  go_roundg k3
                  case measure => have := HK1.out; have := HJ6.out; have := HK3.out; omega
                  case rel => exact ⟨(wrap64 (x48_3 + 1)), (by first | rfl | (simp; done) | (simp [*]; done)), H', ⟨by have := HK1.out; have := HJ6.out; have := HK3.out; omega⟩, ⟨by (with_reducible repeat (first | refine z1g ?_ _ | refine z3g ?_ | refine z2g ?_ _)); refine blk_far ?_ NB222_232.out _; (with_reducible repeat (first | refine z1g ?_ _ | refine z3g ?_ | refine z2g ?_ _)); refine blk_far ?_ NB222_232.out _; (with_reducible repeat (first | refine z1g ?_ _ | refine z3g ?_ | refine z2g ?_ _)); refine blk_far ?_ NB222_232.out _; (with_reducible repeat (first | refine z1g ?_ _ | refine z3g ?_ | refine z2g ?_ _)); exact BK222.out⟩, ⟨by repeat (first | (with_reducible first | exact HB.out | apply z4g | apply z5g | apply z6g | refine z7g ?_ GE222.out | refine z7g ?_ GE232.out) | exact HB.out)⟩⟩
                ·rw [if_neg c29] at H
                 exact absurd H (by simp)
               ·rw [if_neg c28] at H
                exact absurd H (by simp)
              ·rw [if_neg c27] at H
               have c27b0 : decide (x48_3 < (y227.length : Int)) = false := decide_eq_false c27
               clear c27
               have H' := z0g H
               clear H
               go_wp2
               go_roundg k3
               case measure => have := HK1.out; have := HJ6.out; have := HK3.out; omega
               case rel => exact ⟨(wrap64 (x13_1 + 1)), (by first | rfl | (simp; done) | (simp [*]; done)), H', ⟨by have := HK1.out; have := HJ6.out; have := HK3.out; omega⟩, ⟨by repeat (first | (with_reducible first | exact HB.out | apply z4g | apply z5g | apply z6g | refine z7g ?_ GE222.out) | exact HB.out)⟩⟩
           ·rw [if_neg c25] at H
            exact absurd H (by simp)
          ·rw [if_neg c24] at H
           exact absurd H (by simp)
      ·rw [if_neg c6] at H
       exact absurd H (by simp)
     ·rw [if_neg c5] at H
      exact absurd H (by simp)
    ·rw [if_neg c4] at H
     have c4b0 : decide (x13_1 < (l0.length : Int)) = false := decide_eq_false c4
     clear c4
     obtain rfl := Option.some.inj H
     go_wp2
     go_ret
     exact ⟨by first | rfl | (simp [errW_none, errW_some] <;> rfl) | (simp [*, errW_none, errW_some] <;> rfl), by repeat (first | (with_reducible first | exact HB.out | apply z4g | apply z5g | apply z6g) | exact HB.out)⟩
 ·replace c3 := Bool.eq_false_iff.mpr c3
  subst c3
  have H1 : (some false) = some r := by rw [if_neg (show ¬ (false = true) by decide)] at H; first | exact H | (simp only [if_true] at H ⊢; exact H)
  clear H
  have H := H1
  clear H1
  obtain rfl := Option.some.inj H
  go_enter Try.func39, Try.ntmps39
  go_wp2_with (first | ((with_reducible refine gate_callee (f := 53) rfl ?_); refine goesL_ (some 9) rfl rfl Try.func53 (by kernel_rfl) rfl #[.int .i64 (l0.length : Int), .int .i64 1, .int .i64 12] rfl (by (try simp only [List.map_toArray, List.map_cons, List.map_nil]); first | done | rfl | (simp only [List.length_drop, List.length_take]; rfl)) ?_; (with_reducible refine (spec_l1In.calls (l0.length : Int) 1 12 false _ A2.out).mono ?_); rintro e w' ⟨rfl, ⟨nd, rfl⟩⟩; refine ⟨_, rfl, ?_⟩))
  go_ret
  exact ⟨by first | rfl | (simp [errW_none, errW_some] <;> rfl) | (simp [*, errW_none, errW_some] <;> rfl), by repeat (first | (with_reducible first | exact HB.out | apply z4g | apply z5g | apply z6g) | exact HB.out)⟩

/-! ### spec_l1Size: function 52 -/
def spec_l1Size.f (a0 : Int) (a1 : Int) : Option (Bool) := (spec_l1In.f a0 1 64).bind fun t233 => (if t233 = true then ((spec_l1In.f a1 1 64).bind fun t234 => (if t234 = true then (some (decide ((wrap64 (a0 * a1)) ≤ 1024))) else (some false))) else (some false))
set_option maxHeartbeats 8000000 in
set_option maxRecDepth 100000 in
theorem spec_l1Size.calls (a0 : Int) (a1 : Int) (r : Bool) (w : World) (h : spec_l1Size.f a0 a1 = some r) :
  Calls Try.prog 52 #[.int .i64 a0, .int .i64 a1] w fun e w' => e = .returned (.bool r) ∧ Drawn0 w w' := by
 have H : ((spec_l1In.f a0 1 64).bind fun t233 => (if t233 = true then ((spec_l1In.f a1 1 64).bind fun t234 => (if t234 = true then (some (decide ((wrap64 (a0 * a1)) ≤ 1024))) else (some false))) else (some false))) = some r := h
 clear h
 replace H := Option.bind_eq_some_iff.mp H
 obtain ⟨t233, A30, H⟩ := H
 replace H : (if t233 = true then ((spec_l1In.f a1 1 64).bind fun t234 => (if t234 = true then (some (decide ((wrap64 (a0 * a1)) ≤ 1024))) else (some false))) else (some false)) = some r := H
 have A3 := z0g A30
 clear A30
 by_cases c4 : t233 = true
 ·subst c4
  have H1 : ((spec_l1In.f a1 1 64).bind fun t234 => (if t234 = true then (some (decide ((wrap64 (a0 * a1)) ≤ 1024))) else (some false))) = some r := by rw [if_pos rfl] at H; first | exact H | (simp only [if_true] at H ⊢; exact H)
  clear H
  have H := H1
  clear H1
  replace H := Option.bind_eq_some_iff.mp H
  obtain ⟨t234, A50, H⟩ := H
  replace H : (if t234 = true then (some (decide ((wrap64 (a0 * a1)) ≤ 1024))) else (some false)) = some r := H
  have A5 := z0g A50
  clear A50
  by_cases c6 : t234 = true
  ·subst c6
   have H1 : (some (decide ((wrap64 (a0 * a1)) ≤ 1024))) = some r := by rw [if_pos rfl] at H; first | exact H | (simp only [if_true] at H ⊢; exact H)
   clear H
   have H := H1
   clear H1
   obtain rfl := Option.some.inj H
   go_enter Try.func52, Try.ntmps52
   go_wp2_with (first | ((with_reducible refine gate_callee (f := 53) rfl ?_); refine goesL_ (some 6) rfl rfl Try.func53 (by kernel_rfl) rfl #[.int .i64 a0, .int .i64 1, .int .i64 64] rfl (by (try simp only [List.map_toArray, List.map_cons, List.map_nil]); first | done | rfl | (simp only [List.length_drop, List.length_take]; rfl)) ?_; (with_reducible refine (spec_l1In.calls a0 1 64 true _ A3.out).mono ?_); rintro e w' ⟨rfl, ⟨nd, rfl⟩⟩; refine ⟨_, rfl, ?_⟩) | (go_at_call 53; (with_reducible refine (spec_l1In.calls a1 1 64 true _ A5.out).mono ?_); rintro e w' ⟨rfl, ⟨nd, rfl⟩⟩))
   go_ret
   exact ⟨by first | rfl | (simp; done) | (simp [*]; done), by repeat (first | exact Drawn0.refl _ | apply Drawn0.step)⟩
  ·replace c6 := Bool.eq_false_iff.mpr c6
   subst c6
   have H1 : (some false) = some r := by rw [if_neg (show ¬ (false = true) by decide)] at H; first | exact H | (simp only [if_true] at H ⊢; exact H)
   clear H
   have H := H1
   clear H1
   obtain rfl := Option.some.inj H
   go_enter Try.func52, Try.ntmps52
   go_wp2_with (first | ((with_reducible refine gate_callee (f := 53) rfl ?_); refine goesL_ (some 6) rfl rfl Try.func53 (by kernel_rfl) rfl #[.int .i64 a0, .int .i64 1, .int .i64 64] rfl (by (try simp only [List.map_toArray, List.map_cons, List.map_nil]); first | done | rfl | (simp only [List.length_drop, List.length_take]; rfl)) ?_; (with_reducible refine (spec_l1In.calls a0 1 64 true _ A3.out).mono ?_); rintro e w' ⟨rfl, ⟨nd, rfl⟩⟩; refine ⟨_, rfl, ?_⟩) | (go_at_call 53; (with_reducible refine (spec_l1In.calls a1 1 64 false _ A5.out).mono ?_); rintro e w' ⟨rfl, ⟨nd, rfl⟩⟩))
   go_ret
   exact ⟨by first | rfl | (simp; done) | (simp [*]; done), by repeat (first | exact Drawn0.refl _ | apply Drawn0.step)⟩
 ·replace c4 := Bool.eq_false_iff.mpr c4
  subst c4
  have H1 : (some false) = some r := by rw [if_neg (show ¬ (false = true) by decide)] at H; first | exact H | (simp only [if_true] at H ⊢; exact H)
  clear H
  have H := H1
  clear H1
  obtain rfl := Option.some.inj H
  go_enter Try.func52, Try.ntmps52
  go_wp2_with (first | ((with_reducible refine gate_callee (f := 53) rfl ?_); refine goesL_ (some 6) rfl rfl Try.func53 (by kernel_rfl) rfl #[.int .i64 a0, .int .i64 1, .int .i64 64] rfl (by (try simp only [List.map_toArray, List.map_cons, List.map_nil]); first | done | rfl | (simp only [List.length_drop, List.length_take]; rfl)) ?_; (with_reducible refine (spec_l1In.calls a0 1 64 false _ A3.out).mono ?_); rintro e w' ⟨rfl, ⟨nd, rfl⟩⟩; refine ⟨_, rfl, ?_⟩))
  go_ret
  exact ⟨by first | rfl | (simp; done) | (simp [*]; done), by repeat (first | exact Drawn0.refl _ | apply Drawn0.step)⟩

end Go.Proofs.Ytnohdgbfgdnpfaa.PFnExactDiffusePicture
