/- Machine side of laws FnSpotMatrix: written for this claim by the kit's print program under this session's wip/tools/mp_setup.py (with contracts of the session's own, wip/ext). -/
import Derived.Test.YtkkcedkiohefmaaPFnSpotMatrixx0
import Derived.Test.YtkkcedkiohefmaaPFnSpotMatrixx5
import Derived.Test.YtkkcedkiohefmaaPFnSpotMatrixx7
namespace Go.Proofs.Ytkkcedkiohefmaa.PFnSpotMatrix
open Go.RowKit Go.Proofs.YtkkcedkiohefmaaW.PrintWords Go.Proofs.YtkkcedkiohefmaaW.PrintLast Go.Proofs.YtkkcedkiohefmaaW.PrintMore
attribute [local go_sem] max2_int min2_int max_two min_two max_three min_three max_four min_four   -- for this text's walks alone
set_option linter.unusedVariables false
set_option linter.unusedSimpArgs false
-- squeezed: words under short names
set_option linter.defProp false in
def z0m := @Aside0.mk
set_option linter.defProp false in
def z1m := @blk_drewN
set_option linter.defProp false in
def z2m := @blk_alloc
set_option linter.defProp false in
def z3m := @blk_drew
set_option linter.defProp false in
def z4m := @below_alloc
set_option linter.defProp false in
def z5m := @pw_below_drewN
set_option linter.defProp false in
def z6m := @below_drew1
set_option linter.defProp false in
def z7m := @below_set
set_option linter.defProp false in
def y2m := @Kd.C_alloc
set_option linter.defProp false in
def y3m := @Kd.C_drewN
set_option linter.defProp false in
def y4m := @Kd.C_drew
set_option linter.defProp false in
def y5m := @blk_below
set_option linter.defProp false in
def y6m := @below_step
set_option linter.defProp false in
def y7m := @below_size
set_option linter.defProp false in
def y9m := @Kd.C_below
set_option linter.defProp false in
def x2m := @blk_frozen
set_option linter.defProp false in
def x3m := @blk_cell
def bsm_ (n m : Nat) : Array Bool := ((List.range n).map fun i => m.testBit i).toArray
theorem s1m_ {α : Type} (l : List α) (i : Nat) (a : α) : l.toArray.setIfInBounds i a = (l.set i a).toArray := List.setIfInBounds_toArray l i a
theorem s2m_ {α : Type} (a b : α) (l : List α) : (a :: l).set 0 b = b :: l := rfl
theorem s3m_ {α : Type} (a b : α) (n : Nat) (l : List α) : (a :: l).set (n + 1) b = a :: l.set n b := rfl

def impl_IsMatrix.f (a0_0 a0_1 : Int) (l0_2 : List Int) : Option Bool := if l0_2.length ≤ 140737488355328 then some (Ext.mtxB a0_0 a0_1 l0_2) else none
theorem impl_IsMatrix.calls (a0_0 a0_1 : Int) (A0_2 : Option Addr) (c0_2 : Nat) (l0_2 : List Int) (r : Bool) (w : World) (hr0_2 : Kd.C (Kd.int .i64) w A0_2 l0_2.length l0_2) (hc0_2 : l0_2.length ≤ c0_2) (h : impl_IsMatrix.f a0_0 a0_1 l0_2 = some r) :
  Calls Try.prog 16 #[.agg #[.int .i64 a0_0, .int .i64 a0_1, .slice A0_2 l0_2.length c0_2]] w fun e w' => e = .returned (.bool r) ∧ Below w.heap.size w w' := by
 unfold impl_IsMatrix.f at h
 split at h
 ·rename_i hl
  obtain rfl := Option.some.inj h
  exact Ext.IsMatrix a0_0 a0_1 A0_2 c0_2 l0_2 w hr0_2 hl
 ·exact absurd h (by simp)

def laws_ints.l0 : Nat → List Int → List Int → Int → Int → Option (Bool)
 | 0, _, _, _, _ => none
 | k + 1, x0, x1, x12, x13 => if x13 < x12 then (if 0 ≤ x13 then (if x13 < (x0.length : Int) then (if x13 < (x1.length : Int) then (if (rd x0 x13) = (rd x1 x13) then (laws_ints.l0 k x0 x1 x12 (wrap64 (x13 + 1))) else (some false)) else (none)) else (none)) else (none)) else (some true)
def laws_ints.f (k : Nat) (l0 : List Int) (l1 : List Int) : Option (Bool) := if (l0.length : Int) = (l1.length : Int) then (laws_ints.l0 k l0 l1 (l0.length : Int) 0) else (some false)
set_option maxHeartbeats 8000000 in
set_option maxRecDepth 100000 in
theorem laws_ints.calls (k : Nat) (A0 : Option Addr) (c0 : Nat) (l0 : List Int) (A1 : Option Addr) (c1 : Nat) (l1 : List Int) (r : Bool) (w : World) (hr0 : Kd.C (Kd.int .i64) w A0 l0.length l0) (hc0 : l0.length ≤ c0) (hr1 : Kd.C (Kd.int .i64) w A1 l1.length l1) (hc1 : l1.length ≤ c1) (h : laws_ints.f k l0 l1 = some r) :
  Calls Try.prog 51 #[.slice A0 l0.length c0, .slice A1 l1.length c1] w fun e w' => e = .returned (.bool r) ∧ Drawn0 w w' := by
 have HR0 := z0m hr0
 have HC0 := z0m hc0
 clear hr0 hc0
 have HR1 := z0m hr1
 have HC1 := z0m hc1
 clear hr1 hc1
 have H : (if (l0.length : Int) = (l1.length : Int) then (laws_ints.l0 k l0 l1 (l0.length : Int) 0) else (some false)) = some r := h
 clear h
 by_cases c3 : (l0.length : Int) = (l1.length : Int)
 ·rw [if_pos c3] at H
  have c3b0 : ((l0.length : Int) == (l1.length : Int)) = true := beq_iff_eq.mpr c3
  have c3b1 : ((l0.length : Int) != (l1.length : Int)) = false := bne_eq_false_iff_eq.mpr c3
  have c3b2 : (l0.length == l1.length) = true := by first | simpa using c3 | (simp at c3 ⊢; omega)
  clear c3
  have H' := z0m H
  clear H
  go_enter Try.func51, Try.ntmps51
  go_wp2
  repeat (go_quiet (fail); try go_wp2)
  go_loopg [13] k (fun kq v13 w' => ∃ (x13_1 : Int), v13 = .int .i64 x13_1 ∧ Aside0 (laws_ints.l0 kq l0 l1 (l0.length : Int) x13_1 = some r) ∧ Aside0 (kq ≤ k) ∧ Drawn0 w w')
  case atStart => exact ⟨(0), (by first | rfl | (simp; done) | (simp [*]; done)), H', ⟨Nat.le_refl _⟩, by repeat (first | exact Drawn0.refl _ | apply Drawn0.step)⟩
  case round =>
   clear H'
   try clear c1
   try clear p2
   try clear c3
   try clear c3b0
   try clear c3b1
   try clear c3b2
   obtain ⟨x13_1, rfl, HA, HK1, ⟨m1, rfl⟩⟩ := hrel
   cases gk with
   | zero => exact absurd HA.out (by simp [laws_ints.l0])
   | succ k1 =>
    have H := HA.out
    clear HA
    simp only [laws_ints.l0] at H
    by_cases c4 : x13_1 < (l0.length : Int)
    ·rw [if_pos c4] at H
     have c4b0 : decide (x13_1 < (l0.length : Int)) = true := decide_eq_true c4
     clear c4
     by_cases c5 : 0 ≤ x13_1
     ·rw [if_pos c5] at H
      have c5b0 : decide (0 ≤ x13_1) = true := decide_eq_true c5
      clear c5
      by_cases c6 : x13_1 < (l0.length : Int)
      ·rw [if_pos c6] at H
       have c6b0 : decide (x13_1 < (l0.length : Int)) = true := decide_eq_true c6
       clear c6
       by_cases c7 : x13_1 < (l1.length : Int)
       ·rw [if_pos c7] at H
        have c7b0 : decide (x13_1 < (l1.length : Int)) = true := decide_eq_true c7
        clear c7
        by_cases c8 : (rd l0 x13_1) = (rd l1 x13_1)
        ·rw [if_pos c8] at H
         have c8b0 : ((rd l0 x13_1) == (rd l1 x13_1)) = true := beq_iff_eq.mpr c8
         have c8b1 : ((rd l0 x13_1) != (rd l1 x13_1)) = false := bne_eq_false_iff_eq.mpr c8
         clear c8
         have H' := z0m H
         clear H
         have p299 : 0 ≤ (x13_1 : Int) := of_decide_eq_true (by first | (with_reducible assumption) | assumption)
         have q299 : x13_1 < (l0.length : Int) := of_decide_eq_true (by first | (with_reducible assumption) | assumption)
         obtain ⟨ad299, e299, hx299_0⟩ := Kd.at_int HR0.out x13_1 p299 q299
         cases e299
         replace p299 := eq_true p299
         replace q299 := eq_true q299
         have p300 : 0 ≤ (x13_1 : Int) := of_decide_eq_true (by first | (with_reducible assumption) | assumption)
         have q300 : x13_1 < (l1.length : Int) := of_decide_eq_true (by first | (with_reducible assumption) | assumption)
         obtain ⟨ad300, e300, hx300_0⟩ := Kd.at_int HR1.out x13_1 p300 q300
         cases e300
         replace p300 := eq_true p300
         replace q300 := eq_true q300
         go_wp2
         repeat (go_quiet (fail); try go_wp2)
         go_roundg k1
         case measure => have := HK1.out; omega
         case rel => exact ⟨(wrap64 (x13_1 + 1)), (by first | rfl | (simp; done) | (simp [*]; done)), H', ⟨by have := HK1.out; omega⟩, by repeat (first | exact Drawn0.refl _ | apply Drawn0.step)⟩
        ·rw [if_neg c8] at H
         have c8b0 : ((rd l0 x13_1) == (rd l1 x13_1)) = false := beq_eq_false_iff_ne.mpr c8
         have c8b1 : ((rd l0 x13_1) != (rd l1 x13_1)) = true := bne_iff_ne.mpr c8
         obtain rfl := Option.some.inj H
         have p299 : 0 ≤ (x13_1 : Int) := of_decide_eq_true (by first | (with_reducible assumption) | assumption)
         have q299 : x13_1 < (l0.length : Int) := of_decide_eq_true (by first | (with_reducible assumption) | assumption)
         obtain ⟨ad299, e299, hx299_0⟩ := Kd.at_int HR0.out x13_1 p299 q299
         cases e299
         replace p299 := eq_true p299
         replace q299 := eq_true q299
         have p300 : 0 ≤ (x13_1 : Int) := of_decide_eq_true (by first | (with_reducible assumption) | assumption)
         have q300 : x13_1 < (l1.length : Int) := of_decide_eq_true (by first | (with_reducible assumption) | assumption)
         obtain ⟨ad300, e300, hx300_0⟩ := Kd.at_int HR1.out x13_1 p300 q300
         cases e300
         replace p300 := eq_true p300
         replace q300 := eq_true q300
         go_wp2
         repeat (go_quiet (fail); try go_wp2)
         go_ret
         exact ⟨by first | rfl | (simp; done) | (simp [*]; done), by repeat (first | exact Drawn0.refl _ | apply Drawn0.step)⟩
       ·rw [if_neg c7] at H
        exact absurd H (by simp)
      ·rw [if_neg c6] at H
       exact absurd H (by simp)
     ·rw [if_neg c5] at H
      exact absurd H (by simp)
    ·rw [if_neg c4] at H
     have c4b0 : decide (x13_1 < (l0.length : Int)) = false := decide_eq_false c4
     clear c4
     obtain rfl := Option.some.inj H
     go_wp2
     repeat (go_quiet (fail); try go_wp2)
     go_ret
     exact ⟨by first | rfl | (simp; done) | (simp [*]; done), by repeat (first | exact Drawn0.refl _ | apply Drawn0.step)⟩
 ·rw [if_neg c3] at H
  have c3b0 : ((l0.length : Int) == (l1.length : Int)) = false := beq_eq_false_iff_ne.mpr c3
  have c3b1 : ((l0.length : Int) != (l1.length : Int)) = true := bne_iff_ne.mpr c3
  have c3b2 : (l0.length == l1.length) = false := by first | simpa using c3 | (simp at c3 ⊢; omega)
  obtain rfl := Option.some.inj H
  go_enter Try.func51, Try.ntmps51
  go_wp2
  repeat (go_quiet (fail); try go_wp2)
  go_ret
  exact ⟨by first | rfl | (simp; done) | (simp [*]; done), by repeat (first | exact Drawn0.refl _ | apply Drawn0.step)⟩

def laws_same.f (k : Nat) (a0_0 : Int) (a0_1 : Int) (l0_2 : List Int) (a1_0 : Int) (a1_1 : Int) (l1_2 : List Int) : Option (Bool) := if a0_0 = a1_0 then (if a0_1 = a1_1 then ((laws_ints.f k l0_2 l1_2).bind fun t303 => (some t303)) else (some false)) else (some false)
set_option maxHeartbeats 8000000 in
set_option maxRecDepth 100000 in
theorem laws_same.calls (k : Nat) (a0_0 : Int) (a0_1 : Int) (A0_2 : Option Addr) (c0_2 : Nat) (l0_2 : List Int) (a1_0 : Int) (a1_1 : Int) (A1_2 : Option Addr) (c1_2 : Nat) (l1_2 : List Int) (r : Bool) (w : World) (hr0_2 : Kd.C (Kd.int .i64) w A0_2 l0_2.length l0_2) (hc0_2 : l0_2.length ≤ c0_2) (hr1_2 : Kd.C (Kd.int .i64) w A1_2 l1_2.length l1_2) (hc1_2 : l1_2.length ≤ c1_2) (h : laws_same.f k a0_0 a0_1 l0_2 a1_0 a1_1 l1_2 = some r) :
  Calls Try.prog 17 #[.agg #[.int .i64 a0_0, .int .i64 a0_1, .slice A0_2 l0_2.length c0_2], .agg #[.int .i64 a1_0, .int .i64 a1_1, .slice A1_2 l1_2.length c1_2]] w fun e w' => e = .returned (.bool r) ∧ Below w.heap.size w w' := by
 have hu30 := Try.underlying30
 have HR0_2 := z0m hr0_2
 have HC0_2 := z0m hc0_2
 clear hr0_2 hc0_2
 have HR1_2 := z0m hr1_2
 have HC1_2 := z0m hc1_2
 clear hr1_2 hc1_2
 have HB := z0m (Below.refl w.heap.size w)
 have H : (if a0_0 = a1_0 then (if a0_1 = a1_1 then ((laws_ints.f k l0_2 l1_2).bind fun t303 => (some t303)) else (some false)) else (some false)) = some r := h
 clear h
 by_cases c3 : a0_0 = a1_0
 ·rw [if_pos c3] at H
  have c3b0 : (a0_0 == a1_0) = true := beq_iff_eq.mpr c3
  have c3b1 : (a0_0 != a1_0) = false := bne_eq_false_iff_eq.mpr c3
  clear c3
  by_cases c4 : a0_1 = a1_1
  ·rw [if_pos c4] at H
   have c4b0 : (a0_1 == a1_1) = true := beq_iff_eq.mpr c4
   have c4b1 : (a0_1 != a1_1) = false := bne_eq_false_iff_eq.mpr c4
   clear c4
   replace H := Option.bind_eq_some_iff.mp H
   obtain ⟨t303, A50, H⟩ := H
   replace H : (some t303) = some r := H
   have A5 := z0m A50
   clear A50
   obtain rfl := Option.some.inj H
   go_enter Try.func17, Try.ntmps17
   go_wp2_with (first | ((with_reducible refine gate_dst (N := 2) rfl ?_); refine box_event ?hg (N := 2) ?hd (cs := #[.int .i64 a0_0, .int .i64 a0_1, .slice A0_2 l0_2.length c0_2]) (t := 30) ?hr ?_; (case hd => rfl); (case hg => rfl); (case hr => first | (go_simp; done) | (go_simp; rfl)); intro gb301 hg w6 hbox hb; have n0_ := z0m (y6m (by repeat (first | (with_reducible first | exact HB.out | apply z4m | apply z5m | apply z6m) | exact HB.out)) hb); have n1_ := z0m (hbox); have n2_ := z0m ((by rw [hg]; exact (y7m (by repeat (first | (with_reducible first | exact HB.out | apply z4m | apply z5m | apply z6m) | exact HB.out))) : w.heap.size ≤ gb301)); have n3_ := z0m ((by rw [hg]; exact (y7m (by repeat (first | (with_reducible first | exact HB.out | apply z4m | apply z5m | apply z6m) | exact HB.out))) : w.heap.size ≤ gb301)); clear HB; have HB := n0_; have BK301 := n1_; have GW301 := n2_; have GE301 := n3_; clear n0_ n1_ n2_ n3_; clear hb hbox hg) | ((with_reducible refine gate_dst (N := 3) rfl ?_); refine box_event ?hg (N := 3) ?hd (cs := #[.int .i64 a1_0, .int .i64 a1_1, .slice A1_2 l1_2.length c1_2]) (t := 30) ?hr ?_; (case hd => rfl); (case hg => rfl); (case hr => first | (go_simp; done) | (go_simp; rfl)); intro gb302 hg w7 hbox hb; have n0_ := z0m (y5m (g := gb301) (o := .cells #[.int .i64 a0_0, .int .i64 a0_1, .slice A0_2 l0_2.length c0_2] 30 (0, 0)) (by (with_reducible repeat (first | refine z1m ?_ _ | refine z3m ?_ | refine z2m ?_ _)); exact BK301.out) hb); have n1_ := z0m (y6m (by repeat (first | (with_reducible first | exact HB.out | apply z4m | apply z5m | apply z6m | refine z7m ?_ GE301.out) | exact HB.out)) hb); have n2_ := z0m (hbox); have n3_ := z0m ((by rw [hg]; exact (y7m (by repeat (first | (with_reducible first | exact HB.out | apply z4m | apply z5m | apply z6m | refine z7m ?_ GE301.out) | exact HB.out))) : w.heap.size ≤ gb302)); have n4_ := z0m ((by rw [hg]; exact (y7m (by repeat (first | (with_reducible first | exact HB.out | apply z4m | apply z5m | apply z6m | refine z7m ?_ GE301.out) | exact HB.out))) : w.heap.size ≤ gb302)); have n5_ := z0m ((by rw [hg]; exact Nat.ne_of_lt (blk_lt (g := gb301) (o := .cells #[.int .i64 a0_0, .int .i64 a0_1, .slice A0_2 l0_2.length c0_2] 30 (0, 0)) (by (with_reducible repeat (first | refine z1m ?_ _ | refine z3m ?_ | refine z2m ?_ _)); exact BK301.out)) : gb301 ≠ gb302)); have n6_ := z0m ((by rw [hg]; exact Nat.ne_of_gt (blk_lt (g := gb301) (o := .cells #[.int .i64 a0_0, .int .i64 a0_1, .slice A0_2 l0_2.length c0_2] 30 (0, 0)) (by (with_reducible repeat (first | refine z1m ?_ _ | refine z3m ?_ | refine z2m ?_ _)); exact BK301.out)) : gb302 ≠ gb301)); clear BK301; clear HB; have BK301 := n0_; have HB := n1_; have BK302 := n2_; have GW302 := n3_; have GE302 := n4_; have NB301_302 := n5_; have NB302_301 := n6_; clear n0_ n1_ n2_ n3_ n4_ n5_ n6_; clear hb hbox hg; have hnb8 := NB301_302.out; have hnc8 := NB302_301.out; have hcz9_0 : w7.cell? ⟨gb301, 0, none⟩ = some (.int .i64 a0_0) := (x3m BK301.out 0).trans rfl; have hcz9_1 : w7.cell? ⟨gb301, 1, none⟩ = some (.int .i64 a0_1) := (x3m BK301.out 1).trans rfl; have hcz9_2 : w7.cell? ⟨gb301, 2, none⟩ = some (.slice A0_2 l0_2.length c0_2) := (x3m BK301.out 2).trans rfl; have hfz9_0 := x2m BK301.out 0; have hfz9_1 := x2m BK301.out 1; have hfz9_2 := x2m BK301.out 2; have hcz10_0 : w7.cell? ⟨gb302, 0, none⟩ = some (.int .i64 a1_0) := (x3m BK302.out 0).trans rfl; have hcz10_1 : w7.cell? ⟨gb302, 1, none⟩ = some (.int .i64 a1_1) := (x3m BK302.out 1).trans rfl; have hcz10_2 : w7.cell? ⟨gb302, 2, none⟩ = some (.slice A1_2 l1_2.length c1_2) := (x3m BK302.out 2).trans rfl; have hfz10_0 := x2m BK302.out 0; have hfz10_1 := x2m BK302.out 1; have hfz10_2 := x2m BK302.out 2) | (go_at_call 51; (with_reducible refine (laws_ints.calls k _ _ l0_2 _ _ l1_2 t303 _ ?side1 ?side2 ?side3 ?side4 A5.out).mono ?_); (case side1 => repeat (first | exact HR0_2.out | exact (y9m HR0_2.out HB.out) | (with_reducible refine y2m ?_ _) | (with_reducible refine y3m ?_ _) | (with_reducible refine y4m ?_))); (case side2 => exact HC0_2.out); (case side3 => repeat (first | exact HR1_2.out | exact (y9m HR1_2.out HB.out) | (with_reducible refine y2m ?_ _) | (with_reducible refine y3m ?_ _) | (with_reducible refine y4m ?_))); (case side4 => exact HC1_2.out); rintro e w' ⟨rfl, ⟨nd, rfl⟩⟩))
   go_ret
   exact ⟨by first | rfl | (simp [errW_none, errW_some] <;> rfl) | (simp [*, errW_none, errW_some] <;> rfl), by repeat (first | (with_reducible first | exact HB.out | apply z4m | apply z5m | apply z6m | refine z7m ?_ GE301.out | refine z7m ?_ GE302.out) | exact HB.out)⟩
  ·rw [if_neg c4] at H
   have c4b0 : (a0_1 == a1_1) = false := beq_eq_false_iff_ne.mpr c4
   have c4b1 : (a0_1 != a1_1) = true := bne_iff_ne.mpr c4
   obtain rfl := Option.some.inj H
   go_enter Try.func17, Try.ntmps17
   go_wp2_with (first | ((with_reducible refine gate_dst (N := 2) rfl ?_); refine box_event ?hg (N := 2) ?hd (cs := #[.int .i64 a0_0, .int .i64 a0_1, .slice A0_2 l0_2.length c0_2]) (t := 30) ?hr ?_; (case hd => rfl); (case hg => rfl); (case hr => first | (go_simp; done) | (go_simp; rfl)); intro gb301 hg w11 hbox hb; have n0_ := z0m (y6m (by repeat (first | (with_reducible first | exact HB.out | apply z4m | apply z5m | apply z6m) | exact HB.out)) hb); have n1_ := z0m (hbox); have n2_ := z0m ((by rw [hg]; exact (y7m (by repeat (first | (with_reducible first | exact HB.out | apply z4m | apply z5m | apply z6m) | exact HB.out))) : w.heap.size ≤ gb301)); have n3_ := z0m ((by rw [hg]; exact (y7m (by repeat (first | (with_reducible first | exact HB.out | apply z4m | apply z5m | apply z6m) | exact HB.out))) : w.heap.size ≤ gb301)); clear HB; have HB := n0_; have BK301 := n1_; have GW301 := n2_; have GE301 := n3_; clear n0_ n1_ n2_ n3_; clear hb hbox hg) | ((with_reducible refine gate_dst (N := 3) rfl ?_); refine box_event ?hg (N := 3) ?hd (cs := #[.int .i64 a1_0, .int .i64 a1_1, .slice A1_2 l1_2.length c1_2]) (t := 30) ?hr ?_; (case hd => rfl); (case hg => rfl); (case hr => first | (go_simp; done) | (go_simp; rfl)); intro gb302 hg w12 hbox hb; have n0_ := z0m (y5m (g := gb301) (o := .cells #[.int .i64 a0_0, .int .i64 a0_1, .slice A0_2 l0_2.length c0_2] 30 (0, 0)) (by (with_reducible repeat (first | refine z1m ?_ _ | refine z3m ?_ | refine z2m ?_ _)); exact BK301.out) hb); have n1_ := z0m (y6m (by repeat (first | (with_reducible first | exact HB.out | apply z4m | apply z5m | apply z6m | refine z7m ?_ GE301.out) | exact HB.out)) hb); have n2_ := z0m (hbox); have n3_ := z0m ((by rw [hg]; exact (y7m (by repeat (first | (with_reducible first | exact HB.out | apply z4m | apply z5m | apply z6m | refine z7m ?_ GE301.out) | exact HB.out))) : w.heap.size ≤ gb302)); have n4_ := z0m ((by rw [hg]; exact (y7m (by repeat (first | (with_reducible first | exact HB.out | apply z4m | apply z5m | apply z6m | refine z7m ?_ GE301.out) | exact HB.out))) : w.heap.size ≤ gb302)); have n5_ := z0m ((by rw [hg]; exact Nat.ne_of_lt (blk_lt (g := gb301) (o := .cells #[.int .i64 a0_0, .int .i64 a0_1, .slice A0_2 l0_2.length c0_2] 30 (0, 0)) (by (with_reducible repeat (first | refine z1m ?_ _ | refine z3m ?_ | refine z2m ?_ _)); exact BK301.out)) : gb301 ≠ gb302)); have n6_ := z0m ((by rw [hg]; exact Nat.ne_of_gt (blk_lt (g := gb301) (o := .cells #[.int .i64 a0_0, .int .i64 a0_1, .slice A0_2 l0_2.length c0_2] 30 (0, 0)) (by (with_reducible repeat (first | refine z1m ?_ _ | refine z3m ?_ | refine z2m ?_ _)); exact BK301.out)) : gb302 ≠ gb301)); clear BK301; clear HB; have BK301 := n0_; have HB := n1_; have BK302 := n2_; have GW302 := n3_; have GE302 := n4_; have NB301_302 := n5_; have NB302_301 := n6_; clear n0_ n1_ n2_ n3_ n4_ n5_ n6_; clear hb hbox hg; have hnb13 := NB301_302.out; have hnc13 := NB302_301.out; have hcz14_0 : w12.cell? ⟨gb301, 0, none⟩ = some (.int .i64 a0_0) := (x3m BK301.out 0).trans rfl; have hcz14_1 : w12.cell? ⟨gb301, 1, none⟩ = some (.int .i64 a0_1) := (x3m BK301.out 1).trans rfl; have hcz14_2 : w12.cell? ⟨gb301, 2, none⟩ = some (.slice A0_2 l0_2.length c0_2) := (x3m BK301.out 2).trans rfl; have hfz14_0 := x2m BK301.out 0; have hfz14_1 := x2m BK301.out 1; have hfz14_2 := x2m BK301.out 2; have hcz15_0 : w12.cell? ⟨gb302, 0, none⟩ = some (.int .i64 a1_0) := (x3m BK302.out 0).trans rfl; have hcz15_1 : w12.cell? ⟨gb302, 1, none⟩ = some (.int .i64 a1_1) := (x3m BK302.out 1).trans rfl; have hcz15_2 : w12.cell? ⟨gb302, 2, none⟩ = some (.slice A1_2 l1_2.length c1_2) := (x3m BK302.out 2).trans rfl; have hfz15_0 := x2m BK302.out 0; have hfz15_1 := x2m BK302.out 1; have hfz15_2 := x2m BK302.out 2))
   go_ret
   exact ⟨by first | rfl | (simp [errW_none, errW_some] <;> rfl) | (simp [*, errW_none, errW_some] <;> rfl), by repeat (first | (with_reducible first | exact HB.out | apply z4m | apply z5m | apply z6m | refine z7m ?_ GE301.out | refine z7m ?_ GE302.out) | exact HB.out)⟩
 ·rw [if_neg c3] at H
  have c3b0 : (a0_0 == a1_0) = false := beq_eq_false_iff_ne.mpr c3
  have c3b1 : (a0_0 != a1_0) = true := bne_iff_ne.mpr c3
  obtain rfl := Option.some.inj H
  go_enter Try.func17, Try.ntmps17
  go_wp2_with (first | ((with_reducible refine gate_dst (N := 2) rfl ?_); refine box_event ?hg (N := 2) ?hd (cs := #[.int .i64 a0_0, .int .i64 a0_1, .slice A0_2 l0_2.length c0_2]) (t := 30) ?hr ?_; (case hd => rfl); (case hg => rfl); (case hr => first | (go_simp; done) | (go_simp; rfl)); intro gb301 hg w16 hbox hb; have n0_ := z0m (y6m (by repeat (first | (with_reducible first | exact HB.out | apply z4m | apply z5m | apply z6m) | exact HB.out)) hb); have n1_ := z0m (hbox); have n2_ := z0m ((by rw [hg]; exact (y7m (by repeat (first | (with_reducible first | exact HB.out | apply z4m | apply z5m | apply z6m) | exact HB.out))) : w.heap.size ≤ gb301)); have n3_ := z0m ((by rw [hg]; exact (y7m (by repeat (first | (with_reducible first | exact HB.out | apply z4m | apply z5m | apply z6m) | exact HB.out))) : w.heap.size ≤ gb301)); clear HB; have HB := n0_; have BK301 := n1_; have GW301 := n2_; have GE301 := n3_; clear n0_ n1_ n2_ n3_; clear hb hbox hg) | ((with_reducible refine gate_dst (N := 3) rfl ?_); refine box_event ?hg (N := 3) ?hd (cs := #[.int .i64 a1_0, .int .i64 a1_1, .slice A1_2 l1_2.length c1_2]) (t := 30) ?hr ?_; (case hd => rfl); (case hg => rfl); (case hr => first | (go_simp; done) | (go_simp; rfl)); intro gb302 hg w17 hbox hb; have n0_ := z0m (y5m (g := gb301) (o := .cells #[.int .i64 a0_0, .int .i64 a0_1, .slice A0_2 l0_2.length c0_2] 30 (0, 0)) (by (with_reducible repeat (first | refine z1m ?_ _ | refine z3m ?_ | refine z2m ?_ _)); exact BK301.out) hb); have n1_ := z0m (y6m (by repeat (first | (with_reducible first | exact HB.out | apply z4m | apply z5m | apply z6m | refine z7m ?_ GE301.out) | exact HB.out)) hb); have n2_ := z0m (hbox); have n3_ := z0m ((by rw [hg]; exact (y7m (by repeat (first | (with_reducible first | exact HB.out | apply z4m | apply z5m | apply z6m | refine z7m ?_ GE301.out) | exact HB.out))) : w.heap.size ≤ gb302)); have n4_ := z0m ((by rw [hg]; exact (y7m (by repeat (first | (with_reducible first | exact HB.out | apply z4m | apply z5m | apply z6m | refine z7m ?_ GE301.out) | exact HB.out))) : w.heap.size ≤ gb302)); have n5_ := z0m ((by rw [hg]; exact Nat.ne_of_lt (blk_lt (g := gb301) (o := .cells #[.int .i64 a0_0, .int .i64 a0_1, .slice A0_2 l0_2.length c0_2] 30 (0, 0)) (by (with_reducible repeat (first | refine z1m ?_ _ | refine z3m ?_ | refine z2m ?_ _)); exact BK301.out)) : gb301 ≠ gb302)); have n6_ := z0m ((by rw [hg]; exact Nat.ne_of_gt (blk_lt (g := gb301) (o := .cells #[.int .i64 a0_0, .int .i64 a0_1, .slice A0_2 l0_2.length c0_2] 30 (0, 0)) (by (with_reducible repeat (first | refine z1m ?_ _ | refine z3m ?_ | refine z2m ?_ _)); exact BK301.out)) : gb302 ≠ gb301)); clear BK301; clear HB; have BK301 := n0_; have HB := n1_; have BK302 := n2_; have GW302 := n3_; have GE302 := n4_; have NB301_302 := n5_; have NB302_301 := n6_; clear n0_ n1_ n2_ n3_ n4_ n5_ n6_; clear hb hbox hg; have hnb18 := NB301_302.out; have hnc18 := NB302_301.out; have hcz19_0 : w17.cell? ⟨gb301, 0, none⟩ = some (.int .i64 a0_0) := (x3m BK301.out 0).trans rfl; have hcz19_1 : w17.cell? ⟨gb301, 1, none⟩ = some (.int .i64 a0_1) := (x3m BK301.out 1).trans rfl; have hcz19_2 : w17.cell? ⟨gb301, 2, none⟩ = some (.slice A0_2 l0_2.length c0_2) := (x3m BK301.out 2).trans rfl; have hfz19_0 := x2m BK301.out 0; have hfz19_1 := x2m BK301.out 1; have hfz19_2 := x2m BK301.out 2; have hcz20_0 : w17.cell? ⟨gb302, 0, none⟩ = some (.int .i64 a1_0) := (x3m BK302.out 0).trans rfl; have hcz20_1 : w17.cell? ⟨gb302, 1, none⟩ = some (.int .i64 a1_1) := (x3m BK302.out 1).trans rfl; have hcz20_2 : w17.cell? ⟨gb302, 2, none⟩ = some (.slice A1_2 l1_2.length c1_2) := (x3m BK302.out 2).trans rfl; have hfz20_0 := x2m BK302.out 0; have hfz20_1 := x2m BK302.out 1; have hfz20_2 := x2m BK302.out 2))
  go_ret
  exact ⟨by first | rfl | (simp [errW_none, errW_some] <;> rfl) | (simp [*, errW_none, errW_some] <;> rfl), by repeat (first | (with_reducible first | exact HB.out | apply z4m | apply z5m | apply z6m | refine z7m ?_ GE301.out | refine z7m ?_ GE302.out) | exact HB.out)⟩

def impl_rank.f (a0_0 : Int) (a0_1 : Int) (l0_2 : List Int) (a1 : Int) (a2 : Int) : Option (Int) := (impl_mod.f a2 a0_1).bind fun t305 => ((impl_mod.f a1 a0_0).bind fun t306 => (if 0 ≤ (wrap64 ((wrap64 (t305 * a0_0)) + t306)) then (if (wrap64 ((wrap64 (t305 * a0_0)) + t306)) < (l0_2.length : Int) then (some (rd l0_2 (wrap64 ((wrap64 (t305 * a0_0)) + t306)))) else (none)) else (none)))
set_option maxHeartbeats 8000000 in
set_option maxRecDepth 100000 in
theorem impl_rank.calls (a0_0 : Int) (a0_1 : Int) (A0_2 : Option Addr) (c0_2 : Nat) (l0_2 : List Int) (a1 : Int) (a2 : Int) (r : Int) (w : World) (hr0_2 : Kd.C (Kd.int .i64) w A0_2 l0_2.length l0_2) (hc0_2 : l0_2.length ≤ c0_2) (h : impl_rank.f a0_0 a0_1 l0_2 a1 a2 = some r) :
  Calls Try.prog 53 #[.agg #[.int .i64 a0_0, .int .i64 a0_1, .slice A0_2 l0_2.length c0_2], .int .i64 a1, .int .i64 a2] w fun e w' => e = .returned (.int .i64 r) ∧ Below w.heap.size w w' := by
 have hu37 := Try.underlying37
 have HR0_2 := z0m hr0_2
 have HC0_2 := z0m hc0_2
 clear hr0_2 hc0_2
 have HB := z0m (Below.refl w.heap.size w)
 have H : ((impl_mod.f a2 a0_1).bind fun t305 => ((impl_mod.f a1 a0_0).bind fun t306 => (if 0 ≤ (wrap64 ((wrap64 (t305 * a0_0)) + t306)) then (if (wrap64 ((wrap64 (t305 * a0_0)) + t306)) < (l0_2.length : Int) then (some (rd l0_2 (wrap64 ((wrap64 (t305 * a0_0)) + t306)))) else (none)) else (none)))) = some r := h
 clear h
 replace H := Option.bind_eq_some_iff.mp H
 obtain ⟨t305, A40, H⟩ := H
 replace H : ((impl_mod.f a1 a0_0).bind fun t306 => (if 0 ≤ (wrap64 ((wrap64 (t305 * a0_0)) + t306)) then (if (wrap64 ((wrap64 (t305 * a0_0)) + t306)) < (l0_2.length : Int) then (some (rd l0_2 (wrap64 ((wrap64 (t305 * a0_0)) + t306)))) else (none)) else (none))) = some r := H
 have A4 := z0m A40
 clear A40
 replace H := Option.bind_eq_some_iff.mp H
 obtain ⟨t306, A50, H⟩ := H
 replace H : (if 0 ≤ (wrap64 ((wrap64 (t305 * a0_0)) + t306)) then (if (wrap64 ((wrap64 (t305 * a0_0)) + t306)) < (l0_2.length : Int) then (some (rd l0_2 (wrap64 ((wrap64 (t305 * a0_0)) + t306)))) else (none)) else (none)) = some r := H
 have A5 := z0m A50
 clear A50
 obtain ⟨ji6, hji6⟩ : ∃ j_ : Int, (wrap64 ((wrap64 (t305 * a0_0)) + t306)) = j_ := ⟨_, rfl⟩
 replace H : (if 0 ≤ (ji6) then (if (ji6) < (l0_2.length : Int) then (some (rd l0_2 (ji6))) else (none)) else (none)) = some r := by first | (rw [hji6] at H; exact H) | (simp only [hji6] at H ⊢; exact H)
 (try rw [hji6] at A4)
 (try rw [hji6] at A5)
 have hji6w : (IntKind.i64.wrap ((wrap64 (t305 * a0_0)) + t306)) = ji6 := (i64_w _).trans hji6
 by_cases c7 : 0 ≤ (ji6)
 ·rw [if_pos c7] at H
  have c7b0 : decide (0 ≤ (ji6)) = true := decide_eq_true c7
  clear c7
  by_cases c8 : (ji6) < (l0_2.length : Int)
  ·rw [if_pos c8] at H
   have c8b0 : decide ((ji6) < (l0_2.length : Int)) = true := decide_eq_true c8
   clear c8
   obtain rfl := Option.some.inj H
   have p307 : 0 ≤ ((ji6) : Int) := of_decide_eq_true (by first | (with_reducible assumption) | assumption)
   have q307 : (ji6) < (l0_2.length : Int) := of_decide_eq_true (by first | (with_reducible assumption) | assumption)
   obtain ⟨ad307, e307, hx307_0⟩ := Kd.at_int HR0_2.out (ji6) p307 q307
   cases e307
   replace hx307_0 := (HB.out.cell (World.block_lt_of_cell? w _ hx307_0)).trans hx307_0
   replace p307 := eq_true p307
   replace q307 := eq_true q307
   go_enter Try.func53, Try.ntmps53
   go_wp2_with (first | ((with_reducible refine gate_dst (N := 3) rfl ?_); refine box_event ?hg (N := 3) ?hd (cs := #[.int .i64 a0_0, .int .i64 a0_1, .slice (some ad307) l0_2.length c0_2]) (t := 37) ?hr ?_; (case hd => rfl); (case hg => rfl); (case hr => first | (go_simp; done) | (go_simp; rfl)); intro gb304 hg w9 hbox hb; have n0_ := z0m (y6m (by repeat (first | (with_reducible first | exact HB.out | apply z4m | apply z5m | apply z6m) | exact HB.out)) hb); have n1_ := z0m (hbox); have n2_ := z0m ((by rw [hg]; exact (y7m (by repeat (first | (with_reducible first | exact HB.out | apply z4m | apply z5m | apply z6m) | exact HB.out))) : w.heap.size ≤ gb304)); have n3_ := z0m ((by rw [hg]; exact (y7m (by repeat (first | (with_reducible first | exact HB.out | apply z4m | apply z5m | apply z6m) | exact HB.out))) : w.heap.size ≤ gb304)); clear HB; have HB := n0_; have BK304 := n1_; have GW304 := n2_; have GE304 := n3_; clear n0_ n1_ n2_ n3_; clear hb hbox hg; have hcz10_0 : w9.cell? ⟨gb304, 0, none⟩ = some (.int .i64 a0_0) := (x3m BK304.out 0).trans rfl; have hcz10_1 : w9.cell? ⟨gb304, 1, none⟩ = some (.int .i64 a0_1) := (x3m BK304.out 1).trans rfl; have hcz10_2 : w9.cell? ⟨gb304, 2, none⟩ = some (.slice (some ad307) l0_2.length c0_2) := (x3m BK304.out 2).trans rfl; have hfz10_0 := x2m BK304.out 0; have hfz10_1 := x2m BK304.out 1; have hfz10_2 := x2m BK304.out 2) | (go_at_call 69; (with_reducible refine (impl_mod.calls a2 a0_1 t305 _ A4.out).mono ?_); rintro e w' ⟨rfl, ⟨nd, rfl⟩⟩; (try first | exact ⟨rfl, _, World.drewN_drewN _ _ _⟩ | exact ⟨rfl, _, Eq.trans (World.drewN_drewN _ _ _) (congrArg (World.drewN _) (Nat.add_assoc _ _ _))⟩)) | (go_at_call 69; (with_reducible refine (impl_mod.calls a1 a0_0 t306 _ A5.out).mono ?_); rintro e w' ⟨rfl, ⟨nd, rfl⟩⟩; (try first | exact ⟨rfl, _, World.drewN_drewN _ _ _⟩ | exact ⟨rfl, _, Eq.trans (World.drewN_drewN _ _ _) (congrArg (World.drewN _) (Nat.add_assoc _ _ _))⟩)))
   have hx307_0z_ := (HB.out.cell (World.block_lt_of_cell? w _ hx307_0)).trans hx307_0
   have hx307_0_ := ((z4m (w := w) HB.out (Obj.cells #[.int .i64 a0_0, .int .i64 a0_1, .slice (some ad307) l0_2.length c0_2] 37)).cell (World.block_lt_of_cell? w _ hx307_0)).trans hx307_0
   repeat (go_quiet (first | (go_at_call 69; (with_reducible refine (impl_mod.calls a2 a0_1 t305 _ A4.out).mono ?_); rintro e w' ⟨rfl, ⟨nd, rfl⟩⟩; (try first | exact ⟨rfl, _, World.drewN_drewN _ _ _⟩ | exact ⟨rfl, _, Eq.trans (World.drewN_drewN _ _ _) (congrArg (World.drewN _) (Nat.add_assoc _ _ _))⟩)) | (go_at_call 69; (with_reducible refine (impl_mod.calls a1 a0_0 t306 _ A5.out).mono ?_); rintro e w' ⟨rfl, ⟨nd, rfl⟩⟩; (try first | exact ⟨rfl, _, World.drewN_drewN _ _ _⟩ | exact ⟨rfl, _, Eq.trans (World.drewN_drewN _ _ _) (congrArg (World.drewN _) (Nat.add_assoc _ _ _))⟩))); try go_wp2_with (first | ((with_reducible refine gate_dst (N := 3) rfl ?_); refine box_event ?hg (N := 3) ?hd (cs := #[.int .i64 a0_0, .int .i64 a0_1, .slice (some ad307) l0_2.length c0_2]) (t := 37) ?hr ?_; (case hd => rfl); (case hg => rfl); (case hr => first | (go_simp; done) | (go_simp; rfl)); intro gb304 hg w9 hbox hb; have n0_ := z0m (y6m (by repeat (first | (with_reducible first | exact HB.out | apply z4m | apply z5m | apply z6m) | exact HB.out)) hb); have n1_ := z0m (hbox); have n2_ := z0m ((by rw [hg]; exact (y7m (by repeat (first | (with_reducible first | exact HB.out | apply z4m | apply z5m | apply z6m) | exact HB.out))) : w.heap.size ≤ gb304)); have n3_ := z0m ((by rw [hg]; exact (y7m (by repeat (first | (with_reducible first | exact HB.out | apply z4m | apply z5m | apply z6m) | exact HB.out))) : w.heap.size ≤ gb304)); clear HB; have HB := n0_; have BK304 := n1_; have GW304 := n2_; have GE304 := n3_; clear n0_ n1_ n2_ n3_; clear hb hbox hg; have hcz10_0 : w9.cell? ⟨gb304, 0, none⟩ = some (.int .i64 a0_0) := (x3m BK304.out 0).trans rfl; have hcz10_1 : w9.cell? ⟨gb304, 1, none⟩ = some (.int .i64 a0_1) := (x3m BK304.out 1).trans rfl; have hcz10_2 : w9.cell? ⟨gb304, 2, none⟩ = some (.slice (some ad307) l0_2.length c0_2) := (x3m BK304.out 2).trans rfl; have hfz10_0 := x2m BK304.out 0; have hfz10_1 := x2m BK304.out 1; have hfz10_2 := x2m BK304.out 2) | (go_at_call 69; (with_reducible refine (impl_mod.calls a2 a0_1 t305 _ A4.out).mono ?_); rintro e w' ⟨rfl, ⟨nd, rfl⟩⟩; (try first | exact ⟨rfl, _, World.drewN_drewN _ _ _⟩ | exact ⟨rfl, _, Eq.trans (World.drewN_drewN _ _ _) (congrArg (World.drewN _) (Nat.add_assoc _ _ _))⟩)) | (go_at_call 69; (with_reducible refine (impl_mod.calls a1 a0_0 t306 _ A5.out).mono ?_); rintro e w' ⟨rfl, ⟨nd, rfl⟩⟩; (try first | exact ⟨rfl, _, World.drewN_drewN _ _ _⟩ | exact ⟨rfl, _, Eq.trans (World.drewN_drewN _ _ _) (congrArg (World.drewN _) (Nat.add_assoc _ _ _))⟩))))
   go_ret
   exact ⟨by first | rfl | (simp [errW_none, errW_some] <;> rfl) | (simp only [← hji6]; first | rfl | (simp [errW_none, errW_some] <;> rfl)) | (simp [*, errW_none, errW_some] <;> rfl), by repeat (first | (with_reducible first | exact HB.out | apply z4m | apply z5m | apply z6m | refine z7m ?_ GE304.out) | exact HB.out)⟩
  ·rw [if_neg c8] at H
   exact absurd H (by simp)
 ·rw [if_neg c7] at H
  exact absurd H (by simp)

def impl_CellsBelow_1.f (a0 : Int) (a1 : Int) (a2_0 : Int) (a2_1 : Int) (l2_2 : List Int) (a3 : Int) : Option (Int) := (impl_rank.f a2_0 a2_1 l2_2 a0 a1).bind fun t308 => ((impl_one.f (decide (t308 < a3))).bind fun t309 => (some t309))
def impl_CellsBelow_1.T1 : Bool × List (List Nat × List Nat) := (true, [([], []), ([], []), ([], []), ([0, 1, 2], [0, 1, 2]), ([], []), ([3, 4], [3, 4]), ([5, 3], [5]), ([6, 6, 0, 1, 2, 3, 4, 5, 6], [6])])
def impl_CellsBelow_1.B1 : List Nat := [0, 0, 0, 7, 0, 31, 63, 127]
theorem impl_CellsBelow_1.tab1 : rtab .any (opsOf Try.f52 1) = impl_CellsBelow_1.T1 := by kernel_rfl
theorem impl_CellsBelow_1.bits1 : waitsOk impl_CellsBelow_1.T1.2 impl_CellsBelow_1.B1 = true := by kernel_rfl
set_option maxHeartbeats 8000000 in
set_option maxRecDepth 100000 in
theorem impl_CellsBelow_1.calls {g2_ : Nat} {g3_ : Nat} (a0 : Int) (a1 : Int) (a2_0 : Int) (a2_1 : Int) (A2_2 : Option Addr) (c2_2 : Nat) (l2_2 : List Int) (a3 : Int) (r : Int) (w : World) (hr2_2 : Kd.C (Kd.int .i64) w A2_2 l2_2.length l2_2) (hc2_2 : l2_2.length ≤ c2_2) (hb2_ : w.heap[g2_]? = some (.cells #[.int .i64 a2_0, .int .i64 a2_1, .slice A2_2 l2_2.length c2_2] 37 (0, 0))) (hb3_ : w.heap[g3_]? = some (.cells #[.int .i64 a3] 3 (0, 0))) (h : impl_CellsBelow_1.f a0 a1 a2_0 a2_1 l2_2 a3 = some r) :
  Calls Try.prog 52 #[.int .i64 a0, .int .i64 a1, .pointer (some ⟨g2_, 0, none⟩), .pointer (some ⟨g3_, 0, none⟩)] w fun e w' => e = .returned (.int .i64 r) ∧ Below w.heap.size w w' := by
 have hzc2_0 : w.cell? ⟨g2_, 0, none⟩ = some (.int .i64 a2_0) := (x3m hb2_ 0).trans rfl
 have hzc2_1 : w.cell? ⟨g2_, 1, none⟩ = some (.int .i64 a2_1) := (x3m hb2_ 1).trans rfl
 have hzc2_2 : w.cell? ⟨g2_, 2, none⟩ = some (.slice A2_2 l2_2.length c2_2) := (x3m hb2_ 2).trans rfl
 have HG2_ := z0m hb2_
 clear hb2_
 have hzc3_0 : w.cell? ⟨g3_, 0, none⟩ = some (.int .i64 a3) := (x3m hb3_ 0).trans rfl
 have HG3_ := z0m hb3_
 clear hb3_
 have HR2_2 := z0m hr2_2
 have HC2_2 := z0m hc2_2
 clear hr2_2 hc2_2
 have HB := z0m (Below.refl w.heap.size w)
 have H : ((impl_rank.f a2_0 a2_1 l2_2 a0 a1).bind fun t308 => ((impl_one.f (decide (t308 < a3))).bind fun t309 => (some t309))) = some r := h
 clear h
 replace H := Option.bind_eq_some_iff.mp H
 obtain ⟨t308, A50, H⟩ := H
 replace H : ((impl_one.f (decide (t308 < a3))).bind fun t309 => (some t309)) = some r := H
 have A5 := z0m A50
 clear A50
 replace H := Option.bind_eq_some_iff.mp H
 obtain ⟨t309, A60, H⟩ := H
 replace H : (some t309) = some r := H
 have A6 := z0m A60
 clear A60
 obtain rfl := Option.some.inj H
 go_enter Try.func52, Try.ntmps52
 try go_wp2
 have n0_ := z0m (z6m HB.out)
 clear HB
 have HB := n0_
 clear n0_
 refine start_ (n := 8) (S := fun w' => w'.cell? ⟨g2_, 0, none⟩ = some (.int .i64 a2_0) ∧ w'.cell? ⟨g2_, 1, none⟩ = some (.int .i64 a2_1) ∧ w'.cell? ⟨g2_, 2, none⟩ = some (.slice A2_2 l2_2.length c2_2) ∧ w'.cell? ⟨g3_, 0, none⟩ = some (.int .i64 a3)) (ds := []) (bsm_ 8 0) (by kernel_rfl) rfl rfl ⟨(x3m (y5m HG2_.out HB.out) 0).trans rfl, (x3m (y5m HG2_.out HB.out) 1).trans rfl, (x3m (y5m HG2_.out HB.out) 2).trans rfl, (x3m (y5m HG3_.out HB.out) 0).trans rfl⟩ (fun hHeld => ?_); refine with_tabW impl_CellsBelow_1.tab1 impl_CellsBelow_1.bits1 (fun HT_ HW_ => ?_)
 generalize w.drew = w7 at HB hHeld ⊢
 refine take_ (i := 0) (N := some 7) (v := ?_) (a' := ?_) (bsm_ 8 1) rfl rfl (take_ofW HT_.out HW_.out (by kernel_rfl)) (fun _ _ _ h => h) (Or.inl ⟨by rfl, ?_⟩) hHeld ?_ ?_
 rotate_left
 ·rintro w' ⟨s0, s1, s2, s3⟩
  go_simp
  with_reducible rfl
 rotate_left
 ·simp only [Act.put, s1m_, s2m_, s3m_, i64_w, i32_w]
  rfl
 refine pure_ (i := 1) (N := some 8) (v := ?_) (a' := ?_) (bsm_ 8 3) rfl rfl (any_of HT_.out (by kernel_rfl)) (fun _ _ _ h => h) (Or.inl ⟨by rfl, ?_⟩) ?_ ?_
 rotate_left
 ·intro w'
  go_simp
  with_reducible rfl
 rotate_left
 ·simp only [Act.put, s1m_, s2m_, s3m_, i64_w, i32_w]
  rfl
 refine pure_ (i := 2) (N := some 9) (v := ?_) (a' := ?_) (bsm_ 8 7) rfl rfl (any_of HT_.out (by kernel_rfl)) (fun _ _ _ h => h) (Or.inl ⟨by rfl, ?_⟩) ?_ ?_
 rotate_left
 ·intro w'
  go_simp
  with_reducible rfl
 rotate_left
 ·simp only [Act.put, s1m_, s2m_, s3m_, i64_w, i32_w]
  rfl
 refine take_ (i := 4) (N := some 11) (v := ?_) (a' := ?_) (bsm_ 8 23) rfl rfl (take_ofW HT_.out HW_.out (by kernel_rfl)) (fun _ _ _ h => h) (Or.inl ⟨by rfl, ?_⟩) hHeld ?_ ?_
 rotate_left
 ·rintro w' ⟨s0, s1, s2, s3⟩
  go_simp
  with_reducible rfl
 rotate_left
 ·simp only [Act.put, s1m_, s2m_, s3m_, i64_w, i32_w]
  rfl
 refine one_ (i := 3) (N := some 10) (bsm_ 8 31) rfl rfl (one_of HT_.out (by kernel_rfl)) (by decide) (fun K hK => ?_)
 refine goes_ Try.func53 (by kernel_rfl) rfl #[.agg #[.int .i64 a2_0, .int .i64 a2_1, .slice A2_2 l2_2.length c2_2], .int .i64 a0, .int .i64 a1] (by rfl) rfl rfl (by (try simp only [List.map_toArray, List.map_cons, List.map_nil]); first | done | rfl | (simp only [List.length_drop, List.length_take]; rfl)) ?_
 with_reducible refine (impl_rank.calls a2_0 a2_1 _ _ l2_2 a0 a1 t308 _ ?side1 ?side2 A5.out).mono ?_
 (case side1 => repeat (first | exact HR2_2.out | exact (y9m HR2_2.out HB.out) | (with_reducible refine y2m ?_ _) | (with_reducible refine y3m ?_ _) | (with_reducible refine y4m ?_)))
 (case side2 => exact HC2_2.out)
 rintro e w8 ⟨rfl, hb⟩
 refine ⟨_, rfl, ?_⟩
 have n0_ := z0m (y6m (by repeat (first | (with_reducible first | exact HB.out | apply z4m | apply z5m | apply z6m) | exact HB.out)) hb)
 clear HB
 have HB := n0_
 clear n0_
 (try clear hb)
 (try clear hb2)
 (try clear hk)
 (try clear hi)
 refine hK.out _ _ ⟨(x3m (y5m HG2_.out HB.out) 0).trans rfl, (x3m (y5m HG2_.out HB.out) 1).trans rfl, (x3m (y5m HG2_.out HB.out) 2).trans rfl, (x3m (y5m HG3_.out HB.out) 0).trans rfl⟩ (fun hHeld => ?_)
 clear hK K
 refine norm_ (a' := ?_) ?_ ?_
 rotate_left
 ·show Act.put _ (some 10) _ = _
  simp only [Act.put, s1m_, s2m_, s3m_, i64_w, i32_w]
  rfl
 refine pure_ (i := 5) (N := some 12) (v := ?_) (a' := ?_) (bsm_ 8 63) rfl rfl (any_of HT_.out (by kernel_rfl)) (fun _ _ _ h => h) (Or.inl ⟨by rfl, ?_⟩) ?_ ?_
 rotate_left
 ·intro w'
  go_simp
  with_reducible rfl
 rotate_left
 ·simp only [Act.put, s1m_, s2m_, s3m_, i64_w, i32_w]
  rfl
 refine one_ (i := 6) (N := some 13) (bsm_ 8 127) rfl rfl (one_of HT_.out (by kernel_rfl)) (by decide) (fun K hK => ?_)
 refine goes_ Try.func43 (by kernel_rfl) rfl #[.bool (decide (t308 < a3))] (by rfl) rfl rfl (by (try simp only [List.map_toArray, List.map_cons, List.map_nil]); first | done | rfl | (simp only [List.length_drop, List.length_take]; rfl)) ?_
 with_reducible refine (impl_one.calls (decide (t308 < a3)) t309 _ A6.out).mono ?_
 rintro e w' ⟨rfl, ⟨nd, rfl⟩⟩
 refine ⟨_, rfl, ?_⟩
 refine hK.out _ _ ⟨(x3m (y5m HG2_.out HB.out) 0).trans rfl, (x3m (y5m HG2_.out HB.out) 1).trans rfl, (x3m (y5m HG2_.out HB.out) 2).trans rfl, (x3m (y5m HG3_.out HB.out) 0).trans rfl⟩ (fun hHeld => ?_)
 clear hK K
 refine norm_ (a' := ?_) ?_ ?_
 rotate_left
 ·show Act.put _ (some 13) _ = _
  simp only [Act.put, s1m_, s2m_, s3m_, i64_w, i32_w]
  rfl
 refine pure_ (i := 7) (N := some 6) (v := ?_) (a' := ?_) (bsm_ 8 255) rfl rfl (any_of HT_.out (by kernel_rfl)) (fun _ _ _ h => h) (Or.inl ⟨by rfl, ?_⟩) ?_ ?_
 rotate_left
 ·intro w'
  go_simp
  with_reducible rfl
 rotate_left
 ·simp only [Act.put, s1m_, s2m_, s3m_, i64_w, i32_w]
  rfl
 refine done_ (done_of HT_.out (by kernel_rfl)) ?_
 try go_wp2
 go_ret
 exact ⟨by first | rfl | (simp [errW_none, errW_some] <;> rfl) | (simp [*, errW_none, errW_some] <;> rfl), by repeat (first | (with_reducible first | exact HB.out | apply z4m | apply z5m | apply z6m) | exact HB.out)⟩

def impl_CellsBelow_1.drawn.f (w_ h_ : Int) (a2_0 : Int) (a2_1 : Int) (l2_2 : List Int) (a3 : Int) : Option (Int × Int × List Int) := if 1 ≤ w_ ∧ w_ ≤ 1024 ∧ 0 ≤ h_ ∧ h_ ≤ 1024 ∧ w_ * h_ ≤ 1024 then (Ext.gridO w_ h_ fun x y => impl_CellsBelow_1.f x y a2_0 a2_1 l2_2 a3).map fun l => (w_, h_, l) else none
theorem impl_CellsBelow_1.drawn.calls {g2_ : Nat} {g3_ : Nat} (w_ h_ : Int) (a2_0 : Int) (a2_1 : Int) (A2_2 : Option Addr) (c2_2 : Nat) (l2_2 : List Int) (a3 : Int) (r1 r2 : Int) (r3 : List Int) (w : World) (hr2_2 : Kd.C (Kd.int .i64) w A2_2 l2_2.length l2_2) (hc2_2 : l2_2.length ≤ c2_2) (hb2_ : w.heap[g2_]? = some (.cells #[.int .i64 a2_0, .int .i64 a2_1, .slice A2_2 l2_2.length c2_2] 37 (0, 0))) (hb3_ : w.heap[g3_]? = some (.cells #[.int .i64 a3] 3 (0, 0))) (h : impl_CellsBelow_1.drawn.f w_ h_ a2_0 a2_1 l2_2 a3 = some (r1, r2, r3)) :
  Calls Try.prog 41 #[.int .i64 w_, .int .i64 h_, .func (.func 52) #[] #[.pointer (some ⟨g2_, 0, none⟩), .pointer (some ⟨g3_, 0, none⟩)]] w fun e w' => ∃ v2_ : Value, e = .returned (.agg #[.int .i64 r1, .int .i64 r2, v2_]) ∧ Kd.R (Kd.int .i64) 3 w' w.heap.size (fun _ => True) v2_ r3 ∧ Below w.heap.size w w' := by
 unfold impl_CellsBelow_1.drawn.f at h
 split at h
 ·rename_i hc_
  obtain ⟨l_, hl_, he_⟩ := Option.map_eq_some_iff.mp h
  obtain ⟨hat_, hg_⟩ := Ext.gridO_some hl_
  injection he_ with e1_ e2_; injection e2_ with e2_ e3_; subst e1_ e2_ e3_
  have ht_ := impl_drawn.tells (AT := fun x y => impl_CellsBelow_1.f x y a2_0 a2_1 l2_2 a3) hc_.1 hc_.2.1 hc_.2.2.1 hc_.2.2.2.1 hc_.2.2.2.2 hat_
  rw [hg_] at ht_
  exact impl_drawn.calls 4000 w_ h_ _ 52 #[.pointer (some ⟨g2_, 0, none⟩), .pointer (some ⟨g3_, 0, none⟩)] _ _ _ w (enters_ Try.func52 (by kernel_rfl) rfl) (fun x y r W hW hr => Ext.calls_app (by simp) ((impl_CellsBelow_1.calls x y a2_0 a2_1 _ _ l2_2 a3 r W (y9m hr2_2 hW) hc2_2 (y5m hb2_ hW) (y5m hb3_ hW) hr).mono fun e w' he => ⟨he.1, he.2⟩)) ht_
 ·exact absurd h (by simp)

abbrev impl_CellsBelow_1.V.f := @impl_CellsBelow_1.f
set_option linter.defProp false in
def impl_CellsBelow_1.V.calls := @impl_CellsBelow_1.calls

def impl_CellsBelow.f (a0_0 : Int) (a0_1 : Int) (l0_2 : List Int) (a1 : Int) : Option (Int × Int × List Int) := (impl_IsMatrix.f a0_0 a0_1 l0_2).bind fun t313 => (if t313 = true then (if a1 < 0 then (some (0, 0, ([] : List Int))) else (if a1 > (l0_2.length : Int) then (some (0, 0, ([] : List Int))) else ((impl_sized.f a0_0 a0_1).bind fun t314 => (if t314 = true then ((impl_CellsBelow_1.drawn.f a0_0 a0_1 a0_0 a0_1 l0_2 a1).bind fun bt315 => (some (bt315.1, bt315.2.1, bt315.2.2))) else (some (0, 0, ([] : List Int))))))) else (some (0, 0, ([] : List Int))))
set_option maxHeartbeats 8000000 in
set_option maxRecDepth 100000 in
theorem impl_CellsBelow.calls (a0_0 : Int) (a0_1 : Int) (A0_2 : Option Addr) (c0_2 : Nat) (l0_2 : List Int) (a1 : Int) (r1 : Int) (r2 : Int) (r3 : List Int) (w : World) (hr0_2 : Kd.C (Kd.int .i64) w A0_2 l0_2.length l0_2) (hc0_2 : l0_2.length ≤ c0_2) (h : impl_CellsBelow.f a0_0 a0_1 l0_2 a1 = some (r1, r2, r3)) :
  Calls Try.prog 18 #[.agg #[.int .i64 a0_0, .int .i64 a0_1, .slice A0_2 l0_2.length c0_2], .int .i64 a1] w fun e w' => ∃ v2_ : Value, e = .returned (.agg #[.int .i64 r1, .int .i64 r2, v2_]) ∧ Kd.R (Kd.int .i64) 3 w' w.heap.size (fun _ => True) v2_ r3 ∧ Below w.heap.size w w' := by
 have hu37 := Try.underlying37
 have hu30 := Try.underlying30
 have HR0_2 := z0m hr0_2
 have HC0_2 := z0m hc0_2
 clear hr0_2 hc0_2
 have HB := z0m (Below.refl w.heap.size w)
 have H : ((impl_IsMatrix.f a0_0 a0_1 l0_2).bind fun t313 => (if t313 = true then (if a1 < 0 then (some (0, 0, ([] : List Int))) else (if a1 > (l0_2.length : Int) then (some (0, 0, ([] : List Int))) else ((impl_sized.f a0_0 a0_1).bind fun t314 => (if t314 = true then ((impl_CellsBelow_1.drawn.f a0_0 a0_1 a0_0 a0_1 l0_2 a1).bind fun bt315 => (some (bt315.1, bt315.2.1, bt315.2.2))) else (some (0, 0, ([] : List Int))))))) else (some (0, 0, ([] : List Int))))) = some (r1, r2, r3) := h
 clear h
 replace H := Option.bind_eq_some_iff.mp H
 obtain ⟨t313, A30, H⟩ := H
 replace H : (if t313 = true then (if a1 < 0 then (some (0, 0, ([] : List Int))) else (if a1 > (l0_2.length : Int) then (some (0, 0, ([] : List Int))) else ((impl_sized.f a0_0 a0_1).bind fun t314 => (if t314 = true then ((impl_CellsBelow_1.drawn.f a0_0 a0_1 a0_0 a0_1 l0_2 a1).bind fun bt315 => (some (bt315.1, bt315.2.1, bt315.2.2))) else (some (0, 0, ([] : List Int))))))) else (some (0, 0, ([] : List Int)))) = some (r1, r2, r3) := H
 have A3 := z0m A30
 clear A30
 by_cases c4 : t313 = true
 ·subst c4
  have H1 : (if a1 < 0 then (some (0, 0, ([] : List Int))) else (if a1 > (l0_2.length : Int) then (some (0, 0, ([] : List Int))) else ((impl_sized.f a0_0 a0_1).bind fun t314 => (if t314 = true then ((impl_CellsBelow_1.drawn.f a0_0 a0_1 a0_0 a0_1 l0_2 a1).bind fun bt315 => (some (bt315.1, bt315.2.1, bt315.2.2))) else (some (0, 0, ([] : List Int))))))) = some (r1, r2, r3) := by rw [if_pos rfl] at H; first | exact H | (simp only [if_true] at H ⊢; exact H)
  clear H
  have H := H1
  clear H1
  by_cases c5 : a1 < 0
  ·rw [if_pos c5] at H
   have c5b0 : decide (a1 < 0) = true := decide_eq_true c5
   clear c5
   simp only [Option.some.injEq, Prod.mk.injEq] at H
   obtain ⟨rfl, rfl, rfl⟩ := H
   go_enter Try.func18, Try.ntmps18
   go_wp2_with (first | ((with_reducible refine gate_dst (N := 2) rfl ?_); (try (refine gate_guard (by rfl) ?_; dsimp only)); refine box_event ?hg (N := 2) ?hd (cs := #[.int .i64 a0_0, .int .i64 a0_1, .slice A0_2 l0_2.length c0_2]) (t := 37) ?hr ?_; (case hd => rfl); (case hg => rfl); (case hr => first | (go_simp; done) | (go_simp; rfl)); intro gb310 hg w6 hbox hb; have n0_ := z0m (y6m (by repeat (first | (with_reducible first | exact HB.out | apply z4m | apply z5m | apply z6m) | exact HB.out)) hb); have n1_ := z0m (hbox); have n2_ := z0m ((by rw [hg]; exact (y7m (by repeat (first | (with_reducible first | exact HB.out | apply z4m | apply z5m | apply z6m) | exact HB.out))) : w.heap.size ≤ gb310)); have n3_ := z0m ((by rw [hg]; exact (y7m (by repeat (first | (with_reducible first | exact HB.out | apply z4m | apply z5m | apply z6m) | exact HB.out))) : w.heap.size ≤ gb310)); clear HB; have HB := n0_; have BK310 := n1_; have GW310 := n2_; have GE310 := n3_; clear n0_ n1_ n2_ n3_; clear hb hbox hg) | ((with_reducible refine gate_dst (N := 3) rfl ?_); (try (refine gate_guard (by rfl) ?_; dsimp only)); refine box_event ?hg (N := 3) ?hd (cs := #[.int .i64 a1]) (t := 3) ?hr ?_; (case hd => rfl); (case hg => rfl); (case hr => first | (go_simp; done) | (go_simp; rfl)); intro gb311 hg w7 hbox hb; have n0_ := z0m (y5m (g := gb310) (o := .cells #[.int .i64 a0_0, .int .i64 a0_1, .slice A0_2 l0_2.length c0_2] 37 (0, 0)) (by (with_reducible repeat (first | refine z1m ?_ _ | refine z3m ?_ | refine z2m ?_ _)); exact BK310.out) hb); have n1_ := z0m (y6m (by repeat (first | (with_reducible first | exact HB.out | apply z4m | apply z5m | apply z6m | refine z7m ?_ GE310.out) | exact HB.out)) hb); have n2_ := z0m (hbox); have n3_ := z0m ((by rw [hg]; exact (y7m (by repeat (first | (with_reducible first | exact HB.out | apply z4m | apply z5m | apply z6m | refine z7m ?_ GE310.out) | exact HB.out))) : w.heap.size ≤ gb311)); have n4_ := z0m ((by rw [hg]; exact (y7m (by repeat (first | (with_reducible first | exact HB.out | apply z4m | apply z5m | apply z6m | refine z7m ?_ GE310.out) | exact HB.out))) : w.heap.size ≤ gb311)); have n5_ := z0m ((by rw [hg]; exact Nat.ne_of_lt (blk_lt (g := gb310) (o := .cells #[.int .i64 a0_0, .int .i64 a0_1, .slice A0_2 l0_2.length c0_2] 37 (0, 0)) (by (with_reducible repeat (first | refine z1m ?_ _ | refine z3m ?_ | refine z2m ?_ _)); exact BK310.out)) : gb310 ≠ gb311)); have n6_ := z0m ((by rw [hg]; exact Nat.ne_of_gt (blk_lt (g := gb310) (o := .cells #[.int .i64 a0_0, .int .i64 a0_1, .slice A0_2 l0_2.length c0_2] 37 (0, 0)) (by (with_reducible repeat (first | refine z1m ?_ _ | refine z3m ?_ | refine z2m ?_ _)); exact BK310.out)) : gb311 ≠ gb310)); clear BK310; clear HB; have BK310 := n0_; have HB := n1_; have BK311 := n2_; have GW311 := n3_; have GE311 := n4_; have NB310_311 := n5_; have NB311_310 := n6_; clear n0_ n1_ n2_ n3_ n4_ n5_ n6_; clear hb hbox hg) | ((with_reducible refine gate_dst (N := 4) rfl ?_); (try (refine gate_guard (by rfl) ?_; dsimp only)); refine box_event ?hg (N := 4) ?hd (cs := #[.int .i64 0, .int .i64 0, .slice none 0 0]) (t := 30) ?hr ?_; (case hd => rfl); (case hg => rfl); (case hr => first | (go_simp; done) | (go_simp; rfl)); intro gb312 hg w8 hbox hb; have n0_ := z0m (y5m (g := gb310) (o := .cells #[.int .i64 a0_0, .int .i64 a0_1, .slice A0_2 l0_2.length c0_2] 37 (0, 0)) (by (with_reducible repeat (first | refine z1m ?_ _ | refine z3m ?_ | refine z2m ?_ _)); exact BK310.out) hb); have n1_ := z0m (y5m (g := gb311) (o := .cells #[.int .i64 a1] 3 (0, 0)) (by (with_reducible repeat (first | refine z1m ?_ _ | refine z3m ?_ | refine z2m ?_ _)); exact BK311.out) hb); have n2_ := z0m (y6m (by repeat (first | (with_reducible first | exact HB.out | apply z4m | apply z5m | apply z6m | refine z7m ?_ GE310.out | refine z7m ?_ GE311.out) | exact HB.out)) hb); have n3_ := z0m (hbox); have n4_ := z0m ((by rw [hg]; exact (y7m (by repeat (first | (with_reducible first | exact HB.out | apply z4m | apply z5m | apply z6m | refine z7m ?_ GE310.out | refine z7m ?_ GE311.out) | exact HB.out))) : w.heap.size ≤ gb312)); have n5_ := z0m ((by rw [hg]; exact (y7m (by repeat (first | (with_reducible first | exact HB.out | apply z4m | apply z5m | apply z6m | refine z7m ?_ GE310.out | refine z7m ?_ GE311.out) | exact HB.out))) : w.heap.size ≤ gb312)); have n6_ := z0m ((by rw [hg]; exact Nat.ne_of_lt (blk_lt (g := gb310) (o := .cells #[.int .i64 a0_0, .int .i64 a0_1, .slice A0_2 l0_2.length c0_2] 37 (0, 0)) (by (with_reducible repeat (first | refine z1m ?_ _ | refine z3m ?_ | refine z2m ?_ _)); exact BK310.out)) : gb310 ≠ gb312)); have n7_ := z0m ((by rw [hg]; exact Nat.ne_of_gt (blk_lt (g := gb310) (o := .cells #[.int .i64 a0_0, .int .i64 a0_1, .slice A0_2 l0_2.length c0_2] 37 (0, 0)) (by (with_reducible repeat (first | refine z1m ?_ _ | refine z3m ?_ | refine z2m ?_ _)); exact BK310.out)) : gb312 ≠ gb310)); have n8_ := z0m ((by rw [hg]; exact Nat.ne_of_lt (blk_lt (g := gb311) (o := .cells #[.int .i64 a1] 3 (0, 0)) (by (with_reducible repeat (first | refine z1m ?_ _ | refine z3m ?_ | refine z2m ?_ _)); exact BK311.out)) : gb311 ≠ gb312)); have n9_ := z0m ((by rw [hg]; exact Nat.ne_of_gt (blk_lt (g := gb311) (o := .cells #[.int .i64 a1] 3 (0, 0)) (by (with_reducible repeat (first | refine z1m ?_ _ | refine z3m ?_ | refine z2m ?_ _)); exact BK311.out)) : gb312 ≠ gb311)); clear BK310; clear BK311; clear HB; have BK310 := n0_; have BK311 := n1_; have HB := n2_; have BK312 := n3_; have GW312 := n4_; have GE312 := n5_; have NB310_312 := n6_; have NB312_310 := n7_; have NB311_312 := n8_; have NB312_311 := n9_; clear n0_ n1_ n2_ n3_ n4_ n5_ n6_ n7_ n8_ n9_; clear hb hbox hg; have hnb9 := NB310_311.out; have hnc9 := NB311_310.out; have hnb10 := NB310_312.out; have hnc10 := NB312_310.out; have hcz11_0 : w8.cell? ⟨gb310, 0, none⟩ = some (.int .i64 a0_0) := (x3m BK310.out 0).trans rfl; have hcz11_1 : w8.cell? ⟨gb310, 1, none⟩ = some (.int .i64 a0_1) := (x3m BK310.out 1).trans rfl; have hcz11_2 : w8.cell? ⟨gb310, 2, none⟩ = some (.slice A0_2 l0_2.length c0_2) := (x3m BK310.out 2).trans rfl; have hfz11_0 := x2m BK310.out 0; have hfz11_1 := x2m BK310.out 1; have hfz11_2 := x2m BK310.out 2) | ((with_reducible refine gate_callee (f := 16) rfl ?_); refine goesL_ (some 6) rfl rfl Try.func16 (by kernel_rfl) rfl #[.agg #[.int .i64 a0_0, .int .i64 a0_1, .slice A0_2 l0_2.length c0_2]] rfl (by (try simp only [List.map_toArray, List.map_cons, List.map_nil]); first | done | rfl | (simp only [List.length_drop, List.length_take]; rfl)) ?_; (with_reducible refine (impl_IsMatrix.calls a0_0 a0_1 _ _ l0_2 true _ ?side1 ?side2 A3.out).mono ?_); (case side1 => repeat (first | exact HR0_2.out | exact (y9m HR0_2.out HB.out) | (with_reducible refine y2m ?_ _) | (with_reducible refine y3m ?_ _) | (with_reducible refine y4m ?_))); (case side2 => exact HC0_2.out); rintro e w12 ⟨rfl, hb⟩; refine ⟨_, rfl, ?_⟩; have n0_ := z0m (y5m (g := gb310) (o := .cells #[.int .i64 a0_0, .int .i64 a0_1, .slice A0_2 l0_2.length c0_2] 37 (0, 0)) (by (with_reducible repeat (first | refine z1m ?_ _ | refine z3m ?_ | refine z2m ?_ _)); exact BK310.out) hb); have n1_ := z0m (y5m (g := gb311) (o := .cells #[.int .i64 a1] 3 (0, 0)) (by (with_reducible repeat (first | refine z1m ?_ _ | refine z3m ?_ | refine z2m ?_ _)); exact BK311.out) hb); have n2_ := z0m (y5m (g := gb312) (o := .cells #[.int .i64 0, .int .i64 0, .slice none 0 0] 30 (0, 0)) (by (with_reducible repeat (first | refine z1m ?_ _ | refine z3m ?_ | refine z2m ?_ _)); exact BK312.out) hb); have n3_ := z0m (y6m (by repeat (first | (with_reducible first | exact HB.out | apply z4m | apply z5m | apply z6m | refine z7m ?_ GE310.out | refine z7m ?_ GE311.out | refine z7m ?_ GE312.out) | exact HB.out)) hb); clear BK310; clear BK311; clear BK312; clear HB; have BK310 := n0_; have BK311 := n1_; have BK312 := n2_; have HB := n3_; clear n0_ n1_ n2_ n3_; (try clear hb); have hnb13 := NB311_312.out; have hnc13 := NB312_311.out; have hcz14_0 : w12.cell? ⟨gb311, 0, none⟩ = some (.int .i64 a1) := (x3m BK311.out 0).trans rfl; have hfz14_0 := x2m BK311.out 0; have hcz15_0 : w12.cell? ⟨gb312, 0, none⟩ = some (.int .i64 0) := (x3m BK312.out 0).trans rfl; have hcz15_1 : w12.cell? ⟨gb312, 1, none⟩ = some (.int .i64 0) := (x3m BK312.out 1).trans rfl; have hcz15_2 : w12.cell? ⟨gb312, 2, none⟩ = some (.slice none 0 0) := (x3m BK312.out 2).trans rfl; have hfz15_0 := x2m BK312.out 0; have hfz15_1 := x2m BK312.out 1; have hfz15_2 := x2m BK312.out 2))
   refine bodyPost_ret (results_cell_row rfl _ _ gb312 30 #[.int .i64 0, .int .i64 0, .slice none 0 0] (0, 0) _ rfl (by (with_reducible repeat (first | refine z1m ?_ _ | refine z3m ?_ | refine z2m ?_ _)); refine blk_put (cs := #[.int .i64 0, .int .i64 0, .slice none 0 0]) ?_ 2 _ rfl; (with_reducible repeat (first | refine z1m ?_ _ | refine z3m ?_ | refine z2m ?_ _)); refine blk_put (cs := #[.int .i64 0, .int .i64 0, .slice none 0 0]) ?_ 1 _ rfl; (with_reducible repeat (first | refine z1m ?_ _ | refine z3m ?_ | refine z2m ?_ _)); refine blk_put (cs := #[.int .i64 0, .int .i64 0, .slice none 0 0]) ?_ 0 _ rfl; (with_reducible repeat (first | refine z1m ?_ _ | refine z3m ?_ | refine z2m ?_ _)); exact BK312.out) Try.underlying30 rfl (by kernel_rfl)) rfl ?_
   exact ⟨_, by first | rfl | (simp [errW_none, errW_some] <;> rfl) | (simp [*, errW_none, errW_some] <;> rfl), by first | exact Kd.R_nil _ _ _ _ _ | exact Kd.N_nil _ _ _ _ _ | exact Kd.V_nil _ _ _ _ _ | exact Kd.Q_nil _ _ _ _ _ | exact Kd.S_nil _ _ _ _ _, by repeat (first | (with_reducible first | exact HB.out | apply z4m | apply z5m | apply z6m | refine z7m ?_ GE310.out | refine z7m ?_ GE311.out | refine z7m ?_ GE312.out) | exact HB.out)⟩
  ·rw [if_neg c5] at H
   have c5b0 : decide (a1 < 0) = false := decide_eq_false c5
   clear c5
   by_cases c16 : a1 > (l0_2.length : Int)
   ·rw [if_pos c16] at H
    have c16b0 : decide ((l0_2.length : Int) < a1) = true := decide_eq_true c16
    clear c16
    simp only [Option.some.injEq, Prod.mk.injEq] at H
    obtain ⟨rfl, rfl, rfl⟩ := H
    go_enter Try.func18, Try.ntmps18
    go_wp2_with (first | ((with_reducible refine gate_dst (N := 2) rfl ?_); (try (refine gate_guard (by rfl) ?_; dsimp only)); refine box_event ?hg (N := 2) ?hd (cs := #[.int .i64 a0_0, .int .i64 a0_1, .slice A0_2 l0_2.length c0_2]) (t := 37) ?hr ?_; (case hd => rfl); (case hg => rfl); (case hr => first | (go_simp; done) | (go_simp; rfl)); intro gb310 hg w17 hbox hb; have n0_ := z0m (y6m (by repeat (first | (with_reducible first | exact HB.out | apply z4m | apply z5m | apply z6m) | exact HB.out)) hb); have n1_ := z0m (hbox); have n2_ := z0m ((by rw [hg]; exact (y7m (by repeat (first | (with_reducible first | exact HB.out | apply z4m | apply z5m | apply z6m) | exact HB.out))) : w.heap.size ≤ gb310)); have n3_ := z0m ((by rw [hg]; exact (y7m (by repeat (first | (with_reducible first | exact HB.out | apply z4m | apply z5m | apply z6m) | exact HB.out))) : w.heap.size ≤ gb310)); clear HB; have HB := n0_; have BK310 := n1_; have GW310 := n2_; have GE310 := n3_; clear n0_ n1_ n2_ n3_; clear hb hbox hg) | ((with_reducible refine gate_dst (N := 3) rfl ?_); (try (refine gate_guard (by rfl) ?_; dsimp only)); refine box_event ?hg (N := 3) ?hd (cs := #[.int .i64 a1]) (t := 3) ?hr ?_; (case hd => rfl); (case hg => rfl); (case hr => first | (go_simp; done) | (go_simp; rfl)); intro gb311 hg w18 hbox hb; have n0_ := z0m (y5m (g := gb310) (o := .cells #[.int .i64 a0_0, .int .i64 a0_1, .slice A0_2 l0_2.length c0_2] 37 (0, 0)) (by (with_reducible repeat (first | refine z1m ?_ _ | refine z3m ?_ | refine z2m ?_ _)); exact BK310.out) hb); have n1_ := z0m (y6m (by repeat (first | (with_reducible first | exact HB.out | apply z4m | apply z5m | apply z6m | refine z7m ?_ GE310.out) | exact HB.out)) hb); have n2_ := z0m (hbox); have n3_ := z0m ((by rw [hg]; exact (y7m (by repeat (first | (with_reducible first | exact HB.out | apply z4m | apply z5m | apply z6m | refine z7m ?_ GE310.out) | exact HB.out))) : w.heap.size ≤ gb311)); have n4_ := z0m ((by rw [hg]; exact (y7m (by repeat (first | (with_reducible first | exact HB.out | apply z4m | apply z5m | apply z6m | refine z7m ?_ GE310.out) | exact HB.out))) : w.heap.size ≤ gb311)); have n5_ := z0m ((by rw [hg]; exact Nat.ne_of_lt (blk_lt (g := gb310) (o := .cells #[.int .i64 a0_0, .int .i64 a0_1, .slice A0_2 l0_2.length c0_2] 37 (0, 0)) (by (with_reducible repeat (first | refine z1m ?_ _ | refine z3m ?_ | refine z2m ?_ _)); exact BK310.out)) : gb310 ≠ gb311)); have n6_ := z0m ((by rw [hg]; exact Nat.ne_of_gt (blk_lt (g := gb310) (o := .cells #[.int .i64 a0_0, .int .i64 a0_1, .slice A0_2 l0_2.length c0_2] 37 (0, 0)) (by (with_reducible repeat (first | refine z1m ?_ _ | refine z3m ?_ | refine z2m ?_ _)); exact BK310.out)) : gb311 ≠ gb310)); clear BK310; clear HB; have BK310 := n0_; have HB := n1_; have BK311 := n2_; have GW311 := n3_; have GE311 := n4_; have NB310_311 := n5_; have NB311_310 := n6_; clear n0_ n1_ n2_ n3_ n4_ n5_ n6_; clear hb hbox hg) | ((with_reducible refine gate_dst (N := 4) rfl ?_); (try (refine gate_guard (by rfl) ?_; dsimp only)); refine box_event ?hg (N := 4) ?hd (cs := #[.int .i64 0, .int .i64 0, .slice none 0 0]) (t := 30) ?hr ?_; (case hd => rfl); (case hg => rfl); (case hr => first | (go_simp; done) | (go_simp; rfl)); intro gb312 hg w19 hbox hb; have n0_ := z0m (y5m (g := gb310) (o := .cells #[.int .i64 a0_0, .int .i64 a0_1, .slice A0_2 l0_2.length c0_2] 37 (0, 0)) (by (with_reducible repeat (first | refine z1m ?_ _ | refine z3m ?_ | refine z2m ?_ _)); exact BK310.out) hb); have n1_ := z0m (y5m (g := gb311) (o := .cells #[.int .i64 a1] 3 (0, 0)) (by (with_reducible repeat (first | refine z1m ?_ _ | refine z3m ?_ | refine z2m ?_ _)); exact BK311.out) hb); have n2_ := z0m (y6m (by repeat (first | (with_reducible first | exact HB.out | apply z4m | apply z5m | apply z6m | refine z7m ?_ GE310.out | refine z7m ?_ GE311.out) | exact HB.out)) hb); have n3_ := z0m (hbox); have n4_ := z0m ((by rw [hg]; exact (y7m (by repeat (first | (with_reducible first | exact HB.out | apply z4m | apply z5m | apply z6m | refine z7m ?_ GE310.out | refine z7m ?_ GE311.out) | exact HB.out))) : w.heap.size ≤ gb312)); have n5_ := z0m ((by rw [hg]; exact (y7m (by repeat (first | (with_reducible first | exact HB.out | apply z4m | apply z5m | apply z6m | refine z7m ?_ GE310.out | refine z7m ?_ GE311.out) | exact HB.out))) : w.heap.size ≤ gb312)); have n6_ := z0m ((by rw [hg]; exact Nat.ne_of_lt (blk_lt (g := gb310) (o := .cells #[.int .i64 a0_0, .int .i64 a0_1, .slice A0_2 l0_2.length c0_2] 37 (0, 0)) (by (with_reducible repeat (first | refine z1m ?_ _ | refine z3m ?_ | refine z2m ?_ _)); exact BK310.out)) : gb310 ≠ gb312)); have n7_ := z0m ((by rw [hg]; exact Nat.ne_of_gt (blk_lt (g := gb310) (o := .cells #[.int .i64 a0_0, .int .i64 a0_1, .slice A0_2 l0_2.length c0_2] 37 (0, 0)) (by (with_reducible repeat (first | refine z1m ?_ _ | refine z3m ?_ | refine z2m ?_ _)); exact BK310.out)) : gb312 ≠ gb310)); have n8_ := z0m ((by rw [hg]; exact Nat.ne_of_lt (blk_lt (g := gb311) (o := .cells #[.int .i64 a1] 3 (0, 0)) (by (with_reducible repeat (first | refine z1m ?_ _ | refine z3m ?_ | refine z2m ?_ _)); exact BK311.out)) : gb311 ≠ gb312)); have n9_ := z0m ((by rw [hg]; exact Nat.ne_of_gt (blk_lt (g := gb311) (o := .cells #[.int .i64 a1] 3 (0, 0)) (by (with_reducible repeat (first | refine z1m ?_ _ | refine z3m ?_ | refine z2m ?_ _)); exact BK311.out)) : gb312 ≠ gb311)); clear BK310; clear BK311; clear HB; have BK310 := n0_; have BK311 := n1_; have HB := n2_; have BK312 := n3_; have GW312 := n4_; have GE312 := n5_; have NB310_312 := n6_; have NB312_310 := n7_; have NB311_312 := n8_; have NB312_311 := n9_; clear n0_ n1_ n2_ n3_ n4_ n5_ n6_ n7_ n8_ n9_; clear hb hbox hg; have hnb20 := NB310_311.out; have hnc20 := NB311_310.out; have hnb21 := NB310_312.out; have hnc21 := NB312_310.out; have hcz22_0 : w19.cell? ⟨gb310, 0, none⟩ = some (.int .i64 a0_0) := (x3m BK310.out 0).trans rfl; have hcz22_1 : w19.cell? ⟨gb310, 1, none⟩ = some (.int .i64 a0_1) := (x3m BK310.out 1).trans rfl; have hcz22_2 : w19.cell? ⟨gb310, 2, none⟩ = some (.slice A0_2 l0_2.length c0_2) := (x3m BK310.out 2).trans rfl; have hfz22_0 := x2m BK310.out 0; have hfz22_1 := x2m BK310.out 1; have hfz22_2 := x2m BK310.out 2) | ((with_reducible refine gate_callee (f := 16) rfl ?_); refine goesL_ (some 6) rfl rfl Try.func16 (by kernel_rfl) rfl #[.agg #[.int .i64 a0_0, .int .i64 a0_1, .slice A0_2 l0_2.length c0_2]] rfl (by (try simp only [List.map_toArray, List.map_cons, List.map_nil]); first | done | rfl | (simp only [List.length_drop, List.length_take]; rfl)) ?_; (with_reducible refine (impl_IsMatrix.calls a0_0 a0_1 _ _ l0_2 true _ ?side1 ?side2 A3.out).mono ?_); (case side1 => repeat (first | exact HR0_2.out | exact (y9m HR0_2.out HB.out) | (with_reducible refine y2m ?_ _) | (with_reducible refine y3m ?_ _) | (with_reducible refine y4m ?_))); (case side2 => exact HC0_2.out); rintro e w23 ⟨rfl, hb⟩; refine ⟨_, rfl, ?_⟩; have n0_ := z0m (y5m (g := gb310) (o := .cells #[.int .i64 a0_0, .int .i64 a0_1, .slice A0_2 l0_2.length c0_2] 37 (0, 0)) (by (with_reducible repeat (first | refine z1m ?_ _ | refine z3m ?_ | refine z2m ?_ _)); exact BK310.out) hb); have n1_ := z0m (y5m (g := gb311) (o := .cells #[.int .i64 a1] 3 (0, 0)) (by (with_reducible repeat (first | refine z1m ?_ _ | refine z3m ?_ | refine z2m ?_ _)); exact BK311.out) hb); have n2_ := z0m (y5m (g := gb312) (o := .cells #[.int .i64 0, .int .i64 0, .slice none 0 0] 30 (0, 0)) (by (with_reducible repeat (first | refine z1m ?_ _ | refine z3m ?_ | refine z2m ?_ _)); exact BK312.out) hb); have n3_ := z0m (y6m (by repeat (first | (with_reducible first | exact HB.out | apply z4m | apply z5m | apply z6m | refine z7m ?_ GE310.out | refine z7m ?_ GE311.out | refine z7m ?_ GE312.out) | exact HB.out)) hb); clear BK310; clear BK311; clear BK312; clear HB; have BK310 := n0_; have BK311 := n1_; have BK312 := n2_; have HB := n3_; clear n0_ n1_ n2_ n3_; (try clear hb); have hnb24 := NB311_312.out; have hnc24 := NB312_311.out; have hcz25_0 : w23.cell? ⟨gb311, 0, none⟩ = some (.int .i64 a1) := (x3m BK311.out 0).trans rfl; have hfz25_0 := x2m BK311.out 0; have hcz26_0 : w23.cell? ⟨gb310, 0, none⟩ = some (.int .i64 a0_0) := (x3m BK310.out 0).trans rfl; have hcz26_1 : w23.cell? ⟨gb310, 1, none⟩ = some (.int .i64 a0_1) := (x3m BK310.out 1).trans rfl; have hcz26_2 : w23.cell? ⟨gb310, 2, none⟩ = some (.slice A0_2 l0_2.length c0_2) := (x3m BK310.out 2).trans rfl; have hfz26_0 := x2m BK310.out 0; have hfz26_1 := x2m BK310.out 1; have hfz26_2 := x2m BK310.out 2; have hcz27_0 : w23.cell? ⟨gb312, 0, none⟩ = some (.int .i64 0) := (x3m BK312.out 0).trans rfl; have hcz27_1 : w23.cell? ⟨gb312, 1, none⟩ = some (.int .i64 0) := (x3m BK312.out 1).trans rfl; have hcz27_2 : w23.cell? ⟨gb312, 2, none⟩ = some (.slice none 0 0) := (x3m BK312.out 2).trans rfl; have hfz27_0 := x2m BK312.out 0; have hfz27_1 := x2m BK312.out 1; have hfz27_2 := x2m BK312.out 2))
    refine bodyPost_ret (results_cell_row rfl _ _ gb312 30 #[.int .i64 0, .int .i64 0, .slice none 0 0] (0, 0) _ rfl (by (with_reducible repeat (first | refine z1m ?_ _ | refine z3m ?_ | refine z2m ?_ _)); refine blk_put (cs := #[.int .i64 0, .int .i64 0, .slice none 0 0]) ?_ 2 _ rfl; (with_reducible repeat (first | refine z1m ?_ _ | refine z3m ?_ | refine z2m ?_ _)); refine blk_put (cs := #[.int .i64 0, .int .i64 0, .slice none 0 0]) ?_ 1 _ rfl; (with_reducible repeat (first | refine z1m ?_ _ | refine z3m ?_ | refine z2m ?_ _)); refine blk_put (cs := #[.int .i64 0, .int .i64 0, .slice none 0 0]) ?_ 0 _ rfl; (with_reducible repeat (first | refine z1m ?_ _ | refine z3m ?_ | refine z2m ?_ _)); exact BK312.out) Try.underlying30 rfl (by kernel_rfl)) rfl ?_
    exact ⟨_, by first | rfl | (simp [errW_none, errW_some] <;> rfl) | (simp [*, errW_none, errW_some] <;> rfl), by first | exact Kd.R_nil _ _ _ _ _ | exact Kd.N_nil _ _ _ _ _ | exact Kd.V_nil _ _ _ _ _ | exact Kd.Q_nil _ _ _ _ _ | exact Kd.S_nil _ _ _ _ _, by repeat (first | (with_reducible first | exact HB.out | apply z4m | apply z5m | apply z6m | refine z7m ?_ GE310.out | refine z7m ?_ GE311.out | refine z7m ?_ GE312.out) | exact HB.out)⟩
   ·rw [if_neg c16] at H
    have c16b0 : decide ((l0_2.length : Int) < a1) = false := decide_eq_false c16
    clear c16
    replace H := Option.bind_eq_some_iff.mp H
    obtain ⟨t314, A280, H⟩ := H
    replace H : (if t314 = true then ((impl_CellsBelow_1.drawn.f a0_0 a0_1 a0_0 a0_1 l0_2 a1).bind fun bt315 => (some (bt315.1, bt315.2.1, bt315.2.2))) else (some (0, 0, ([] : List Int)))) = some (r1, r2, r3) := H
    have A28 := z0m A280
    clear A280
    by_cases c29 : t314 = true
    ·subst c29
     have H1 : ((impl_CellsBelow_1.drawn.f a0_0 a0_1 a0_0 a0_1 l0_2 a1).bind fun bt315 => (some (bt315.1, bt315.2.1, bt315.2.2))) = some (r1, r2, r3) := by rw [if_pos rfl] at H; first | exact H | (simp only [if_true] at H ⊢; exact H)
     clear H
     have H := H1
     clear H1
     replace H := Option.bind_eq_some_iff.mp H
     obtain ⟨⟨t315, t316, t317⟩, A300, H⟩ := H
     replace H : (some (t315, t316, t317)) = some (r1, r2, r3) := H
     have A30 := z0m A300
     clear A300
     simp only [Option.some.injEq, Prod.mk.injEq] at H
     obtain ⟨rfl, rfl, rfl⟩ := H
     go_enter Try.func18, Try.ntmps18
     go_wp2_with (first | ((with_reducible refine gate_dst (N := 2) rfl ?_); (try (refine gate_guard (by rfl) ?_; dsimp only)); refine box_event ?hg (N := 2) ?hd (cs := #[.int .i64 a0_0, .int .i64 a0_1, .slice A0_2 l0_2.length c0_2]) (t := 37) ?hr ?_; (case hd => rfl); (case hg => rfl); (case hr => first | (go_simp; done) | (go_simp; rfl)); intro gb310 hg w31 hbox hb; have n0_ := z0m (y6m (by repeat (first | (with_reducible first | exact HB.out | apply z4m | apply z5m | apply z6m) | exact HB.out)) hb); have n1_ := z0m (hbox); have n2_ := z0m ((by rw [hg]; exact (y7m (by repeat (first | (with_reducible first | exact HB.out | apply z4m | apply z5m | apply z6m) | exact HB.out))) : w.heap.size ≤ gb310)); have n3_ := z0m ((by rw [hg]; exact (y7m (by repeat (first | (with_reducible first | exact HB.out | apply z4m | apply z5m | apply z6m) | exact HB.out))) : w.heap.size ≤ gb310)); clear HB; have HB := n0_; have BK310 := n1_; have GW310 := n2_; have GE310 := n3_; clear n0_ n1_ n2_ n3_; clear hb hbox hg) | ((with_reducible refine gate_dst (N := 3) rfl ?_); (try (refine gate_guard (by rfl) ?_; dsimp only)); refine box_event ?hg (N := 3) ?hd (cs := #[.int .i64 a1]) (t := 3) ?hr ?_; (case hd => rfl); (case hg => rfl); (case hr => first | (go_simp; done) | (go_simp; rfl)); intro gb311 hg w32 hbox hb; have n0_ := z0m (y5m (g := gb310) (o := .cells #[.int .i64 a0_0, .int .i64 a0_1, .slice A0_2 l0_2.length c0_2] 37 (0, 0)) (by (with_reducible repeat (first | refine z1m ?_ _ | refine z3m ?_ | refine z2m ?_ _)); exact BK310.out) hb); have n1_ := z0m (y6m (by repeat (first | (with_reducible first | exact HB.out | apply z4m | apply z5m | apply z6m | refine z7m ?_ GE310.out) | exact HB.out)) hb); have n2_ := z0m (hbox); have n3_ := z0m ((by rw [hg]; exact (y7m (by repeat (first | (with_reducible first | exact HB.out | apply z4m | apply z5m | apply z6m | refine z7m ?_ GE310.out) | exact HB.out))) : w.heap.size ≤ gb311)); have n4_ := z0m ((by rw [hg]; exact (y7m (by repeat (first | (with_reducible first | exact HB.out | apply z4m | apply z5m | apply z6m | refine z7m ?_ GE310.out) | exact HB.out))) : w.heap.size ≤ gb311)); have n5_ := z0m ((by rw [hg]; exact Nat.ne_of_lt (blk_lt (g := gb310) (o := .cells #[.int .i64 a0_0, .int .i64 a0_1, .slice A0_2 l0_2.length c0_2] 37 (0, 0)) (by (with_reducible repeat (first | refine z1m ?_ _ | refine z3m ?_ | refine z2m ?_ _)); exact BK310.out)) : gb310 ≠ gb311)); have n6_ := z0m ((by rw [hg]; exact Nat.ne_of_gt (blk_lt (g := gb310) (o := .cells #[.int .i64 a0_0, .int .i64 a0_1, .slice A0_2 l0_2.length c0_2] 37 (0, 0)) (by (with_reducible repeat (first | refine z1m ?_ _ | refine z3m ?_ | refine z2m ?_ _)); exact BK310.out)) : gb311 ≠ gb310)); clear BK310; clear HB; have BK310 := n0_; have HB := n1_; have BK311 := n2_; have GW311 := n3_; have GE311 := n4_; have NB310_311 := n5_; have NB311_310 := n6_; clear n0_ n1_ n2_ n3_ n4_ n5_ n6_; clear hb hbox hg) | ((with_reducible refine gate_dst (N := 4) rfl ?_); (try (refine gate_guard (by rfl) ?_; dsimp only)); refine box_event ?hg (N := 4) ?hd (cs := #[.int .i64 0, .int .i64 0, .slice none 0 0]) (t := 30) ?hr ?_; (case hd => rfl); (case hg => rfl); (case hr => first | (go_simp; done) | (go_simp; rfl)); intro gb312 hg w33 hbox hb; have n0_ := z0m (y5m (g := gb310) (o := .cells #[.int .i64 a0_0, .int .i64 a0_1, .slice A0_2 l0_2.length c0_2] 37 (0, 0)) (by (with_reducible repeat (first | refine z1m ?_ _ | refine z3m ?_ | refine z2m ?_ _)); exact BK310.out) hb); have n1_ := z0m (y5m (g := gb311) (o := .cells #[.int .i64 a1] 3 (0, 0)) (by (with_reducible repeat (first | refine z1m ?_ _ | refine z3m ?_ | refine z2m ?_ _)); exact BK311.out) hb); have n2_ := z0m (y6m (by repeat (first | (with_reducible first | exact HB.out | apply z4m | apply z5m | apply z6m | refine z7m ?_ GE310.out | refine z7m ?_ GE311.out) | exact HB.out)) hb); have n3_ := z0m (hbox); have n4_ := z0m ((by rw [hg]; exact (y7m (by repeat (first | (with_reducible first | exact HB.out | apply z4m | apply z5m | apply z6m | refine z7m ?_ GE310.out | refine z7m ?_ GE311.out) | exact HB.out))) : w.heap.size ≤ gb312)); have n5_ := z0m ((by rw [hg]; exact (y7m (by repeat (first | (with_reducible first | exact HB.out | apply z4m | apply z5m | apply z6m | refine z7m ?_ GE310.out | refine z7m ?_ GE311.out) | exact HB.out))) : w.heap.size ≤ gb312)); have n6_ := z0m ((by rw [hg]; exact Nat.ne_of_lt (blk_lt (g := gb310) (o := .cells #[.int .i64 a0_0, .int .i64 a0_1, .slice A0_2 l0_2.length c0_2] 37 (0, 0)) (by (with_reducible repeat (first | refine z1m ?_ _ | refine z3m ?_ | refine z2m ?_ _)); exact BK310.out)) : gb310 ≠ gb312)); have n7_ := z0m ((by rw [hg]; exact Nat.ne_of_gt (blk_lt (g := gb310) (o := .cells #[.int .i64 a0_0, .int .i64 a0_1, .slice A0_2 l0_2.length c0_2] 37 (0, 0)) (by (with_reducible repeat (first | refine z1m ?_ _ | refine z3m ?_ | refine z2m ?_ _)); exact BK310.out)) : gb312 ≠ gb310)); have n8_ := z0m ((by rw [hg]; exact Nat.ne_of_lt (blk_lt (g := gb311) (o := .cells #[.int .i64 a1] 3 (0, 0)) (by (with_reducible repeat (first | refine z1m ?_ _ | refine z3m ?_ | refine z2m ?_ _)); exact BK311.out)) : gb311 ≠ gb312)); have n9_ := z0m ((by rw [hg]; exact Nat.ne_of_gt (blk_lt (g := gb311) (o := .cells #[.int .i64 a1] 3 (0, 0)) (by (with_reducible repeat (first | refine z1m ?_ _ | refine z3m ?_ | refine z2m ?_ _)); exact BK311.out)) : gb312 ≠ gb311)); clear BK310; clear BK311; clear HB; have BK310 := n0_; have BK311 := n1_; have HB := n2_; have BK312 := n3_; have GW312 := n4_; have GE312 := n5_; have NB310_312 := n6_; have NB312_310 := n7_; have NB311_312 := n8_; have NB312_311 := n9_; clear n0_ n1_ n2_ n3_ n4_ n5_ n6_ n7_ n8_ n9_; clear hb hbox hg; have hnb34 := NB310_311.out; have hnc34 := NB311_310.out; have hnb35 := NB310_312.out; have hnc35 := NB312_310.out; have hcz36_0 : w33.cell? ⟨gb310, 0, none⟩ = some (.int .i64 a0_0) := (x3m BK310.out 0).trans rfl; have hcz36_1 : w33.cell? ⟨gb310, 1, none⟩ = some (.int .i64 a0_1) := (x3m BK310.out 1).trans rfl; have hcz36_2 : w33.cell? ⟨gb310, 2, none⟩ = some (.slice A0_2 l0_2.length c0_2) := (x3m BK310.out 2).trans rfl; have hfz36_0 := x2m BK310.out 0; have hfz36_1 := x2m BK310.out 1; have hfz36_2 := x2m BK310.out 2) | ((with_reducible refine gate_callee (f := 16) rfl ?_); refine goesL_ (some 6) rfl rfl Try.func16 (by kernel_rfl) rfl #[.agg #[.int .i64 a0_0, .int .i64 a0_1, .slice A0_2 l0_2.length c0_2]] rfl (by (try simp only [List.map_toArray, List.map_cons, List.map_nil]); first | done | rfl | (simp only [List.length_drop, List.length_take]; rfl)) ?_; (with_reducible refine (impl_IsMatrix.calls a0_0 a0_1 _ _ l0_2 true _ ?side1 ?side2 A3.out).mono ?_); (case side1 => repeat (first | exact HR0_2.out | exact (y9m HR0_2.out HB.out) | (with_reducible refine y2m ?_ _) | (with_reducible refine y3m ?_ _) | (with_reducible refine y4m ?_))); (case side2 => exact HC0_2.out); rintro e w37 ⟨rfl, hb⟩; refine ⟨_, rfl, ?_⟩; have n0_ := z0m (y5m (g := gb310) (o := .cells #[.int .i64 a0_0, .int .i64 a0_1, .slice A0_2 l0_2.length c0_2] 37 (0, 0)) (by (with_reducible repeat (first | refine z1m ?_ _ | refine z3m ?_ | refine z2m ?_ _)); exact BK310.out) hb); have n1_ := z0m (y5m (g := gb311) (o := .cells #[.int .i64 a1] 3 (0, 0)) (by (with_reducible repeat (first | refine z1m ?_ _ | refine z3m ?_ | refine z2m ?_ _)); exact BK311.out) hb); have n2_ := z0m (y5m (g := gb312) (o := .cells #[.int .i64 0, .int .i64 0, .slice none 0 0] 30 (0, 0)) (by (with_reducible repeat (first | refine z1m ?_ _ | refine z3m ?_ | refine z2m ?_ _)); exact BK312.out) hb); have n3_ := z0m (y6m (by repeat (first | (with_reducible first | exact HB.out | apply z4m | apply z5m | apply z6m | refine z7m ?_ GE310.out | refine z7m ?_ GE311.out | refine z7m ?_ GE312.out) | exact HB.out)) hb); clear BK310; clear BK311; clear BK312; clear HB; have BK310 := n0_; have BK311 := n1_; have BK312 := n2_; have HB := n3_; clear n0_ n1_ n2_ n3_; (try clear hb); have hnb38 := NB311_312.out; have hnc38 := NB312_311.out; have hcz39_0 : w37.cell? ⟨gb311, 0, none⟩ = some (.int .i64 a1) := (x3m BK311.out 0).trans rfl; have hfz39_0 := x2m BK311.out 0; have hcz40_0 : w37.cell? ⟨gb310, 0, none⟩ = some (.int .i64 a0_0) := (x3m BK310.out 0).trans rfl; have hcz40_1 : w37.cell? ⟨gb310, 1, none⟩ = some (.int .i64 a0_1) := (x3m BK310.out 1).trans rfl; have hcz40_2 : w37.cell? ⟨gb310, 2, none⟩ = some (.slice A0_2 l0_2.length c0_2) := (x3m BK310.out 2).trans rfl; have hfz40_0 := x2m BK310.out 0; have hfz40_1 := x2m BK310.out 1; have hfz40_2 := x2m BK310.out 2) | (go_at_call 40; (with_reducible refine (impl_sized.calls a0_0 a0_1 true _ A28.out).mono ?_); rintro e w' ⟨rfl, ⟨nd, rfl⟩⟩; (try (rw [drewN_self w37]; generalize hq_ : World.drewN w37 _ = w37; have n0_ : Aside0 (w37.heap[gb310]? = some (.cells #[.int .i64 a0_0, .int .i64 a0_1, .slice A0_2 l0_2.length c0_2] 37 (0, 0))) := ⟨by rw [← hq_]; exact (by (with_reducible repeat (first | refine z1m ?_ _ | refine z3m ?_ | refine z2m ?_ _)); exact BK310.out)⟩; have n1_ : Aside0 (w37.heap[gb311]? = some (.cells #[.int .i64 a1] 3 (0, 0))) := ⟨by rw [← hq_]; exact (by (with_reducible repeat (first | refine z1m ?_ _ | refine z3m ?_ | refine z2m ?_ _)); exact BK311.out)⟩; have n2_ : Aside0 (w37.heap[gb312]? = some (.cells #[.int .i64 0, .int .i64 0, .slice none 0 0] 30 (0, 0))) := ⟨by rw [← hq_]; exact (by (with_reducible repeat (first | refine z1m ?_ _ | refine z3m ?_ | refine z2m ?_ _)); exact BK312.out)⟩; have n3_ : Aside0 (Below w.heap.size w w37) := ⟨by rw [← hq_]; exact (by repeat (first | (with_reducible first | exact HB.out | apply z4m | apply z5m | apply z6m | refine z7m ?_ GE310.out | refine z7m ?_ GE311.out | refine z7m ?_ GE312.out) | exact HB.out))⟩; clear BK310 BK311 BK312 HB hq_; have BK310 := n0_; have BK311 := n1_; have BK312 := n2_; have HB := n3_; clear n0_ n1_ n2_ n3_)); have hcz41_0 : w37.cell? ⟨gb310, 0, none⟩ = some (.int .i64 a0_0) := (x3m BK310.out 0).trans rfl; have hcz41_1 : w37.cell? ⟨gb310, 1, none⟩ = some (.int .i64 a0_1) := (x3m BK310.out 1).trans rfl; have hcz41_2 : w37.cell? ⟨gb310, 2, none⟩ = some (.slice A0_2 l0_2.length c0_2) := (x3m BK310.out 2).trans rfl; have hfz41_0 := x2m BK310.out 0; have hfz41_1 := x2m BK310.out 1; have hfz41_2 := x2m BK310.out 2) | ((with_reducible refine gate_callee (f := 41) rfl ?_); refine goesL_ (some 33) rfl rfl Try.func41 (by kernel_rfl) rfl #[.int .i64 a0_0, .int .i64 a0_1, .func (.func 52) #[] #[.pointer (some ⟨gb310, 0, none⟩), .pointer (some ⟨gb311, 0, none⟩)]] rfl (by (try simp only [List.map_toArray, List.map_cons, List.map_nil]); first | done | rfl | (simp only [List.length_drop, List.length_take]; rfl)) ?_; (with_reducible refine (impl_CellsBelow_1.drawn.calls a0_0 a0_1 a0_0 a0_1 A0_2 c0_2 l0_2 a1 t315 t316 t317 _ ?side1 ?side2 ?side3 ?side4 A30.out).mono ?_); (case side1 => repeat (first | exact HR0_2.out | exact (y9m HR0_2.out HB.out) | (with_reducible refine y2m ?_ _) | (with_reducible refine y3m ?_ _) | (with_reducible refine y4m ?_))); (case side2 => exact HC0_2.out); (case side3 => exact by (with_reducible repeat (first | refine z1m ?_ _ | refine z3m ?_ | refine z2m ?_ _)); exact BK310.out); (case side4 => exact by (with_reducible repeat (first | refine z1m ?_ _ | refine z3m ?_ | refine z2m ?_ _)); exact BK311.out); rintro e w42 ⟨v318, rfl, ho0, hb⟩; refine ⟨_, rfl, ?_⟩; have n0_ := z0m (Kd.R_lower (Kd.R_newB ho0 (g := gb311) (o := .cells #[.int .i64 a1] 3 (0, 0)) (by (with_reducible repeat (first | refine z1m ?_ _ | refine z3m ?_ | refine z2m ?_ _)); exact BK311.out)) (y7m (by repeat (first | (with_reducible first | exact HB.out | apply z4m | apply z5m | apply z6m | refine z7m ?_ GE310.out | refine z7m ?_ GE311.out | refine z7m ?_ GE312.out) | exact HB.out)))); have n1_ := z0m (y5m (g := gb310) (o := .cells #[.int .i64 a0_0, .int .i64 a0_1, .slice A0_2 l0_2.length c0_2] 37 (0, 0)) (by (with_reducible repeat (first | refine z1m ?_ _ | refine z3m ?_ | refine z2m ?_ _)); exact BK310.out) hb); have n2_ := z0m (y5m (g := gb311) (o := .cells #[.int .i64 a1] 3 (0, 0)) (by (with_reducible repeat (first | refine z1m ?_ _ | refine z3m ?_ | refine z2m ?_ _)); exact BK311.out) hb); have n3_ := z0m (y5m (g := gb312) (o := .cells #[.int .i64 0, .int .i64 0, .slice none 0 0] 30 (0, 0)) (by (with_reducible repeat (first | refine z1m ?_ _ | refine z3m ?_ | refine z2m ?_ _)); exact BK312.out) hb); have n4_ := z0m (y6m (by repeat (first | (with_reducible first | exact HB.out | apply z4m | apply z5m | apply z6m | refine z7m ?_ GE310.out | refine z7m ?_ GE311.out | refine z7m ?_ GE312.out) | exact HB.out)) hb); clear BK310; clear BK311; clear BK312; clear HB; have HO319 := n0_; have BK310 := n1_; have BK311 := n2_; have BK312 := n3_; have HB := n4_; clear n0_ n1_ n2_ n3_ n4_; (try clear hb); (try clear ho0); have hcz43_0 : w42.cell? ⟨gb312, 0, none⟩ = some (.int .i64 0) := (x3m BK312.out 0).trans rfl; have hcz43_1 : w42.cell? ⟨gb312, 1, none⟩ = some (.int .i64 0) := (x3m BK312.out 1).trans rfl; have hcz43_2 : w42.cell? ⟨gb312, 2, none⟩ = some (.slice none 0 0) := (x3m BK312.out 2).trans rfl; have hfz43_0 := x2m BK312.out 0; have hfz43_1 := x2m BK312.out 1; have hfz43_2 := x2m BK312.out 2; obtain ⟨Ao44, co44, eo44⟩ := Kd.R_slice HO319.out; subst eo44))
     refine bodyPost_ret (results_cell_row rfl _ _ gb312 30 #[.int .i64 t315, .int .i64 t316, .slice Ao44 t317.length co44] (0, 0) _ rfl (by (with_reducible repeat (first | refine z1m ?_ _ | refine z3m ?_ | refine z2m ?_ _)); refine blk_put (cs := #[.int .i64 t315, .int .i64 t316, .slice none 0 0]) ?_ 2 _ rfl; (with_reducible repeat (first | refine z1m ?_ _ | refine z3m ?_ | refine z2m ?_ _)); refine blk_put (cs := #[.int .i64 t315, .int .i64 0, .slice none 0 0]) ?_ 1 _ rfl; (with_reducible repeat (first | refine z1m ?_ _ | refine z3m ?_ | refine z2m ?_ _)); refine blk_put (cs := #[.int .i64 0, .int .i64 0, .slice none 0 0]) ?_ 0 _ rfl; (with_reducible repeat (first | refine z1m ?_ _ | refine z3m ?_ | refine z2m ?_ _)); exact BK312.out) Try.underlying30 rfl (by kernel_rfl)) rfl ?_
     exact ⟨_, by first | rfl | (simp [errW_none, errW_some] <;> rfl) | (simp [*, errW_none, errW_some] <;> rfl), by (with_reducible repeat (first | apply Kd.R_alloc | apply Kd.R_drewN | apply Kd.R_drew)); exact Kd.R_mono (Kd.R_far (p := ⟨gb312, 2, none⟩) (Kd.R_far (p := ⟨gb312, 1, none⟩) (Kd.R_far (p := ⟨gb312, 0, none⟩) (Kd.R_types HO319.out BK312.out (by decide)) (fun _ hk => hk.2) (.int .i64 t315)) (fun _ hk => hk.2) (.int .i64 t316)) (fun _ hk => hk.2) (.slice Ao44 t317.length co44)) (fun _ hk => trivial), by repeat (first | (with_reducible first | exact HB.out | apply z4m | apply z5m | apply z6m | refine z7m ?_ GE310.out | refine z7m ?_ GE311.out | refine z7m ?_ GE312.out) | exact HB.out)⟩
    ·replace c29 := Bool.eq_false_iff.mpr c29
     subst c29
     have H1 : (some (0, 0, ([] : List Int))) = some (r1, r2, r3) := by rw [if_neg (show ¬ (false = true) by decide)] at H; first | exact H | (simp only [if_true] at H ⊢; exact H)
     clear H
     have H := H1
     clear H1
     simp only [Option.some.injEq, Prod.mk.injEq] at H
     obtain ⟨rfl, rfl, rfl⟩ := H
     go_enter Try.func18, Try.ntmps18
     go_wp2_with (first | ((with_reducible refine gate_dst (N := 2) rfl ?_); (try (refine gate_guard (by rfl) ?_; dsimp only)); refine box_event ?hg (N := 2) ?hd (cs := #[.int .i64 a0_0, .int .i64 a0_1, .slice A0_2 l0_2.length c0_2]) (t := 37) ?hr ?_; (case hd => rfl); (case hg => rfl); (case hr => first | (go_simp; done) | (go_simp; rfl)); intro gb310 hg w45 hbox hb; have n0_ := z0m (y6m (by repeat (first | (with_reducible first | exact HB.out | apply z4m | apply z5m | apply z6m) | exact HB.out)) hb); have n1_ := z0m (hbox); have n2_ := z0m ((by rw [hg]; exact (y7m (by repeat (first | (with_reducible first | exact HB.out | apply z4m | apply z5m | apply z6m) | exact HB.out))) : w.heap.size ≤ gb310)); have n3_ := z0m ((by rw [hg]; exact (y7m (by repeat (first | (with_reducible first | exact HB.out | apply z4m | apply z5m | apply z6m) | exact HB.out))) : w.heap.size ≤ gb310)); clear HB; have HB := n0_; have BK310 := n1_; have GW310 := n2_; have GE310 := n3_; clear n0_ n1_ n2_ n3_; clear hb hbox hg) | ((with_reducible refine gate_dst (N := 3) rfl ?_); (try (refine gate_guard (by rfl) ?_; dsimp only)); refine box_event ?hg (N := 3) ?hd (cs := #[.int .i64 a1]) (t := 3) ?hr ?_; (case hd => rfl); (case hg => rfl); (case hr => first | (go_simp; done) | (go_simp; rfl)); intro gb311 hg w46 hbox hb; have n0_ := z0m (y5m (g := gb310) (o := .cells #[.int .i64 a0_0, .int .i64 a0_1, .slice A0_2 l0_2.length c0_2] 37 (0, 0)) (by (with_reducible repeat (first | refine z1m ?_ _ | refine z3m ?_ | refine z2m ?_ _)); exact BK310.out) hb); have n1_ := z0m (y6m (by repeat (first | (with_reducible first | exact HB.out | apply z4m | apply z5m | apply z6m | refine z7m ?_ GE310.out) | exact HB.out)) hb); have n2_ := z0m (hbox); have n3_ := z0m ((by rw [hg]; exact (y7m (by repeat (first | (with_reducible first | exact HB.out | apply z4m | apply z5m | apply z6m | refine z7m ?_ GE310.out) | exact HB.out))) : w.heap.size ≤ gb311)); have n4_ := z0m ((by rw [hg]; exact (y7m (by repeat (first | (with_reducible first | exact HB.out | apply z4m | apply z5m | apply z6m | refine z7m ?_ GE310.out) | exact HB.out))) : w.heap.size ≤ gb311)); have n5_ := z0m ((by rw [hg]; exact Nat.ne_of_lt (blk_lt (g := gb310) (o := .cells #[.int .i64 a0_0, .int .i64 a0_1, .slice A0_2 l0_2.length c0_2] 37 (0, 0)) (by (with_reducible repeat (first | refine z1m ?_ _ | refine z3m ?_ | refine z2m ?_ _)); exact BK310.out)) : gb310 ≠ gb311)); have n6_ := z0m ((by rw [hg]; exact Nat.ne_of_gt (blk_lt (g := gb310) (o := .cells #[.int .i64 a0_0, .int .i64 a0_1, .slice A0_2 l0_2.length c0_2] 37 (0, 0)) (by (with_reducible repeat (first | refine z1m ?_ _ | refine z3m ?_ | refine z2m ?_ _)); exact BK310.out)) : gb311 ≠ gb310)); clear BK310; clear HB; have BK310 := n0_; have HB := n1_; have BK311 := n2_; have GW311 := n3_; have GE311 := n4_; have NB310_311 := n5_; have NB311_310 := n6_; clear n0_ n1_ n2_ n3_ n4_ n5_ n6_; clear hb hbox hg) | ((with_reducible refine gate_dst (N := 4) rfl ?_); (try (refine gate_guard (by rfl) ?_; dsimp only)); refine box_event ?hg (N := 4) ?hd (cs := #[.int .i64 0, .int .i64 0, .slice none 0 0]) (t := 30) ?hr ?_; (case hd => rfl); (case hg => rfl); (case hr => first | (go_simp; done) | (go_simp; rfl)); intro gb312 hg w47 hbox hb; have n0_ := z0m (y5m (g := gb310) (o := .cells #[.int .i64 a0_0, .int .i64 a0_1, .slice A0_2 l0_2.length c0_2] 37 (0, 0)) (by (with_reducible repeat (first | refine z1m ?_ _ | refine z3m ?_ | refine z2m ?_ _)); exact BK310.out) hb); have n1_ := z0m (y5m (g := gb311) (o := .cells #[.int .i64 a1] 3 (0, 0)) (by (with_reducible repeat (first | refine z1m ?_ _ | refine z3m ?_ | refine z2m ?_ _)); exact BK311.out) hb); have n2_ := z0m (y6m (by repeat (first | (with_reducible first | exact HB.out | apply z4m | apply z5m | apply z6m | refine z7m ?_ GE310.out | refine z7m ?_ GE311.out) | exact HB.out)) hb); have n3_ := z0m (hbox); have n4_ := z0m ((by rw [hg]; exact (y7m (by repeat (first | (with_reducible first | exact HB.out | apply z4m | apply z5m | apply z6m | refine z7m ?_ GE310.out | refine z7m ?_ GE311.out) | exact HB.out))) : w.heap.size ≤ gb312)); have n5_ := z0m ((by rw [hg]; exact (y7m (by repeat (first | (with_reducible first | exact HB.out | apply z4m | apply z5m | apply z6m | refine z7m ?_ GE310.out | refine z7m ?_ GE311.out) | exact HB.out))) : w.heap.size ≤ gb312)); have n6_ := z0m ((by rw [hg]; exact Nat.ne_of_lt (blk_lt (g := gb310) (o := .cells #[.int .i64 a0_0, .int .i64 a0_1, .slice A0_2 l0_2.length c0_2] 37 (0, 0)) (by (with_reducible repeat (first | refine z1m ?_ _ | refine z3m ?_ | refine z2m ?_ _)); exact BK310.out)) : gb310 ≠ gb312)); have n7_ := z0m ((by rw [hg]; exact Nat.ne_of_gt (blk_lt (g := gb310) (o := .cells #[.int .i64 a0_0, .int .i64 a0_1, .slice A0_2 l0_2.length c0_2] 37 (0, 0)) (by (with_reducible repeat (first | refine z1m ?_ _ | refine z3m ?_ | refine z2m ?_ _)); exact BK310.out)) : gb312 ≠ gb310)); have n8_ := z0m ((by rw [hg]; exact Nat.ne_of_lt (blk_lt (g := gb311) (o := .cells #[.int .i64 a1] 3 (0, 0)) (by (with_reducible repeat (first | refine z1m ?_ _ | refine z3m ?_ | refine z2m ?_ _)); exact BK311.out)) : gb311 ≠ gb312)); have n9_ := z0m ((by rw [hg]; exact Nat.ne_of_gt (blk_lt (g := gb311) (o := .cells #[.int .i64 a1] 3 (0, 0)) (by (with_reducible repeat (first | refine z1m ?_ _ | refine z3m ?_ | refine z2m ?_ _)); exact BK311.out)) : gb312 ≠ gb311)); clear BK310; clear BK311; clear HB; have BK310 := n0_; have BK311 := n1_; have HB := n2_; have BK312 := n3_; have GW312 := n4_; have GE312 := n5_; have NB310_312 := n6_; have NB312_310 := n7_; have NB311_312 := n8_; have NB312_311 := n9_; clear n0_ n1_ n2_ n3_ n4_ n5_ n6_ n7_ n8_ n9_; clear hb hbox hg; have hnb48 := NB310_311.out; have hnc48 := NB311_310.out; have hnb49 := NB310_312.out; have hnc49 := NB312_310.out; have hcz50_0 : w47.cell? ⟨gb310, 0, none⟩ = some (.int .i64 a0_0) := (x3m BK310.out 0).trans rfl; have hcz50_1 : w47.cell? ⟨gb310, 1, none⟩ = some (.int .i64 a0_1) := (x3m BK310.out 1).trans rfl; have hcz50_2 : w47.cell? ⟨gb310, 2, none⟩ = some (.slice A0_2 l0_2.length c0_2) := (x3m BK310.out 2).trans rfl; have hfz50_0 := x2m BK310.out 0; have hfz50_1 := x2m BK310.out 1; have hfz50_2 := x2m BK310.out 2) | ((with_reducible refine gate_callee (f := 16) rfl ?_); refine goesL_ (some 6) rfl rfl Try.func16 (by kernel_rfl) rfl #[.agg #[.int .i64 a0_0, .int .i64 a0_1, .slice A0_2 l0_2.length c0_2]] rfl (by (try simp only [List.map_toArray, List.map_cons, List.map_nil]); first | done | rfl | (simp only [List.length_drop, List.length_take]; rfl)) ?_; (with_reducible refine (impl_IsMatrix.calls a0_0 a0_1 _ _ l0_2 true _ ?side1 ?side2 A3.out).mono ?_); (case side1 => repeat (first | exact HR0_2.out | exact (y9m HR0_2.out HB.out) | (with_reducible refine y2m ?_ _) | (with_reducible refine y3m ?_ _) | (with_reducible refine y4m ?_))); (case side2 => exact HC0_2.out); rintro e w51 ⟨rfl, hb⟩; refine ⟨_, rfl, ?_⟩; have n0_ := z0m (y5m (g := gb310) (o := .cells #[.int .i64 a0_0, .int .i64 a0_1, .slice A0_2 l0_2.length c0_2] 37 (0, 0)) (by (with_reducible repeat (first | refine z1m ?_ _ | refine z3m ?_ | refine z2m ?_ _)); exact BK310.out) hb); have n1_ := z0m (y5m (g := gb311) (o := .cells #[.int .i64 a1] 3 (0, 0)) (by (with_reducible repeat (first | refine z1m ?_ _ | refine z3m ?_ | refine z2m ?_ _)); exact BK311.out) hb); have n2_ := z0m (y5m (g := gb312) (o := .cells #[.int .i64 0, .int .i64 0, .slice none 0 0] 30 (0, 0)) (by (with_reducible repeat (first | refine z1m ?_ _ | refine z3m ?_ | refine z2m ?_ _)); exact BK312.out) hb); have n3_ := z0m (y6m (by repeat (first | (with_reducible first | exact HB.out | apply z4m | apply z5m | apply z6m | refine z7m ?_ GE310.out | refine z7m ?_ GE311.out | refine z7m ?_ GE312.out) | exact HB.out)) hb); clear BK310; clear BK311; clear BK312; clear HB; have BK310 := n0_; have BK311 := n1_; have BK312 := n2_; have HB := n3_; clear n0_ n1_ n2_ n3_; (try clear hb); have hnb52 := NB311_312.out; have hnc52 := NB312_311.out; have hcz53_0 : w51.cell? ⟨gb311, 0, none⟩ = some (.int .i64 a1) := (x3m BK311.out 0).trans rfl; have hfz53_0 := x2m BK311.out 0; have hcz54_0 : w51.cell? ⟨gb310, 0, none⟩ = some (.int .i64 a0_0) := (x3m BK310.out 0).trans rfl; have hcz54_1 : w51.cell? ⟨gb310, 1, none⟩ = some (.int .i64 a0_1) := (x3m BK310.out 1).trans rfl; have hcz54_2 : w51.cell? ⟨gb310, 2, none⟩ = some (.slice A0_2 l0_2.length c0_2) := (x3m BK310.out 2).trans rfl; have hfz54_0 := x2m BK310.out 0; have hfz54_1 := x2m BK310.out 1; have hfz54_2 := x2m BK310.out 2) | (go_at_call 40; (with_reducible refine (impl_sized.calls a0_0 a0_1 false _ A28.out).mono ?_); rintro e w' ⟨rfl, ⟨nd, rfl⟩⟩; (try (rw [drewN_self w51]; generalize hq_ : World.drewN w51 _ = w51; have n0_ : Aside0 (w51.heap[gb310]? = some (.cells #[.int .i64 a0_0, .int .i64 a0_1, .slice A0_2 l0_2.length c0_2] 37 (0, 0))) := ⟨by rw [← hq_]; exact (by (with_reducible repeat (first | refine z1m ?_ _ | refine z3m ?_ | refine z2m ?_ _)); exact BK310.out)⟩; have n1_ : Aside0 (w51.heap[gb311]? = some (.cells #[.int .i64 a1] 3 (0, 0))) := ⟨by rw [← hq_]; exact (by (with_reducible repeat (first | refine z1m ?_ _ | refine z3m ?_ | refine z2m ?_ _)); exact BK311.out)⟩; have n2_ : Aside0 (w51.heap[gb312]? = some (.cells #[.int .i64 0, .int .i64 0, .slice none 0 0] 30 (0, 0))) := ⟨by rw [← hq_]; exact (by (with_reducible repeat (first | refine z1m ?_ _ | refine z3m ?_ | refine z2m ?_ _)); exact BK312.out)⟩; have n3_ : Aside0 (Below w.heap.size w w51) := ⟨by rw [← hq_]; exact (by repeat (first | (with_reducible first | exact HB.out | apply z4m | apply z5m | apply z6m | refine z7m ?_ GE310.out | refine z7m ?_ GE311.out | refine z7m ?_ GE312.out) | exact HB.out))⟩; clear BK310 BK311 BK312 HB hq_; have BK310 := n0_; have BK311 := n1_; have BK312 := n2_; have HB := n3_; clear n0_ n1_ n2_ n3_)); have hcz55_0 : w51.cell? ⟨gb312, 0, none⟩ = some (.int .i64 0) := (x3m BK312.out 0).trans rfl; have hcz55_1 : w51.cell? ⟨gb312, 1, none⟩ = some (.int .i64 0) := (x3m BK312.out 1).trans rfl; have hcz55_2 : w51.cell? ⟨gb312, 2, none⟩ = some (.slice none 0 0) := (x3m BK312.out 2).trans rfl; have hfz55_0 := x2m BK312.out 0; have hfz55_1 := x2m BK312.out 1; have hfz55_2 := x2m BK312.out 2))
     refine bodyPost_ret (results_cell_row rfl _ _ gb312 30 #[.int .i64 0, .int .i64 0, .slice none 0 0] (0, 0) _ rfl (by (with_reducible repeat (first | refine z1m ?_ _ | refine z3m ?_ | refine z2m ?_ _)); refine blk_put (cs := #[.int .i64 0, .int .i64 0, .slice none 0 0]) ?_ 2 _ rfl; (with_reducible repeat (first | refine z1m ?_ _ | refine z3m ?_ | refine z2m ?_ _)); refine blk_put (cs := #[.int .i64 0, .int .i64 0, .slice none 0 0]) ?_ 1 _ rfl; (with_reducible repeat (first | refine z1m ?_ _ | refine z3m ?_ | refine z2m ?_ _)); refine blk_put (cs := #[.int .i64 0, .int .i64 0, .slice none 0 0]) ?_ 0 _ rfl; (with_reducible repeat (first | refine z1m ?_ _ | refine z3m ?_ | refine z2m ?_ _)); exact BK312.out) Try.underlying30 rfl (by kernel_rfl)) rfl ?_
     exact ⟨_, by first | rfl | (simp [errW_none, errW_some] <;> rfl) | (simp [*, errW_none, errW_some] <;> rfl), by first | exact Kd.R_nil _ _ _ _ _ | exact Kd.N_nil _ _ _ _ _ | exact Kd.V_nil _ _ _ _ _ | exact Kd.Q_nil _ _ _ _ _ | exact Kd.S_nil _ _ _ _ _, by repeat (first | (with_reducible first | exact HB.out | apply z4m | apply z5m | apply z6m | refine z7m ?_ GE310.out | refine z7m ?_ GE311.out | refine z7m ?_ GE312.out) | exact HB.out)⟩
 ·replace c4 := Bool.eq_false_iff.mpr c4
  subst c4
  have H1 : (some (0, 0, ([] : List Int))) = some (r1, r2, r3) := by rw [if_neg (show ¬ (false = true) by decide)] at H; first | exact H | (simp only [if_true] at H ⊢; exact H)
  clear H
  have H := H1
  clear H1
  simp only [Option.some.injEq, Prod.mk.injEq] at H
  obtain ⟨rfl, rfl, rfl⟩ := H
  go_enter Try.func18, Try.ntmps18
  go_wp2_with (first | ((with_reducible refine gate_dst (N := 2) rfl ?_); (try (refine gate_guard (by rfl) ?_; dsimp only)); refine box_event ?hg (N := 2) ?hd (cs := #[.int .i64 a0_0, .int .i64 a0_1, .slice A0_2 l0_2.length c0_2]) (t := 37) ?hr ?_; (case hd => rfl); (case hg => rfl); (case hr => first | (go_simp; done) | (go_simp; rfl)); intro gb310 hg w56 hbox hb; have n0_ := z0m (y6m (by repeat (first | (with_reducible first | exact HB.out | apply z4m | apply z5m | apply z6m) | exact HB.out)) hb); have n1_ := z0m (hbox); have n2_ := z0m ((by rw [hg]; exact (y7m (by repeat (first | (with_reducible first | exact HB.out | apply z4m | apply z5m | apply z6m) | exact HB.out))) : w.heap.size ≤ gb310)); have n3_ := z0m ((by rw [hg]; exact (y7m (by repeat (first | (with_reducible first | exact HB.out | apply z4m | apply z5m | apply z6m) | exact HB.out))) : w.heap.size ≤ gb310)); clear HB; have HB := n0_; have BK310 := n1_; have GW310 := n2_; have GE310 := n3_; clear n0_ n1_ n2_ n3_; clear hb hbox hg) | ((with_reducible refine gate_dst (N := 3) rfl ?_); (try (refine gate_guard (by rfl) ?_; dsimp only)); refine box_event ?hg (N := 3) ?hd (cs := #[.int .i64 a1]) (t := 3) ?hr ?_; (case hd => rfl); (case hg => rfl); (case hr => first | (go_simp; done) | (go_simp; rfl)); intro gb311 hg w57 hbox hb; have n0_ := z0m (y5m (g := gb310) (o := .cells #[.int .i64 a0_0, .int .i64 a0_1, .slice A0_2 l0_2.length c0_2] 37 (0, 0)) (by (with_reducible repeat (first | refine z1m ?_ _ | refine z3m ?_ | refine z2m ?_ _)); exact BK310.out) hb); have n1_ := z0m (y6m (by repeat (first | (with_reducible first | exact HB.out | apply z4m | apply z5m | apply z6m | refine z7m ?_ GE310.out) | exact HB.out)) hb); have n2_ := z0m (hbox); have n3_ := z0m ((by rw [hg]; exact (y7m (by repeat (first | (with_reducible first | exact HB.out | apply z4m | apply z5m | apply z6m | refine z7m ?_ GE310.out) | exact HB.out))) : w.heap.size ≤ gb311)); have n4_ := z0m ((by rw [hg]; exact (y7m (by repeat (first | (with_reducible first | exact HB.out | apply z4m | apply z5m | apply z6m | refine z7m ?_ GE310.out) | exact HB.out))) : w.heap.size ≤ gb311)); have n5_ := z0m ((by rw [hg]; exact Nat.ne_of_lt (blk_lt (g := gb310) (o := .cells #[.int .i64 a0_0, .int .i64 a0_1, .slice A0_2 l0_2.length c0_2] 37 (0, 0)) (by (with_reducible repeat (first | refine z1m ?_ _ | refine z3m ?_ | refine z2m ?_ _)); exact BK310.out)) : gb310 ≠ gb311)); have n6_ := z0m ((by rw [hg]; exact Nat.ne_of_gt (blk_lt (g := gb310) (o := .cells #[.int .i64 a0_0, .int .i64 a0_1, .slice A0_2 l0_2.length c0_2] 37 (0, 0)) (by (with_reducible repeat (first | refine z1m ?_ _ | refine z3m ?_ | refine z2m ?_ _)); exact BK310.out)) : gb311 ≠ gb310)); clear BK310; clear HB; have BK310 := n0_; have HB := n1_; have BK311 := n2_; have GW311 := n3_; have GE311 := n4_; have NB310_311 := n5_; have NB311_310 := n6_; clear n0_ n1_ n2_ n3_ n4_ n5_ n6_; clear hb hbox hg) | ((with_reducible refine gate_dst (N := 4) rfl ?_); (try (refine gate_guard (by rfl) ?_; dsimp only)); refine box_event ?hg (N := 4) ?hd (cs := #[.int .i64 0, .int .i64 0, .slice none 0 0]) (t := 30) ?hr ?_; (case hd => rfl); (case hg => rfl); (case hr => first | (go_simp; done) | (go_simp; rfl)); intro gb312 hg w58 hbox hb; have n0_ := z0m (y5m (g := gb310) (o := .cells #[.int .i64 a0_0, .int .i64 a0_1, .slice A0_2 l0_2.length c0_2] 37 (0, 0)) (by (with_reducible repeat (first | refine z1m ?_ _ | refine z3m ?_ | refine z2m ?_ _)); exact BK310.out) hb); have n1_ := z0m (y5m (g := gb311) (o := .cells #[.int .i64 a1] 3 (0, 0)) (by (with_reducible repeat (first | refine z1m ?_ _ | refine z3m ?_ | refine z2m ?_ _)); exact BK311.out) hb); have n2_ := z0m (y6m (by repeat (first | (with_reducible first | exact HB.out | apply z4m | apply z5m | apply z6m | refine z7m ?_ GE310.out | refine z7m ?_ GE311.out) | exact HB.out)) hb); have n3_ := z0m (hbox); have n4_ := z0m ((by rw [hg]; exact (y7m (by repeat (first | (with_reducible first | exact HB.out | apply z4m | apply z5m | apply z6m | refine z7m ?_ GE310.out | refine z7m ?_ GE311.out) | exact HB.out))) : w.heap.size ≤ gb312)); have n5_ := z0m ((by rw [hg]; exact (y7m (by repeat (first | (with_reducible first | exact HB.out | apply z4m | apply z5m | apply z6m | refine z7m ?_ GE310.out | refine z7m ?_ GE311.out) | exact HB.out))) : w.heap.size ≤ gb312)); have n6_ := z0m ((by rw [hg]; exact Nat.ne_of_lt (blk_lt (g := gb310) (o := .cells #[.int .i64 a0_0, .int .i64 a0_1, .slice A0_2 l0_2.length c0_2] 37 (0, 0)) (by (with_reducible repeat (first | refine z1m ?_ _ | refine z3m ?_ | refine z2m ?_ _)); exact BK310.out)) : gb310 ≠ gb312)); have n7_ := z0m ((by rw [hg]; exact Nat.ne_of_gt (blk_lt (g := gb310) (o := .cells #[.int .i64 a0_0, .int .i64 a0_1, .slice A0_2 l0_2.length c0_2] 37 (0, 0)) (by (with_reducible repeat (first | refine z1m ?_ _ | refine z3m ?_ | refine z2m ?_ _)); exact BK310.out)) : gb312 ≠ gb310)); have n8_ := z0m ((by rw [hg]; exact Nat.ne_of_lt (blk_lt (g := gb311) (o := .cells #[.int .i64 a1] 3 (0, 0)) (by (with_reducible repeat (first | refine z1m ?_ _ | refine z3m ?_ | refine z2m ?_ _)); exact BK311.out)) : gb311 ≠ gb312)); have n9_ := z0m ((by rw [hg]; exact Nat.ne_of_gt (blk_lt (g := gb311) (o := .cells #[.int .i64 a1] 3 (0, 0)) (by (with_reducible repeat (first | refine z1m ?_ _ | refine z3m ?_ | refine z2m ?_ _)); exact BK311.out)) : gb312 ≠ gb311)); clear BK310; clear BK311; clear HB; have BK310 := n0_; have BK311 := n1_; have HB := n2_; have BK312 := n3_; have GW312 := n4_; have GE312 := n5_; have NB310_312 := n6_; have NB312_310 := n7_; have NB311_312 := n8_; have NB312_311 := n9_; clear n0_ n1_ n2_ n3_ n4_ n5_ n6_ n7_ n8_ n9_; clear hb hbox hg; have hnb59 := NB310_311.out; have hnc59 := NB311_310.out; have hnb60 := NB310_312.out; have hnc60 := NB312_310.out; have hcz61_0 : w58.cell? ⟨gb310, 0, none⟩ = some (.int .i64 a0_0) := (x3m BK310.out 0).trans rfl; have hcz61_1 : w58.cell? ⟨gb310, 1, none⟩ = some (.int .i64 a0_1) := (x3m BK310.out 1).trans rfl; have hcz61_2 : w58.cell? ⟨gb310, 2, none⟩ = some (.slice A0_2 l0_2.length c0_2) := (x3m BK310.out 2).trans rfl; have hfz61_0 := x2m BK310.out 0; have hfz61_1 := x2m BK310.out 1; have hfz61_2 := x2m BK310.out 2) | ((with_reducible refine gate_callee (f := 16) rfl ?_); refine goesL_ (some 6) rfl rfl Try.func16 (by kernel_rfl) rfl #[.agg #[.int .i64 a0_0, .int .i64 a0_1, .slice A0_2 l0_2.length c0_2]] rfl (by (try simp only [List.map_toArray, List.map_cons, List.map_nil]); first | done | rfl | (simp only [List.length_drop, List.length_take]; rfl)) ?_; (with_reducible refine (impl_IsMatrix.calls a0_0 a0_1 _ _ l0_2 false _ ?side1 ?side2 A3.out).mono ?_); (case side1 => repeat (first | exact HR0_2.out | exact (y9m HR0_2.out HB.out) | (with_reducible refine y2m ?_ _) | (with_reducible refine y3m ?_ _) | (with_reducible refine y4m ?_))); (case side2 => exact HC0_2.out); rintro e w62 ⟨rfl, hb⟩; refine ⟨_, rfl, ?_⟩; have n0_ := z0m (y5m (g := gb310) (o := .cells #[.int .i64 a0_0, .int .i64 a0_1, .slice A0_2 l0_2.length c0_2] 37 (0, 0)) (by (with_reducible repeat (first | refine z1m ?_ _ | refine z3m ?_ | refine z2m ?_ _)); exact BK310.out) hb); have n1_ := z0m (y5m (g := gb311) (o := .cells #[.int .i64 a1] 3 (0, 0)) (by (with_reducible repeat (first | refine z1m ?_ _ | refine z3m ?_ | refine z2m ?_ _)); exact BK311.out) hb); have n2_ := z0m (y5m (g := gb312) (o := .cells #[.int .i64 0, .int .i64 0, .slice none 0 0] 30 (0, 0)) (by (with_reducible repeat (first | refine z1m ?_ _ | refine z3m ?_ | refine z2m ?_ _)); exact BK312.out) hb); have n3_ := z0m (y6m (by repeat (first | (with_reducible first | exact HB.out | apply z4m | apply z5m | apply z6m | refine z7m ?_ GE310.out | refine z7m ?_ GE311.out | refine z7m ?_ GE312.out) | exact HB.out)) hb); clear BK310; clear BK311; clear BK312; clear HB; have BK310 := n0_; have BK311 := n1_; have BK312 := n2_; have HB := n3_; clear n0_ n1_ n2_ n3_; (try clear hb); have hnb63 := NB312_311.out; have hnc63 := NB311_312.out; have hcz64_0 : w62.cell? ⟨gb312, 0, none⟩ = some (.int .i64 0) := (x3m BK312.out 0).trans rfl; have hcz64_1 : w62.cell? ⟨gb312, 1, none⟩ = some (.int .i64 0) := (x3m BK312.out 1).trans rfl; have hcz64_2 : w62.cell? ⟨gb312, 2, none⟩ = some (.slice none 0 0) := (x3m BK312.out 2).trans rfl; have hfz64_0 := x2m BK312.out 0; have hfz64_1 := x2m BK312.out 1; have hfz64_2 := x2m BK312.out 2))
  refine bodyPost_ret (results_cell_row rfl _ _ gb312 30 #[.int .i64 0, .int .i64 0, .slice none 0 0] (0, 0) _ rfl (by (with_reducible repeat (first | refine z1m ?_ _ | refine z3m ?_ | refine z2m ?_ _)); refine blk_put (cs := #[.int .i64 0, .int .i64 0, .slice none 0 0]) ?_ 2 _ rfl; (with_reducible repeat (first | refine z1m ?_ _ | refine z3m ?_ | refine z2m ?_ _)); refine blk_put (cs := #[.int .i64 0, .int .i64 0, .slice none 0 0]) ?_ 1 _ rfl; (with_reducible repeat (first | refine z1m ?_ _ | refine z3m ?_ | refine z2m ?_ _)); refine blk_put (cs := #[.int .i64 0, .int .i64 0, .slice none 0 0]) ?_ 0 _ rfl; (with_reducible repeat (first | refine z1m ?_ _ | refine z3m ?_ | refine z2m ?_ _)); exact BK312.out) Try.underlying30 rfl (by kernel_rfl)) rfl ?_
  exact ⟨_, by first | rfl | (simp [errW_none, errW_some] <;> rfl) | (simp [*, errW_none, errW_some] <;> rfl), by first | exact Kd.R_nil _ _ _ _ _ | exact Kd.N_nil _ _ _ _ _ | exact Kd.V_nil _ _ _ _ _ | exact Kd.Q_nil _ _ _ _ _ | exact Kd.S_nil _ _ _ _ _, by repeat (first | (with_reducible first | exact HB.out | apply z4m | apply z5m | apply z6m | refine z7m ?_ GE310.out | refine z7m ?_ GE311.out | refine z7m ?_ GE312.out) | exact HB.out)⟩

end Go.Proofs.Ytkkcedkiohefmaa.PFnSpotMatrix
