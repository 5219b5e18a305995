/- Machine side of laws FnExactDeskOk: written for this claim by the kit's print program under this session's wip/tools/mp_setup.py (with contracts of the session's own, wip/ext). -/
import Derived.Test.YtheihidfbalioaaPFnExactDeskOkx0
namespace Go.Proofs.Ytheihidfbalioaa.PFnExactDeskOk
open Go.RowKit Go.Proofs.YtheihidfbalioaaW.PrintWords Go.Proofs.YtheihidfbalioaaW.PrintLast Go.Proofs.YtheihidfbalioaaW.PrintMore
attribute [local go_sem] max2_int min2_int max_two min_two max_three min_three max_four min_four   -- for this text's walks alone
set_option linter.unusedVariables false
set_option linter.unusedSimpArgs false
-- squeezed: words under short names
set_option linter.defProp false in
def z0i := @Aside0.mk
set_option linter.defProp false in
def z1i := @blk_drewN
set_option linter.defProp false in
def z2i := @blk_alloc
set_option linter.defProp false in
def z3i := @blk_drew
set_option linter.defProp false in
def z4i := @below_alloc
set_option linter.defProp false in
def z5i := @pw_below_drewN
set_option linter.defProp false in
def z6i := @below_drew1
set_option linter.defProp false in
def z7i := @below_set
set_option linter.defProp false in
def y2i := @Kd.C_alloc
set_option linter.defProp false in
def y3i := @Kd.C_drewN
set_option linter.defProp false in
def y4i := @Kd.C_drew
set_option linter.defProp false in
def y5i := @blk_below
set_option linter.defProp false in
def y6i := @below_step
set_option linter.defProp false in
def y7i := @below_size
set_option linter.defProp false in
def y9i := @Kd.C_below
set_option linter.defProp false in
def x2i := @blk_frozen
set_option linter.defProp false in
def x3i := @blk_cell
def bsi_ (n m : Nat) : Array Bool := ((List.range n).map fun i => m.testBit i).toArray
theorem s1i_ {α : Type} (l : List α) (i : Nat) (a : α) : l.toArray.setIfInBounds i a = (l.set i a).toArray := List.setIfInBounds_toArray l i a
theorem s2i_ {α : Type} (a b : α) (l : List α) : (a :: l).set 0 b = b :: l := rfl
theorem s3i_ {α : Type} (a b : α) (n : Nat) (l : List α) : (a :: l).set (n + 1) b = a :: l.set n b := rfl

/-! ### laws_eqIntS: function 116 -/
def laws_eqIntS.l0 : Nat → List Int → List Int → Int → Option (Bool)
 | 0, _, _, _ => none
 | k + 1, x0, x1, x5 => if x5 < (x0.length : Int) then (if 0 ≤ x5 then (if x5 < (x1.length : Int) then (if (rd x0 x5) = (rd x1 x5) then (laws_eqIntS.l0 k x0 x1 (wrap64 (x5 + 1))) else (some false)) else (none)) else (none)) else (some true)
def laws_eqIntS.f (k : Nat) (l0 : List Int) (l1 : List Int) : Option (Bool) := if (l0.length : Int) = (l1.length : Int) then (laws_eqIntS.l0 k l0 l1 0) else (some false)
theorem laws_eqIntS.mono_l : ∀ k, (∀ y0 y1 y2, LeO (laws_eqIntS.l0 k y0 y1 y2) (laws_eqIntS.l0 (k + 1) y0 y1 y2))
 | 0 => fun _ _ _ r h => by simp [laws_eqIntS.l0] at h
 | k + 1 => by
  have ih0 := laws_eqIntS.mono_l k
  ·intro y0 y1 y2
   unfold laws_eqIntS.l0
   repeat' first
   | (with_reducible exact ih0 _ _ _)
   | (with_reducible exact LeO.refl _)
   | (with_reducible exact LeO.none _)
   | (with_reducible refine LeO.ite ?_ ?_)
   | (with_reducible refine LeO.bind ?_ (fun _ => ?_))
   | exact ih0 _ _ _
   | exact LeO.none _
   | refine LeO.ite ?_ ?_
   | refine LeO.bind ?_ (fun _ => ?_)
theorem laws_eqIntS.mono : ∀ a0 a1 k, LeO (laws_eqIntS.f k a0 a1) (laws_eqIntS.f (k + 1) a0 a1) := by
 intro a0 a1 k
 have ih0 := laws_eqIntS.mono_l k
 unfold laws_eqIntS.f
 repeat' first
   | (with_reducible exact ih0 _ _ _)
   | (with_reducible exact LeO.refl _)
   | (with_reducible exact LeO.none _)
   | (with_reducible refine LeO.ite ?_ ?_)
   | (with_reducible refine LeO.bind ?_ (fun _ => ?_))
   | exact ih0 _ _ _
   | exact LeO.none _
   | refine LeO.ite ?_ ?_
   | refine LeO.bind ?_ (fun _ => ?_)
set_option maxHeartbeats 8000000 in
set_option maxRecDepth 100000 in
theorem laws_eqIntS.calls (k : Nat) (A0 : Option Addr) (c0 : Nat) (l0 : List Int) (A1 : Option Addr) (c1 : Nat) (l1 : List Int) (r : Bool) (w : World) (hr0 : Kd.C (Kd.int .i64) w A0 l0.length l0) (hc0 : l0.length ≤ c0) (hr1 : Kd.C (Kd.int .i64) w A1 l1.length l1) (hc1 : l1.length ≤ c1) (h : laws_eqIntS.f k l0 l1 = some r) :
  Calls Try.prog 116 #[.slice A0 l0.length c0, .slice A1 l1.length c1] w fun e w' => e = .returned (.bool r) ∧ Drawn0 w w' := by
 have HR0 := z0i hr0
 have HC0 := z0i hc0
 clear hr0 hc0
 have HR1 := z0i hr1
 have HC1 := z0i hc1
 clear hr1 hc1
 have H : (if (l0.length : Int) = (l1.length : Int) then (laws_eqIntS.l0 k l0 l1 0) else (some false)) = some r := h
 clear h
 by_cases c3 : (l0.length : Int) = (l1.length : Int)
 ·rw [if_pos c3] at H
  have c3b0 : ((l0.length : Int) == (l1.length : Int)) = true := beq_iff_eq.mpr c3
  have c3b1 : ((l0.length : Int) != (l1.length : Int)) = false := bne_eq_false_iff_eq.mpr c3
  have c3b2 : (l0.length == l1.length) = true := by first | simpa using c3 | (simp at c3 ⊢; omega)
  clear c3
  have H' := z0i H
  clear H
  go_enter Try.func116, Try.ntmps116
  go_wp2
  repeat (go_quiet (fail); try go_wp2)
  go_loopg [5] k (fun kq v5 w' => ∃ (x5_1 : Int), v5 = .int .i64 x5_1 ∧ Aside0 (laws_eqIntS.l0 kq l0 l1 x5_1 = some r) ∧ Aside0 (kq ≤ k) ∧ Drawn0 w w')
  case atStart => exact ⟨(0), (by first | rfl | (simp; done) | (simp [*]; done)), H', ⟨Nat.le_refl _⟩, by repeat (first | exact Drawn0.refl _ | apply Drawn0.step)⟩
  case round =>
   clear H'
   try clear c1
   try clear p2
   try clear c3
   try clear c3b0
   try clear c3b1
   try clear c3b2
   obtain ⟨x5_1, rfl, HA, HK1, ⟨m1, rfl⟩⟩ := hrel
   cases gk with
   | zero => exact absurd HA.out (by simp [laws_eqIntS.l0])
   | succ k1 =>
    have H := HA.out
    clear HA
    simp only [laws_eqIntS.l0] at H
    by_cases c4 : x5_1 < (l0.length : Int)
    ·rw [if_pos c4] at H
     have c4b0 : decide (x5_1 < (l0.length : Int)) = true := decide_eq_true c4
     clear c4
     by_cases c5 : 0 ≤ x5_1
     ·rw [if_pos c5] at H
      have c5b0 : decide (0 ≤ x5_1) = true := decide_eq_true c5
      clear c5
      by_cases c6 : x5_1 < (l1.length : Int)
      ·rw [if_pos c6] at H
       have c6b0 : decide (x5_1 < (l1.length : Int)) = true := decide_eq_true c6
       clear c6
       by_cases c7 : (rd l0 x5_1) = (rd l1 x5_1)
       ·rw [if_pos c7] at H
        have c7b0 : ((rd l0 x5_1) == (rd l1 x5_1)) = true := beq_iff_eq.mpr c7
        have c7b1 : ((rd l0 x5_1) != (rd l1 x5_1)) = false := bne_eq_false_iff_eq.mpr c7
        clear c7
        have H' := z0i H
        clear H
        have p208 : 0 ≤ (x5_1 : Int) := of_decide_eq_true (by first | (with_reducible assumption) | assumption)
        have q208 : x5_1 < (l0.length : Int) := of_decide_eq_true (by first | (with_reducible assumption) | assumption)
        obtain ⟨ad208, e208, hx208_0⟩ := Kd.at_int HR0.out x5_1 p208 q208
        cases e208
        replace p208 := eq_true p208
        replace q208 := eq_true q208
        have p209 : 0 ≤ (x5_1 : Int) := of_decide_eq_true (by first | (with_reducible assumption) | assumption)
        have q209 : x5_1 < (l1.length : Int) := of_decide_eq_true (by first | (with_reducible assumption) | assumption)
        obtain ⟨ad209, e209, hx209_0⟩ := Kd.at_int HR1.out x5_1 p209 q209
        cases e209
        replace p209 := eq_true p209
        replace q209 := eq_true q209
        go_wp2
        repeat (go_quiet (fail); try go_wp2)
        go_roundg k1
        case measure => have := HK1.out; omega
        case rel => exact ⟨(wrap64 (x5_1 + 1)), (by first | rfl | (simp; done) | (simp [*]; done)), H', ⟨by have := HK1.out; omega⟩, by repeat (first | exact Drawn0.refl _ | apply Drawn0.step)⟩
       ·rw [if_neg c7] at H
        have c7b0 : ((rd l0 x5_1) == (rd l1 x5_1)) = false := beq_eq_false_iff_ne.mpr c7
        have c7b1 : ((rd l0 x5_1) != (rd l1 x5_1)) = true := bne_iff_ne.mpr c7
        obtain rfl := Option.some.inj H
        have p208 : 0 ≤ (x5_1 : Int) := of_decide_eq_true (by first | (with_reducible assumption) | assumption)
        have q208 : x5_1 < (l0.length : Int) := of_decide_eq_true (by first | (with_reducible assumption) | assumption)
        obtain ⟨ad208, e208, hx208_0⟩ := Kd.at_int HR0.out x5_1 p208 q208
        cases e208
        replace p208 := eq_true p208
        replace q208 := eq_true q208
        have p209 : 0 ≤ (x5_1 : Int) := of_decide_eq_true (by first | (with_reducible assumption) | assumption)
        have q209 : x5_1 < (l1.length : Int) := of_decide_eq_true (by first | (with_reducible assumption) | assumption)
        obtain ⟨ad209, e209, hx209_0⟩ := Kd.at_int HR1.out x5_1 p209 q209
        cases e209
        replace p209 := eq_true p209
        replace q209 := eq_true q209
        go_wp2
        repeat (go_quiet (fail); try go_wp2)
        go_ret
        exact ⟨by first | rfl | (simp; done) | (simp [*]; done), by repeat (first | exact Drawn0.refl _ | apply Drawn0.step)⟩
      ·rw [if_neg c6] at H
       exact absurd H (by simp)
     ·rw [if_neg c5] at H
      exact absurd H (by simp)
    ·rw [if_neg c4] at H
     have c4b0 : decide (x5_1 < (l0.length : Int)) = false := decide_eq_false c4
     clear c4
     obtain rfl := Option.some.inj H
     go_wp2
     repeat (go_quiet (fail); try go_wp2)
     go_ret
     exact ⟨by first | rfl | (simp; done) | (simp [*]; done), by repeat (first | exact Drawn0.refl _ | apply Drawn0.step)⟩
 ·rw [if_neg c3] at H
  have c3b0 : ((l0.length : Int) == (l1.length : Int)) = false := beq_eq_false_iff_ne.mpr c3
  have c3b1 : ((l0.length : Int) != (l1.length : Int)) = true := bne_iff_ne.mpr c3
  have c3b2 : (l0.length == l1.length) = false := by first | simpa using c3 | (simp at c3 ⊢; omega)
  obtain rfl := Option.some.inj H
  go_enter Try.func116, Try.ntmps116
  go_wp2
  repeat (go_quiet (fail); try go_wp2)
  go_ret
  exact ⟨by first | rfl | (simp; done) | (simp [*]; done), by repeat (first | exact Drawn0.refl _ | apply Drawn0.step)⟩

/-! ### laws_eqPicture: function 95 -/
def laws_eqPicture.f (k : Nat) (a0_0 : Int) (a0_1 : Int) (l0_2 : List Int) (a1_0 : Int) (a1_1 : Int) (l1_2 : List Int) : Option (Bool) := if a0_0 = a1_0 then (if a0_1 = a1_1 then ((laws_eqIntS.f k l0_2 l1_2).bind fun t212 => (if t212 = true then (some true) else (some false))) else (some false)) else (some false)
theorem laws_eqPicture.mono : ∀ a0 a1 a2 a3 a4 a5 k, LeO (laws_eqPicture.f k a0 a1 a2 a3 a4 a5) (laws_eqPicture.f (k + 1) a0 a1 a2 a3 a4 a5) := by
 intro a0 a1 a2 a3 a4 a5 k
 unfold laws_eqPicture.f
 repeat' first
   | (with_reducible exact laws_eqIntS.mono _ _ _)
   | (with_reducible exact LeO.refl _)
   | (with_reducible exact LeO.none _)
   | (with_reducible refine LeO.ite ?_ ?_)
   | (with_reducible refine LeO.bind ?_ (fun _ => ?_))
   | exact laws_eqIntS.mono _ _ _
   | exact LeO.none _
   | refine LeO.ite ?_ ?_
   | refine LeO.bind ?_ (fun _ => ?_)
set_option maxHeartbeats 8000000 in
set_option maxRecDepth 100000 in
theorem laws_eqPicture.calls (k : Nat) (a0_0 : Int) (a0_1 : Int) (A0_2 : Option Addr) (c0_2 : Nat) (l0_2 : List Int) (a1_0 : Int) (a1_1 : Int) (A1_2 : Option Addr) (c1_2 : Nat) (l1_2 : List Int) (r : Bool) (w : World) (hr0_2 : Kd.C (Kd.int .i64) w A0_2 l0_2.length l0_2) (hc0_2 : l0_2.length ≤ c0_2) (hr1_2 : Kd.C (Kd.int .i64) w A1_2 l1_2.length l1_2) (hc1_2 : l1_2.length ≤ c1_2) (h : laws_eqPicture.f k a0_0 a0_1 l0_2 a1_0 a1_1 l1_2 = some r) :
  Calls Try.prog 95 #[.agg #[.int .i64 a0_0, .int .i64 a0_1, .slice A0_2 l0_2.length c0_2], .agg #[.int .i64 a1_0, .int .i64 a1_1, .slice A1_2 l1_2.length c1_2]] w fun e w' => e = .returned (.bool r) ∧ Below w.heap.size w w' := by
 have hu25 := Try.underlying25
 have HR0_2 := z0i hr0_2
 have HC0_2 := z0i hc0_2
 clear hr0_2 hc0_2
 have HR1_2 := z0i hr1_2
 have HC1_2 := z0i hc1_2
 clear hr1_2 hc1_2
 have HB := z0i (Below.refl w.heap.size w)
 have H : (if a0_0 = a1_0 then (if a0_1 = a1_1 then ((laws_eqIntS.f k l0_2 l1_2).bind fun t212 => (if t212 = true then (some true) else (some false))) else (some false)) else (some false)) = some r := h
 clear h
 by_cases c3 : a0_0 = a1_0
 ·rw [if_pos c3] at H
  have c3b0 : (a0_0 == a1_0) = true := beq_iff_eq.mpr c3
  have c3b1 : (a0_0 != a1_0) = false := bne_eq_false_iff_eq.mpr c3
  clear c3
  by_cases c4 : a0_1 = a1_1
  ·rw [if_pos c4] at H
   have c4b0 : (a0_1 == a1_1) = true := beq_iff_eq.mpr c4
   have c4b1 : (a0_1 != a1_1) = false := bne_eq_false_iff_eq.mpr c4
   clear c4
   replace H := Option.bind_eq_some_iff.mp H
   obtain ⟨t212, A50, H⟩ := H
   replace H : (if t212 = true then (some true) else (some false)) = some r := H
   have A5 := z0i A50
   clear A50
   by_cases c6 : t212 = true
   ·subst c6
    have H1 : (some true) = some r := by rw [if_pos rfl] at H; first | exact H | (simp only [if_true] at H ⊢; exact H)
    clear H
    have H := H1
    clear H1
    obtain rfl := Option.some.inj H
    go_enter Try.func95, Try.ntmps95
    go_wp2_with (first | ((with_reducible refine gate_dst (N := 2) rfl ?_); refine box_event ?hg (N := 2) ?hd (cs := #[.int .i64 a0_0, .int .i64 a0_1, .slice A0_2 l0_2.length c0_2]) (t := 25) ?hr ?_; (case hd => rfl); (case hg => rfl); (case hr => first | (go_simp; done) | (go_simp; rfl)); intro gb210 hg w7 hbox hb; have n0_ := z0i (y6i (by repeat (first | (with_reducible first | exact HB.out | apply z4i | apply z5i | apply z6i) | exact HB.out)) hb); have n1_ := z0i (hbox); have n2_ := z0i ((by rw [hg]; exact (y7i (by repeat (first | (with_reducible first | exact HB.out | apply z4i | apply z5i | apply z6i) | exact HB.out))) : w.heap.size ≤ gb210)); have n3_ := z0i ((by rw [hg]; exact (y7i (by repeat (first | (with_reducible first | exact HB.out | apply z4i | apply z5i | apply z6i) | exact HB.out))) : w.heap.size ≤ gb210)); clear HB; have HB := n0_; have BK210 := n1_; have GW210 := n2_; have GE210 := n3_; clear n0_ n1_ n2_ n3_; clear hb hbox hg) | ((with_reducible refine gate_dst (N := 3) rfl ?_); refine box_event ?hg (N := 3) ?hd (cs := #[.int .i64 a1_0, .int .i64 a1_1, .slice A1_2 l1_2.length c1_2]) (t := 25) ?hr ?_; (case hd => rfl); (case hg => rfl); (case hr => first | (go_simp; done) | (go_simp; rfl)); intro gb211 hg w8 hbox hb; have n0_ := z0i (y5i (g := gb210) (o := .cells #[.int .i64 a0_0, .int .i64 a0_1, .slice A0_2 l0_2.length c0_2] 25 (0, 0)) (by (with_reducible repeat (first | refine z1i ?_ _ | refine z3i ?_ | refine z2i ?_ _)); exact BK210.out) hb); have n1_ := z0i (y6i (by repeat (first | (with_reducible first | exact HB.out | apply z4i | apply z5i | apply z6i | refine z7i ?_ GE210.out) | exact HB.out)) hb); have n2_ := z0i (hbox); have n3_ := z0i ((by rw [hg]; exact (y7i (by repeat (first | (with_reducible first | exact HB.out | apply z4i | apply z5i | apply z6i | refine z7i ?_ GE210.out) | exact HB.out))) : w.heap.size ≤ gb211)); have n4_ := z0i ((by rw [hg]; exact (y7i (by repeat (first | (with_reducible first | exact HB.out | apply z4i | apply z5i | apply z6i | refine z7i ?_ GE210.out) | exact HB.out))) : w.heap.size ≤ gb211)); have n5_ := z0i ((by rw [hg]; exact Nat.ne_of_lt (blk_lt (g := gb210) (o := .cells #[.int .i64 a0_0, .int .i64 a0_1, .slice A0_2 l0_2.length c0_2] 25 (0, 0)) (by (with_reducible repeat (first | refine z1i ?_ _ | refine z3i ?_ | refine z2i ?_ _)); exact BK210.out)) : gb210 ≠ gb211)); have n6_ := z0i ((by rw [hg]; exact Nat.ne_of_gt (blk_lt (g := gb210) (o := .cells #[.int .i64 a0_0, .int .i64 a0_1, .slice A0_2 l0_2.length c0_2] 25 (0, 0)) (by (with_reducible repeat (first | refine z1i ?_ _ | refine z3i ?_ | refine z2i ?_ _)); exact BK210.out)) : gb211 ≠ gb210)); clear BK210; clear HB; have BK210 := n0_; have HB := n1_; have BK211 := n2_; have GW211 := n3_; have GE211 := n4_; have NB210_211 := n5_; have NB211_210 := n6_; clear n0_ n1_ n2_ n3_ n4_ n5_ n6_; clear hb hbox hg; have hnb9 := NB210_211.out; have hnc9 := NB211_210.out; have hcz10_0 : w8.cell? ⟨gb210, 0, none⟩ = some (.int .i64 a0_0) := (x3i BK210.out 0).trans rfl; have hcz10_1 : w8.cell? ⟨gb210, 1, none⟩ = some (.int .i64 a0_1) := (x3i BK210.out 1).trans rfl; have hcz10_2 : w8.cell? ⟨gb210, 2, none⟩ = some (.slice A0_2 l0_2.length c0_2) := (x3i BK210.out 2).trans rfl; have hfz10_0 := x2i BK210.out 0; have hfz10_1 := x2i BK210.out 1; have hfz10_2 := x2i BK210.out 2; have hcz11_0 : w8.cell? ⟨gb211, 0, none⟩ = some (.int .i64 a1_0) := (x3i BK211.out 0).trans rfl; have hcz11_1 : w8.cell? ⟨gb211, 1, none⟩ = some (.int .i64 a1_1) := (x3i BK211.out 1).trans rfl; have hcz11_2 : w8.cell? ⟨gb211, 2, none⟩ = some (.slice A1_2 l1_2.length c1_2) := (x3i BK211.out 2).trans rfl; have hfz11_0 := x2i BK211.out 0; have hfz11_1 := x2i BK211.out 1; have hfz11_2 := x2i BK211.out 2) | ((with_reducible refine gate_callee (f := 116) rfl ?_); refine goesL_ (some 19) rfl rfl Try.func116 (by kernel_rfl) rfl #[.slice A0_2 l0_2.length c0_2, .slice A1_2 l1_2.length c1_2] rfl (by (try simp only [List.map_toArray, List.map_cons, List.map_nil]); first | done | rfl | (simp only [List.length_drop, List.length_take]; rfl)) ?_; (with_reducible refine (laws_eqIntS.calls k _ _ l0_2 _ _ l1_2 true _ ?side1 ?side2 ?side3 ?side4 A5.out).mono ?_); (case side1 => repeat (first | exact HR0_2.out | exact (y9i HR0_2.out HB.out) | (with_reducible refine y2i ?_ _) | (with_reducible refine y3i ?_ _) | (with_reducible refine y4i ?_))); (case side2 => exact HC0_2.out); (case side3 => repeat (first | exact HR1_2.out | exact (y9i HR1_2.out HB.out) | (with_reducible refine y2i ?_ _) | (with_reducible refine y3i ?_ _) | (with_reducible refine y4i ?_))); (case side4 => exact HC1_2.out); rintro e w' ⟨rfl, ⟨nd, rfl⟩⟩; refine ⟨_, rfl, ?_⟩))
    go_ret
    exact ⟨by first | rfl | (simp [errW_none, errW_some] <;> rfl) | (simp [*, errW_none, errW_some] <;> rfl), by repeat (first | (with_reducible first | exact HB.out | apply z4i | apply z5i | apply z6i | refine z7i ?_ GE210.out | refine z7i ?_ GE211.out) | exact HB.out)⟩
   ·replace c6 := Bool.eq_false_iff.mpr c6
    subst c6
    have H1 : (some false) = some r := by rw [if_neg (show ¬ (false = true) by decide)] at H; first | exact H | (simp only [if_true] at H ⊢; exact H)
    clear H
    have H := H1
    clear H1
    obtain rfl := Option.some.inj H
    go_enter Try.func95, Try.ntmps95
    go_wp2_with (first | ((with_reducible refine gate_dst (N := 2) rfl ?_); refine box_event ?hg (N := 2) ?hd (cs := #[.int .i64 a0_0, .int .i64 a0_1, .slice A0_2 l0_2.length c0_2]) (t := 25) ?hr ?_; (case hd => rfl); (case hg => rfl); (case hr => first | (go_simp; done) | (go_simp; rfl)); intro gb210 hg w12 hbox hb; have n0_ := z0i (y6i (by repeat (first | (with_reducible first | exact HB.out | apply z4i | apply z5i | apply z6i) | exact HB.out)) hb); have n1_ := z0i (hbox); have n2_ := z0i ((by rw [hg]; exact (y7i (by repeat (first | (with_reducible first | exact HB.out | apply z4i | apply z5i | apply z6i) | exact HB.out))) : w.heap.size ≤ gb210)); have n3_ := z0i ((by rw [hg]; exact (y7i (by repeat (first | (with_reducible first | exact HB.out | apply z4i | apply z5i | apply z6i) | exact HB.out))) : w.heap.size ≤ gb210)); clear HB; have HB := n0_; have BK210 := n1_; have GW210 := n2_; have GE210 := n3_; clear n0_ n1_ n2_ n3_; clear hb hbox hg) | ((with_reducible refine gate_dst (N := 3) rfl ?_); refine box_event ?hg (N := 3) ?hd (cs := #[.int .i64 a1_0, .int .i64 a1_1, .slice A1_2 l1_2.length c1_2]) (t := 25) ?hr ?_; (case hd => rfl); (case hg => rfl); (case hr => first | (go_simp; done) | (go_simp; rfl)); intro gb211 hg w13 hbox hb; have n0_ := z0i (y5i (g := gb210) (o := .cells #[.int .i64 a0_0, .int .i64 a0_1, .slice A0_2 l0_2.length c0_2] 25 (0, 0)) (by (with_reducible repeat (first | refine z1i ?_ _ | refine z3i ?_ | refine z2i ?_ _)); exact BK210.out) hb); have n1_ := z0i (y6i (by repeat (first | (with_reducible first | exact HB.out | apply z4i | apply z5i | apply z6i | refine z7i ?_ GE210.out) | exact HB.out)) hb); have n2_ := z0i (hbox); have n3_ := z0i ((by rw [hg]; exact (y7i (by repeat (first | (with_reducible first | exact HB.out | apply z4i | apply z5i | apply z6i | refine z7i ?_ GE210.out) | exact HB.out))) : w.heap.size ≤ gb211)); have n4_ := z0i ((by rw [hg]; exact (y7i (by repeat (first | (with_reducible first | exact HB.out | apply z4i | apply z5i | apply z6i | refine z7i ?_ GE210.out) | exact HB.out))) : w.heap.size ≤ gb211)); have n5_ := z0i ((by rw [hg]; exact Nat.ne_of_lt (blk_lt (g := gb210) (o := .cells #[.int .i64 a0_0, .int .i64 a0_1, .slice A0_2 l0_2.length c0_2] 25 (0, 0)) (by (with_reducible repeat (first | refine z1i ?_ _ | refine z3i ?_ | refine z2i ?_ _)); exact BK210.out)) : gb210 ≠ gb211)); have n6_ := z0i ((by rw [hg]; exact Nat.ne_of_gt (blk_lt (g := gb210) (o := .cells #[.int .i64 a0_0, .int .i64 a0_1, .slice A0_2 l0_2.length c0_2] 25 (0, 0)) (by (with_reducible repeat (first | refine z1i ?_ _ | refine z3i ?_ | refine z2i ?_ _)); exact BK210.out)) : gb211 ≠ gb210)); clear BK210; clear HB; have BK210 := n0_; have HB := n1_; have BK211 := n2_; have GW211 := n3_; have GE211 := n4_; have NB210_211 := n5_; have NB211_210 := n6_; clear n0_ n1_ n2_ n3_ n4_ n5_ n6_; clear hb hbox hg; have hnb14 := NB210_211.out; have hnc14 := NB211_210.out; have hcz15_0 : w13.cell? ⟨gb210, 0, none⟩ = some (.int .i64 a0_0) := (x3i BK210.out 0).trans rfl; have hcz15_1 : w13.cell? ⟨gb210, 1, none⟩ = some (.int .i64 a0_1) := (x3i BK210.out 1).trans rfl; have hcz15_2 : w13.cell? ⟨gb210, 2, none⟩ = some (.slice A0_2 l0_2.length c0_2) := (x3i BK210.out 2).trans rfl; have hfz15_0 := x2i BK210.out 0; have hfz15_1 := x2i BK210.out 1; have hfz15_2 := x2i BK210.out 2; have hcz16_0 : w13.cell? ⟨gb211, 0, none⟩ = some (.int .i64 a1_0) := (x3i BK211.out 0).trans rfl; have hcz16_1 : w13.cell? ⟨gb211, 1, none⟩ = some (.int .i64 a1_1) := (x3i BK211.out 1).trans rfl; have hcz16_2 : w13.cell? ⟨gb211, 2, none⟩ = some (.slice A1_2 l1_2.length c1_2) := (x3i BK211.out 2).trans rfl; have hfz16_0 := x2i BK211.out 0; have hfz16_1 := x2i BK211.out 1; have hfz16_2 := x2i BK211.out 2) | ((with_reducible refine gate_callee (f := 116) rfl ?_); refine goesL_ (some 19) rfl rfl Try.func116 (by kernel_rfl) rfl #[.slice A0_2 l0_2.length c0_2, .slice A1_2 l1_2.length c1_2] rfl (by (try simp only [List.map_toArray, List.map_cons, List.map_nil]); first | done | rfl | (simp only [List.length_drop, List.length_take]; rfl)) ?_; (with_reducible refine (laws_eqIntS.calls k _ _ l0_2 _ _ l1_2 false _ ?side1 ?side2 ?side3 ?side4 A5.out).mono ?_); (case side1 => repeat (first | exact HR0_2.out | exact (y9i HR0_2.out HB.out) | (with_reducible refine y2i ?_ _) | (with_reducible refine y3i ?_ _) | (with_reducible refine y4i ?_))); (case side2 => exact HC0_2.out); (case side3 => repeat (first | exact HR1_2.out | exact (y9i HR1_2.out HB.out) | (with_reducible refine y2i ?_ _) | (with_reducible refine y3i ?_ _) | (with_reducible refine y4i ?_))); (case side4 => exact HC1_2.out); rintro e w' ⟨rfl, ⟨nd, rfl⟩⟩; refine ⟨_, rfl, ?_⟩))
    go_ret
    exact ⟨by first | rfl | (simp [errW_none, errW_some] <;> rfl) | (simp [*, errW_none, errW_some] <;> rfl), by repeat (first | (with_reducible first | exact HB.out | apply z4i | apply z5i | apply z6i | refine z7i ?_ GE210.out | refine z7i ?_ GE211.out) | exact HB.out)⟩
  ·rw [if_neg c4] at H
   have c4b0 : (a0_1 == a1_1) = false := beq_eq_false_iff_ne.mpr c4
   have c4b1 : (a0_1 != a1_1) = true := bne_iff_ne.mpr c4
   obtain rfl := Option.some.inj H
   go_enter Try.func95, Try.ntmps95
   go_wp2_with (first | ((with_reducible refine gate_dst (N := 2) rfl ?_); refine box_event ?hg (N := 2) ?hd (cs := #[.int .i64 a0_0, .int .i64 a0_1, .slice A0_2 l0_2.length c0_2]) (t := 25) ?hr ?_; (case hd => rfl); (case hg => rfl); (case hr => first | (go_simp; done) | (go_simp; rfl)); intro gb210 hg w17 hbox hb; have n0_ := z0i (y6i (by repeat (first | (with_reducible first | exact HB.out | apply z4i | apply z5i | apply z6i) | exact HB.out)) hb); have n1_ := z0i (hbox); have n2_ := z0i ((by rw [hg]; exact (y7i (by repeat (first | (with_reducible first | exact HB.out | apply z4i | apply z5i | apply z6i) | exact HB.out))) : w.heap.size ≤ gb210)); have n3_ := z0i ((by rw [hg]; exact (y7i (by repeat (first | (with_reducible first | exact HB.out | apply z4i | apply z5i | apply z6i) | exact HB.out))) : w.heap.size ≤ gb210)); clear HB; have HB := n0_; have BK210 := n1_; have GW210 := n2_; have GE210 := n3_; clear n0_ n1_ n2_ n3_; clear hb hbox hg) | ((with_reducible refine gate_dst (N := 3) rfl ?_); refine box_event ?hg (N := 3) ?hd (cs := #[.int .i64 a1_0, .int .i64 a1_1, .slice A1_2 l1_2.length c1_2]) (t := 25) ?hr ?_; (case hd => rfl); (case hg => rfl); (case hr => first | (go_simp; done) | (go_simp; rfl)); intro gb211 hg w18 hbox hb; have n0_ := z0i (y5i (g := gb210) (o := .cells #[.int .i64 a0_0, .int .i64 a0_1, .slice A0_2 l0_2.length c0_2] 25 (0, 0)) (by (with_reducible repeat (first | refine z1i ?_ _ | refine z3i ?_ | refine z2i ?_ _)); exact BK210.out) hb); have n1_ := z0i (y6i (by repeat (first | (with_reducible first | exact HB.out | apply z4i | apply z5i | apply z6i | refine z7i ?_ GE210.out) | exact HB.out)) hb); have n2_ := z0i (hbox); have n3_ := z0i ((by rw [hg]; exact (y7i (by repeat (first | (with_reducible first | exact HB.out | apply z4i | apply z5i | apply z6i | refine z7i ?_ GE210.out) | exact HB.out))) : w.heap.size ≤ gb211)); have n4_ := z0i ((by rw [hg]; exact (y7i (by repeat (first | (with_reducible first | exact HB.out | apply z4i | apply z5i | apply z6i | refine z7i ?_ GE210.out) | exact HB.out))) : w.heap.size ≤ gb211)); have n5_ := z0i ((by rw [hg]; exact Nat.ne_of_lt (blk_lt (g := gb210) (o := .cells #[.int .i64 a0_0, .int .i64 a0_1, .slice A0_2 l0_2.length c0_2] 25 (0, 0)) (by (with_reducible repeat (first | refine z1i ?_ _ | refine z3i ?_ | refine z2i ?_ _)); exact BK210.out)) : gb210 ≠ gb211)); have n6_ := z0i ((by rw [hg]; exact Nat.ne_of_gt (blk_lt (g := gb210) (o := .cells #[.int .i64 a0_0, .int .i64 a0_1, .slice A0_2 l0_2.length c0_2] 25 (0, 0)) (by (with_reducible repeat (first | refine z1i ?_ _ | refine z3i ?_ | refine z2i ?_ _)); exact BK210.out)) : gb211 ≠ gb210)); clear BK210; clear HB; have BK210 := n0_; have HB := n1_; have BK211 := n2_; have GW211 := n3_; have GE211 := n4_; have NB210_211 := n5_; have NB211_210 := n6_; clear n0_ n1_ n2_ n3_ n4_ n5_ n6_; clear hb hbox hg; have hnb19 := NB210_211.out; have hnc19 := NB211_210.out; have hcz20_0 : w18.cell? ⟨gb210, 0, none⟩ = some (.int .i64 a0_0) := (x3i BK210.out 0).trans rfl; have hcz20_1 : w18.cell? ⟨gb210, 1, none⟩ = some (.int .i64 a0_1) := (x3i BK210.out 1).trans rfl; have hcz20_2 : w18.cell? ⟨gb210, 2, none⟩ = some (.slice A0_2 l0_2.length c0_2) := (x3i BK210.out 2).trans rfl; have hfz20_0 := x2i BK210.out 0; have hfz20_1 := x2i BK210.out 1; have hfz20_2 := x2i BK210.out 2; have hcz21_0 : w18.cell? ⟨gb211, 0, none⟩ = some (.int .i64 a1_0) := (x3i BK211.out 0).trans rfl; have hcz21_1 : w18.cell? ⟨gb211, 1, none⟩ = some (.int .i64 a1_1) := (x3i BK211.out 1).trans rfl; have hcz21_2 : w18.cell? ⟨gb211, 2, none⟩ = some (.slice A1_2 l1_2.length c1_2) := (x3i BK211.out 2).trans rfl; have hfz21_0 := x2i BK211.out 0; have hfz21_1 := x2i BK211.out 1; have hfz21_2 := x2i BK211.out 2))
   go_ret
   exact ⟨by first | rfl | (simp [errW_none, errW_some] <;> rfl) | (simp [*, errW_none, errW_some] <;> rfl), by repeat (first | (with_reducible first | exact HB.out | apply z4i | apply z5i | apply z6i | refine z7i ?_ GE210.out | refine z7i ?_ GE211.out) | exact HB.out)⟩
 ·rw [if_neg c3] at H
  have c3b0 : (a0_0 == a1_0) = false := beq_eq_false_iff_ne.mpr c3
  have c3b1 : (a0_0 != a1_0) = true := bne_iff_ne.mpr c3
  obtain rfl := Option.some.inj H
  go_enter Try.func95, Try.ntmps95
  go_wp2_with (first | ((with_reducible refine gate_dst (N := 2) rfl ?_); refine box_event ?hg (N := 2) ?hd (cs := #[.int .i64 a0_0, .int .i64 a0_1, .slice A0_2 l0_2.length c0_2]) (t := 25) ?hr ?_; (case hd => rfl); (case hg => rfl); (case hr => first | (go_simp; done) | (go_simp; rfl)); intro gb210 hg w22 hbox hb; have n0_ := z0i (y6i (by repeat (first | (with_reducible first | exact HB.out | apply z4i | apply z5i | apply z6i) | exact HB.out)) hb); have n1_ := z0i (hbox); have n2_ := z0i ((by rw [hg]; exact (y7i (by repeat (first | (with_reducible first | exact HB.out | apply z4i | apply z5i | apply z6i) | exact HB.out))) : w.heap.size ≤ gb210)); have n3_ := z0i ((by rw [hg]; exact (y7i (by repeat (first | (with_reducible first | exact HB.out | apply z4i | apply z5i | apply z6i) | exact HB.out))) : w.heap.size ≤ gb210)); clear HB; have HB := n0_; have BK210 := n1_; have GW210 := n2_; have GE210 := n3_; clear n0_ n1_ n2_ n3_; clear hb hbox hg) | ((with_reducible refine gate_dst (N := 3) rfl ?_); refine box_event ?hg (N := 3) ?hd (cs := #[.int .i64 a1_0, .int .i64 a1_1, .slice A1_2 l1_2.length c1_2]) (t := 25) ?hr ?_; (case hd => rfl); (case hg => rfl); (case hr => first | (go_simp; done) | (go_simp; rfl)); intro gb211 hg w23 hbox hb; have n0_ := z0i (y5i (g := gb210) (o := .cells #[.int .i64 a0_0, .int .i64 a0_1, .slice A0_2 l0_2.length c0_2] 25 (0, 0)) (by (with_reducible repeat (first | refine z1i ?_ _ | refine z3i ?_ | refine z2i ?_ _)); exact BK210.out) hb); have n1_ := z0i (y6i (by repeat (first | (with_reducible first | exact HB.out | apply z4i | apply z5i | apply z6i | refine z7i ?_ GE210.out) | exact HB.out)) hb); have n2_ := z0i (hbox); have n3_ := z0i ((by rw [hg]; exact (y7i (by repeat (first | (with_reducible first | exact HB.out | apply z4i | apply z5i | apply z6i | refine z7i ?_ GE210.out) | exact HB.out))) : w.heap.size ≤ gb211)); have n4_ := z0i ((by rw [hg]; exact (y7i (by repeat (first | (with_reducible first | exact HB.out | apply z4i | apply z5i | apply z6i | refine z7i ?_ GE210.out) | exact HB.out))) : w.heap.size ≤ gb211)); have n5_ := z0i ((by rw [hg]; exact Nat.ne_of_lt (blk_lt (g := gb210) (o := .cells #[.int .i64 a0_0, .int .i64 a0_1, .slice A0_2 l0_2.length c0_2] 25 (0, 0)) (by (with_reducible repeat (first | refine z1i ?_ _ | refine z3i ?_ | refine z2i ?_ _)); exact BK210.out)) : gb210 ≠ gb211)); have n6_ := z0i ((by rw [hg]; exact Nat.ne_of_gt (blk_lt (g := gb210) (o := .cells #[.int .i64 a0_0, .int .i64 a0_1, .slice A0_2 l0_2.length c0_2] 25 (0, 0)) (by (with_reducible repeat (first | refine z1i ?_ _ | refine z3i ?_ | refine z2i ?_ _)); exact BK210.out)) : gb211 ≠ gb210)); clear BK210; clear HB; have BK210 := n0_; have HB := n1_; have BK211 := n2_; have GW211 := n3_; have GE211 := n4_; have NB210_211 := n5_; have NB211_210 := n6_; clear n0_ n1_ n2_ n3_ n4_ n5_ n6_; clear hb hbox hg; have hnb24 := NB210_211.out; have hnc24 := NB211_210.out; have hcz25_0 : w23.cell? ⟨gb210, 0, none⟩ = some (.int .i64 a0_0) := (x3i BK210.out 0).trans rfl; have hcz25_1 : w23.cell? ⟨gb210, 1, none⟩ = some (.int .i64 a0_1) := (x3i BK210.out 1).trans rfl; have hcz25_2 : w23.cell? ⟨gb210, 2, none⟩ = some (.slice A0_2 l0_2.length c0_2) := (x3i BK210.out 2).trans rfl; have hfz25_0 := x2i BK210.out 0; have hfz25_1 := x2i BK210.out 1; have hfz25_2 := x2i BK210.out 2; have hcz26_0 : w23.cell? ⟨gb211, 0, none⟩ = some (.int .i64 a1_0) := (x3i BK211.out 0).trans rfl; have hcz26_1 : w23.cell? ⟨gb211, 1, none⟩ = some (.int .i64 a1_1) := (x3i BK211.out 1).trans rfl; have hcz26_2 : w23.cell? ⟨gb211, 2, none⟩ = some (.slice A1_2 l1_2.length c1_2) := (x3i BK211.out 2).trans rfl; have hfz26_0 := x2i BK211.out 0; have hfz26_1 := x2i BK211.out 1; have hfz26_2 := x2i BK211.out 2))
  go_ret
  exact ⟨by first | rfl | (simp [errW_none, errW_some] <;> rfl) | (simp [*, errW_none, errW_some] <;> rfl), by repeat (first | (with_reducible first | exact HB.out | apply z4i | apply z5i | apply z6i | refine z7i ?_ GE210.out | refine z7i ?_ GE211.out) | exact HB.out)⟩

/-! ### laws_eqMatrix: function 96 -/
def laws_eqMatrix.f (k : Nat) (a0_0 : Int) (a0_1 : Int) (l0_2 : List Int) (a1_0 : Int) (a1_1 : Int) (l1_2 : List Int) : Option (Bool) := if a0_0 = a1_0 then (if a0_1 = a1_1 then ((laws_eqIntS.f k l0_2 l1_2).bind fun t215 => (if t215 = true then (some true) else (some false))) else (some false)) else (some false)
theorem laws_eqMatrix.mono : ∀ a0 a1 a2 a3 a4 a5 k, LeO (laws_eqMatrix.f k a0 a1 a2 a3 a4 a5) (laws_eqMatrix.f (k + 1) a0 a1 a2 a3 a4 a5) := by
 intro a0 a1 a2 a3 a4 a5 k
 unfold laws_eqMatrix.f
 repeat' first
   | (with_reducible exact laws_eqIntS.mono _ _ _)
   | (with_reducible exact LeO.refl _)
   | (with_reducible exact LeO.none _)
   | (with_reducible refine LeO.ite ?_ ?_)
   | (with_reducible refine LeO.bind ?_ (fun _ => ?_))
   | exact laws_eqIntS.mono _ _ _
   | exact LeO.none _
   | refine LeO.ite ?_ ?_
   | refine LeO.bind ?_ (fun _ => ?_)
set_option maxHeartbeats 8000000 in
set_option maxRecDepth 100000 in
theorem laws_eqMatrix.calls (k : Nat) (a0_0 : Int) (a0_1 : Int) (A0_2 : Option Addr) (c0_2 : Nat) (l0_2 : List Int) (a1_0 : Int) (a1_1 : Int) (A1_2 : Option Addr) (c1_2 : Nat) (l1_2 : List Int) (r : Bool) (w : World) (hr0_2 : Kd.C (Kd.int .i64) w A0_2 l0_2.length l0_2) (hc0_2 : l0_2.length ≤ c0_2) (hr1_2 : Kd.C (Kd.int .i64) w A1_2 l1_2.length l1_2) (hc1_2 : l1_2.length ≤ c1_2) (h : laws_eqMatrix.f k a0_0 a0_1 l0_2 a1_0 a1_1 l1_2 = some r) :
  Calls Try.prog 96 #[.agg #[.int .i64 a0_0, .int .i64 a0_1, .slice A0_2 l0_2.length c0_2], .agg #[.int .i64 a1_0, .int .i64 a1_1, .slice A1_2 l1_2.length c1_2]] w fun e w' => e = .returned (.bool r) ∧ Below w.heap.size w w' := by
 have hu39 := Try.underlying39
 have HR0_2 := z0i hr0_2
 have HC0_2 := z0i hc0_2
 clear hr0_2 hc0_2
 have HR1_2 := z0i hr1_2
 have HC1_2 := z0i hc1_2
 clear hr1_2 hc1_2
 have HB := z0i (Below.refl w.heap.size w)
 have H : (if a0_0 = a1_0 then (if a0_1 = a1_1 then ((laws_eqIntS.f k l0_2 l1_2).bind fun t215 => (if t215 = true then (some true) else (some false))) else (some false)) else (some false)) = some r := h
 clear h
 by_cases c3 : a0_0 = a1_0
 ·rw [if_pos c3] at H
  have c3b0 : (a0_0 == a1_0) = true := beq_iff_eq.mpr c3
  have c3b1 : (a0_0 != a1_0) = false := bne_eq_false_iff_eq.mpr c3
  clear c3
  by_cases c4 : a0_1 = a1_1
  ·rw [if_pos c4] at H
   have c4b0 : (a0_1 == a1_1) = true := beq_iff_eq.mpr c4
   have c4b1 : (a0_1 != a1_1) = false := bne_eq_false_iff_eq.mpr c4
   clear c4
   replace H := Option.bind_eq_some_iff.mp H
   obtain ⟨t215, A50, H⟩ := H
   replace H : (if t215 = true then (some true) else (some false)) = some r := H
   have A5 := z0i A50
   clear A50
   by_cases c6 : t215 = true
   ·subst c6
    have H1 : (some true) = some r := by rw [if_pos rfl] at H; first | exact H | (simp only [if_true] at H ⊢; exact H)
    clear H
    have H := H1
    clear H1
    obtain rfl := Option.some.inj H
    go_enter Try.func96, Try.ntmps96
    go_wp2_with (first | ((with_reducible refine gate_dst (N := 2) rfl ?_); refine box_event ?hg (N := 2) ?hd (cs := #[.int .i64 a0_0, .int .i64 a0_1, .slice A0_2 l0_2.length c0_2]) (t := 39) ?hr ?_; (case hd => rfl); (case hg => rfl); (case hr => first | (go_simp; done) | (go_simp; rfl)); intro gb213 hg w7 hbox hb; have n0_ := z0i (y6i (by repeat (first | (with_reducible first | exact HB.out | apply z4i | apply z5i | apply z6i) | exact HB.out)) hb); have n1_ := z0i (hbox); have n2_ := z0i ((by rw [hg]; exact (y7i (by repeat (first | (with_reducible first | exact HB.out | apply z4i | apply z5i | apply z6i) | exact HB.out))) : w.heap.size ≤ gb213)); have n3_ := z0i ((by rw [hg]; exact (y7i (by repeat (first | (with_reducible first | exact HB.out | apply z4i | apply z5i | apply z6i) | exact HB.out))) : w.heap.size ≤ gb213)); clear HB; have HB := n0_; have BK213 := n1_; have GW213 := n2_; have GE213 := n3_; clear n0_ n1_ n2_ n3_; clear hb hbox hg) | ((with_reducible refine gate_dst (N := 3) rfl ?_); refine box_event ?hg (N := 3) ?hd (cs := #[.int .i64 a1_0, .int .i64 a1_1, .slice A1_2 l1_2.length c1_2]) (t := 39) ?hr ?_; (case hd => rfl); (case hg => rfl); (case hr => first | (go_simp; done) | (go_simp; rfl)); intro gb214 hg w8 hbox hb; have n0_ := z0i (y5i (g := gb213) (o := .cells #[.int .i64 a0_0, .int .i64 a0_1, .slice A0_2 l0_2.length c0_2] 39 (0, 0)) (by (with_reducible repeat (first | refine z1i ?_ _ | refine z3i ?_ | refine z2i ?_ _)); exact BK213.out) hb); have n1_ := z0i (y6i (by repeat (first | (with_reducible first | exact HB.out | apply z4i | apply z5i | apply z6i | refine z7i ?_ GE213.out) | exact HB.out)) hb); have n2_ := z0i (hbox); have n3_ := z0i ((by rw [hg]; exact (y7i (by repeat (first | (with_reducible first | exact HB.out | apply z4i | apply z5i | apply z6i | refine z7i ?_ GE213.out) | exact HB.out))) : w.heap.size ≤ gb214)); have n4_ := z0i ((by rw [hg]; exact (y7i (by repeat (first | (with_reducible first | exact HB.out | apply z4i | apply z5i | apply z6i | refine z7i ?_ GE213.out) | exact HB.out))) : w.heap.size ≤ gb214)); have n5_ := z0i ((by rw [hg]; exact Nat.ne_of_lt (blk_lt (g := gb213) (o := .cells #[.int .i64 a0_0, .int .i64 a0_1, .slice A0_2 l0_2.length c0_2] 39 (0, 0)) (by (with_reducible repeat (first | refine z1i ?_ _ | refine z3i ?_ | refine z2i ?_ _)); exact BK213.out)) : gb213 ≠ gb214)); have n6_ := z0i ((by rw [hg]; exact Nat.ne_of_gt (blk_lt (g := gb213) (o := .cells #[.int .i64 a0_0, .int .i64 a0_1, .slice A0_2 l0_2.length c0_2] 39 (0, 0)) (by (with_reducible repeat (first | refine z1i ?_ _ | refine z3i ?_ | refine z2i ?_ _)); exact BK213.out)) : gb214 ≠ gb213)); clear BK213; clear HB; have BK213 := n0_; have HB := n1_; have BK214 := n2_; have GW214 := n3_; have GE214 := n4_; have NB213_214 := n5_; have NB214_213 := n6_; clear n0_ n1_ n2_ n3_ n4_ n5_ n6_; clear hb hbox hg; have hnb9 := NB213_214.out; have hnc9 := NB214_213.out; have hcz10_0 : w8.cell? ⟨gb213, 0, none⟩ = some (.int .i64 a0_0) := (x3i BK213.out 0).trans rfl; have hcz10_1 : w8.cell? ⟨gb213, 1, none⟩ = some (.int .i64 a0_1) := (x3i BK213.out 1).trans rfl; have hcz10_2 : w8.cell? ⟨gb213, 2, none⟩ = some (.slice A0_2 l0_2.length c0_2) := (x3i BK213.out 2).trans rfl; have hfz10_0 := x2i BK213.out 0; have hfz10_1 := x2i BK213.out 1; have hfz10_2 := x2i BK213.out 2; have hcz11_0 : w8.cell? ⟨gb214, 0, none⟩ = some (.int .i64 a1_0) := (x3i BK214.out 0).trans rfl; have hcz11_1 : w8.cell? ⟨gb214, 1, none⟩ = some (.int .i64 a1_1) := (x3i BK214.out 1).trans rfl; have hcz11_2 : w8.cell? ⟨gb214, 2, none⟩ = some (.slice A1_2 l1_2.length c1_2) := (x3i BK214.out 2).trans rfl; have hfz11_0 := x2i BK214.out 0; have hfz11_1 := x2i BK214.out 1; have hfz11_2 := x2i BK214.out 2) | ((with_reducible refine gate_callee (f := 116) rfl ?_); refine goesL_ (some 19) rfl rfl Try.func116 (by kernel_rfl) rfl #[.slice A0_2 l0_2.length c0_2, .slice A1_2 l1_2.length c1_2] rfl (by (try simp only [List.map_toArray, List.map_cons, List.map_nil]); first | done | rfl | (simp only [List.length_drop, List.length_take]; rfl)) ?_; (with_reducible refine (laws_eqIntS.calls k _ _ l0_2 _ _ l1_2 true _ ?side1 ?side2 ?side3 ?side4 A5.out).mono ?_); (case side1 => repeat (first | exact HR0_2.out | exact (y9i HR0_2.out HB.out) | (with_reducible refine y2i ?_ _) | (with_reducible refine y3i ?_ _) | (with_reducible refine y4i ?_))); (case side2 => exact HC0_2.out); (case side3 => repeat (first | exact HR1_2.out | exact (y9i HR1_2.out HB.out) | (with_reducible refine y2i ?_ _) | (with_reducible refine y3i ?_ _) | (with_reducible refine y4i ?_))); (case side4 => exact HC1_2.out); rintro e w' ⟨rfl, ⟨nd, rfl⟩⟩; refine ⟨_, rfl, ?_⟩))
    go_ret
    exact ⟨by first | rfl | (simp [errW_none, errW_some] <;> rfl) | (simp [*, errW_none, errW_some] <;> rfl), by repeat (first | (with_reducible first | exact HB.out | apply z4i | apply z5i | apply z6i | refine z7i ?_ GE213.out | refine z7i ?_ GE214.out) | exact HB.out)⟩
   ·replace c6 := Bool.eq_false_iff.mpr c6
    subst c6
    have H1 : (some false) = some r := by rw [if_neg (show ¬ (false = true) by decide)] at H; first | exact H | (simp only [if_true] at H ⊢; exact H)
    clear H
    have H := H1
    clear H1
    obtain rfl := Option.some.inj H
    go_enter Try.func96, Try.ntmps96
    go_wp2_with (first | ((with_reducible refine gate_dst (N := 2) rfl ?_); refine box_event ?hg (N := 2) ?hd (cs := #[.int .i64 a0_0, .int .i64 a0_1, .slice A0_2 l0_2.length c0_2]) (t := 39) ?hr ?_; (case hd => rfl); (case hg => rfl); (case hr => first | (go_simp; done) | (go_simp; rfl)); intro gb213 hg w12 hbox hb; have n0_ := z0i (y6i (by repeat (first | (with_reducible first | exact HB.out | apply z4i | apply z5i | apply z6i) | exact HB.out)) hb); have n1_ := z0i (hbox); have n2_ := z0i ((by rw [hg]; exact (y7i (by repeat (first | (with_reducible first | exact HB.out | apply z4i | apply z5i | apply z6i) | exact HB.out))) : w.heap.size ≤ gb213)); have n3_ := z0i ((by rw [hg]; exact (y7i (by repeat (first | (with_reducible first | exact HB.out | apply z4i | apply z5i | apply z6i) | exact HB.out))) : w.heap.size ≤ gb213)); clear HB; have HB := n0_; have BK213 := n1_; have GW213 := n2_; have GE213 := n3_; clear n0_ n1_ n2_ n3_; clear hb hbox hg) | ((with_reducible refine gate_dst (N := 3) rfl ?_); refine box_event ?hg (N := 3) ?hd (cs := #[.int .i64 a1_0, .int .i64 a1_1, .slice A1_2 l1_2.length c1_2]) (t := 39) ?hr ?_; (case hd => rfl); (case hg => rfl); (case hr => first | (go_simp; done) | (go_simp; rfl)); intro gb214 hg w13 hbox hb; have n0_ := z0i (y5i (g := gb213) (o := .cells #[.int .i64 a0_0, .int .i64 a0_1, .slice A0_2 l0_2.length c0_2] 39 (0, 0)) (by (with_reducible repeat (first | refine z1i ?_ _ | refine z3i ?_ | refine z2i ?_ _)); exact BK213.out) hb); have n1_ := z0i (y6i (by repeat (first | (with_reducible first | exact HB.out | apply z4i | apply z5i | apply z6i | refine z7i ?_ GE213.out) | exact HB.out)) hb); have n2_ := z0i (hbox); have n3_ := z0i ((by rw [hg]; exact (y7i (by repeat (first | (with_reducible first | exact HB.out | apply z4i | apply z5i | apply z6i | refine z7i ?_ GE213.out) | exact HB.out))) : w.heap.size ≤ gb214)); have n4_ := z0i ((by rw [hg]; exact (y7i (by repeat (first | (with_reducible first | exact HB.out | apply z4i | apply z5i | apply z6i | refine z7i ?_ GE213.out) | exact HB.out))) : w.heap.size ≤ gb214)); have n5_ := z0i ((by rw [hg]; exact Nat.ne_of_lt (blk_lt (g := gb213) (o := .cells #[.int .i64 a0_0, .int .i64 a0_1, .slice A0_2 l0_2.length c0_2] 39 (0, 0)) (by (with_reducible repeat (first | refine z1i ?_ _ | refine z3i ?_ | refine z2i ?_ _)); exact BK213.out)) : gb213 ≠ gb214)); have n6_ := z0i ((by rw [hg]; exact Nat.ne_of_gt (blk_lt (g := gb213) (o := .cells #[.int .i64 a0_0, .int .i64 a0_1, .slice A0_2 l0_2.length c0_2] 39 (0, 0)) (by (with_reducible repeat (first | refine z1i ?_ _ | refine z3i ?_ | refine z2i ?_ _)); exact BK213.out)) : gb214 ≠ gb213)); clear BK213; clear HB; have BK213 := n0_; have HB := n1_; have BK214 := n2_; have GW214 := n3_; have GE214 := n4_; have NB213_214 := n5_; have NB214_213 := n6_; clear n0_ n1_ n2_ n3_ n4_ n5_ n6_; clear hb hbox hg; have hnb14 := NB213_214.out; have hnc14 := NB214_213.out; have hcz15_0 : w13.cell? ⟨gb213, 0, none⟩ = some (.int .i64 a0_0) := (x3i BK213.out 0).trans rfl; have hcz15_1 : w13.cell? ⟨gb213, 1, none⟩ = some (.int .i64 a0_1) := (x3i BK213.out 1).trans rfl; have hcz15_2 : w13.cell? ⟨gb213, 2, none⟩ = some (.slice A0_2 l0_2.length c0_2) := (x3i BK213.out 2).trans rfl; have hfz15_0 := x2i BK213.out 0; have hfz15_1 := x2i BK213.out 1; have hfz15_2 := x2i BK213.out 2; have hcz16_0 : w13.cell? ⟨gb214, 0, none⟩ = some (.int .i64 a1_0) := (x3i BK214.out 0).trans rfl; have hcz16_1 : w13.cell? ⟨gb214, 1, none⟩ = some (.int .i64 a1_1) := (x3i BK214.out 1).trans rfl; have hcz16_2 : w13.cell? ⟨gb214, 2, none⟩ = some (.slice A1_2 l1_2.length c1_2) := (x3i BK214.out 2).trans rfl; have hfz16_0 := x2i BK214.out 0; have hfz16_1 := x2i BK214.out 1; have hfz16_2 := x2i BK214.out 2) | ((with_reducible refine gate_callee (f := 116) rfl ?_); refine goesL_ (some 19) rfl rfl Try.func116 (by kernel_rfl) rfl #[.slice A0_2 l0_2.length c0_2, .slice A1_2 l1_2.length c1_2] rfl (by (try simp only [List.map_toArray, List.map_cons, List.map_nil]); first | done | rfl | (simp only [List.length_drop, List.length_take]; rfl)) ?_; (with_reducible refine (laws_eqIntS.calls k _ _ l0_2 _ _ l1_2 false _ ?side1 ?side2 ?side3 ?side4 A5.out).mono ?_); (case side1 => repeat (first | exact HR0_2.out | exact (y9i HR0_2.out HB.out) | (with_reducible refine y2i ?_ _) | (with_reducible refine y3i ?_ _) | (with_reducible refine y4i ?_))); (case side2 => exact HC0_2.out); (case side3 => repeat (first | exact HR1_2.out | exact (y9i HR1_2.out HB.out) | (with_reducible refine y2i ?_ _) | (with_reducible refine y3i ?_ _) | (with_reducible refine y4i ?_))); (case side4 => exact HC1_2.out); rintro e w' ⟨rfl, ⟨nd, rfl⟩⟩; refine ⟨_, rfl, ?_⟩))
    go_ret
    exact ⟨by first | rfl | (simp [errW_none, errW_some] <;> rfl) | (simp [*, errW_none, errW_some] <;> rfl), by repeat (first | (with_reducible first | exact HB.out | apply z4i | apply z5i | apply z6i | refine z7i ?_ GE213.out | refine z7i ?_ GE214.out) | exact HB.out)⟩
  ·rw [if_neg c4] at H
   have c4b0 : (a0_1 == a1_1) = false := beq_eq_false_iff_ne.mpr c4
   have c4b1 : (a0_1 != a1_1) = true := bne_iff_ne.mpr c4
   obtain rfl := Option.some.inj H
   go_enter Try.func96, Try.ntmps96
   go_wp2_with (first | ((with_reducible refine gate_dst (N := 2) rfl ?_); refine box_event ?hg (N := 2) ?hd (cs := #[.int .i64 a0_0, .int .i64 a0_1, .slice A0_2 l0_2.length c0_2]) (t := 39) ?hr ?_; (case hd => rfl); (case hg => rfl); (case hr => first | (go_simp; done) | (go_simp; rfl)); intro gb213 hg w17 hbox hb; have n0_ := z0i (y6i (by repeat (first | (with_reducible first | exact HB.out | apply z4i | apply z5i | apply z6i) | exact HB.out)) hb); have n1_ := z0i (hbox); have n2_ := z0i ((by rw [hg]; exact (y7i (by repeat (first | (with_reducible first | exact HB.out | apply z4i | apply z5i | apply z6i) | exact HB.out))) : w.heap.size ≤ gb213)); have n3_ := z0i ((by rw [hg]; exact (y7i (by repeat (first | (with_reducible first | exact HB.out | apply z4i | apply z5i | apply z6i) | exact HB.out))) : w.heap.size ≤ gb213)); clear HB; have HB := n0_; have BK213 := n1_; have GW213 := n2_; have GE213 := n3_; clear n0_ n1_ n2_ n3_; clear hb hbox hg) | ((with_reducible refine gate_dst (N := 3) rfl ?_); refine box_event ?hg (N := 3) ?hd (cs := #[.int .i64 a1_0, .int .i64 a1_1, .slice A1_2 l1_2.length c1_2]) (t := 39) ?hr ?_; (case hd => rfl); (case hg => rfl); (case hr => first | (go_simp; done) | (go_simp; rfl)); intro gb214 hg w18 hbox hb; have n0_ := z0i (y5i (g := gb213) (o := .cells #[.int .i64 a0_0, .int .i64 a0_1, .slice A0_2 l0_2.length c0_2] 39 (0, 0)) (by (with_reducible repeat (first | refine z1i ?_ _ | refine z3i ?_ | refine z2i ?_ _)); exact BK213.out) hb); have n1_ := z0i (y6i (by repeat (first | (with_reducible first | exact HB.out | apply z4i | apply z5i | apply z6i | refine z7i ?_ GE213.out) | exact HB.out)) hb); have n2_ := z0i (hbox); have n3_ := z0i ((by rw [hg]; exact (y7i (by repeat (first | (with_reducible first | exact HB.out | apply z4i | apply z5i | apply z6i | refine z7i ?_ GE213.out) | exact HB.out))) : w.heap.size ≤ gb214)); have n4_ := z0i ((by rw [hg]; exact (y7i (by repeat (first | (with_reducible first | exact HB.out | apply z4i | apply z5i | apply z6i | refine z7i ?_ GE213.out) | exact HB.out))) : w.heap.size ≤ gb214)); have n5_ := z0i ((by rw [hg]; exact Nat.ne_of_lt (blk_lt (g := gb213) (o := .cells #[.int .i64 a0_0, .int .i64 a0_1, .slice A0_2 l0_2.length c0_2] 39 (0, 0)) (by (with_reducible repeat (first | refine z1i ?_ _ | refine z3i ?_ | refine z2i ?_ _)); exact BK213.out)) : gb213 ≠ gb214)); have n6_ := z0i ((by rw [hg]; exact Nat.ne_of_gt (blk_lt (g := gb213) (o := .cells #[.int .i64 a0_0, .int .i64 a0_1, .slice A0_2 l0_2.length c0_2] 39 (0, 0)) (by (with_reducible repeat (first | refine z1i ?_ _ | refine z3i ?_ | refine z2i ?_ _)); exact BK213.out)) : gb214 ≠ gb213)); clear BK213; clear HB; have BK213 := n0_; have HB := n1_; have BK214 := n2_; have GW214 := n3_; have GE214 := n4_; have NB213_214 := n5_; have NB214_213 := n6_; clear n0_ n1_ n2_ n3_ n4_ n5_ n6_; clear hb hbox hg; have hnb19 := NB213_214.out; have hnc19 := NB214_213.out; have hcz20_0 : w18.cell? ⟨gb213, 0, none⟩ = some (.int .i64 a0_0) := (x3i BK213.out 0).trans rfl; have hcz20_1 : w18.cell? ⟨gb213, 1, none⟩ = some (.int .i64 a0_1) := (x3i BK213.out 1).trans rfl; have hcz20_2 : w18.cell? ⟨gb213, 2, none⟩ = some (.slice A0_2 l0_2.length c0_2) := (x3i BK213.out 2).trans rfl; have hfz20_0 := x2i BK213.out 0; have hfz20_1 := x2i BK213.out 1; have hfz20_2 := x2i BK213.out 2; have hcz21_0 : w18.cell? ⟨gb214, 0, none⟩ = some (.int .i64 a1_0) := (x3i BK214.out 0).trans rfl; have hcz21_1 : w18.cell? ⟨gb214, 1, none⟩ = some (.int .i64 a1_1) := (x3i BK214.out 1).trans rfl; have hcz21_2 : w18.cell? ⟨gb214, 2, none⟩ = some (.slice A1_2 l1_2.length c1_2) := (x3i BK214.out 2).trans rfl; have hfz21_0 := x2i BK214.out 0; have hfz21_1 := x2i BK214.out 1; have hfz21_2 := x2i BK214.out 2))
   go_ret
   exact ⟨by first | rfl | (simp [errW_none, errW_some] <;> rfl) | (simp [*, errW_none, errW_some] <;> rfl), by repeat (first | (with_reducible first | exact HB.out | apply z4i | apply z5i | apply z6i | refine z7i ?_ GE213.out | refine z7i ?_ GE214.out) | exact HB.out)⟩
 ·rw [if_neg c3] at H
  have c3b0 : (a0_0 == a1_0) = false := beq_eq_false_iff_ne.mpr c3
  have c3b1 : (a0_0 != a1_0) = true := bne_iff_ne.mpr c3
  obtain rfl := Option.some.inj H
  go_enter Try.func96, Try.ntmps96
  go_wp2_with (first | ((with_reducible refine gate_dst (N := 2) rfl ?_); refine box_event ?hg (N := 2) ?hd (cs := #[.int .i64 a0_0, .int .i64 a0_1, .slice A0_2 l0_2.length c0_2]) (t := 39) ?hr ?_; (case hd => rfl); (case hg => rfl); (case hr => first | (go_simp; done) | (go_simp; rfl)); intro gb213 hg w22 hbox hb; have n0_ := z0i (y6i (by repeat (first | (with_reducible first | exact HB.out | apply z4i | apply z5i | apply z6i) | exact HB.out)) hb); have n1_ := z0i (hbox); have n2_ := z0i ((by rw [hg]; exact (y7i (by repeat (first | (with_reducible first | exact HB.out | apply z4i | apply z5i | apply z6i) | exact HB.out))) : w.heap.size ≤ gb213)); have n3_ := z0i ((by rw [hg]; exact (y7i (by repeat (first | (with_reducible first | exact HB.out | apply z4i | apply z5i | apply z6i) | exact HB.out))) : w.heap.size ≤ gb213)); clear HB; have HB := n0_; have BK213 := n1_; have GW213 := n2_; have GE213 := n3_; clear n0_ n1_ n2_ n3_; clear hb hbox hg) | ((with_reducible refine gate_dst (N := 3) rfl ?_); refine box_event ?hg (N := 3) ?hd (cs := #[.int .i64 a1_0, .int .i64 a1_1, .slice A1_2 l1_2.length c1_2]) (t := 39) ?hr ?_; (case hd => rfl); (case hg => rfl); (case hr => first | (go_simp; done) | (go_simp; rfl)); intro gb214 hg w23 hbox hb; have n0_ := z0i (y5i (g := gb213) (o := .cells #[.int .i64 a0_0, .int .i64 a0_1, .slice A0_2 l0_2.length c0_2] 39 (0, 0)) (by (with_reducible repeat (first | refine z1i ?_ _ | refine z3i ?_ | refine z2i ?_ _)); exact BK213.out) hb); have n1_ := z0i (y6i (by repeat (first | (with_reducible first | exact HB.out | apply z4i | apply z5i | apply z6i | refine z7i ?_ GE213.out) | exact HB.out)) hb); have n2_ := z0i (hbox); have n3_ := z0i ((by rw [hg]; exact (y7i (by repeat (first | (with_reducible first | exact HB.out | apply z4i | apply z5i | apply z6i | refine z7i ?_ GE213.out) | exact HB.out))) : w.heap.size ≤ gb214)); have n4_ := z0i ((by rw [hg]; exact (y7i (by repeat (first | (with_reducible first | exact HB.out | apply z4i | apply z5i | apply z6i | refine z7i ?_ GE213.out) | exact HB.out))) : w.heap.size ≤ gb214)); have n5_ := z0i ((by rw [hg]; exact Nat.ne_of_lt (blk_lt (g := gb213) (o := .cells #[.int .i64 a0_0, .int .i64 a0_1, .slice A0_2 l0_2.length c0_2] 39 (0, 0)) (by (with_reducible repeat (first | refine z1i ?_ _ | refine z3i ?_ | refine z2i ?_ _)); exact BK213.out)) : gb213 ≠ gb214)); have n6_ := z0i ((by rw [hg]; exact Nat.ne_of_gt (blk_lt (g := gb213) (o := .cells #[.int .i64 a0_0, .int .i64 a0_1, .slice A0_2 l0_2.length c0_2] 39 (0, 0)) (by (with_reducible repeat (first | refine z1i ?_ _ | refine z3i ?_ | refine z2i ?_ _)); exact BK213.out)) : gb214 ≠ gb213)); clear BK213; clear HB; have BK213 := n0_; have HB := n1_; have BK214 := n2_; have GW214 := n3_; have GE214 := n4_; have NB213_214 := n5_; have NB214_213 := n6_; clear n0_ n1_ n2_ n3_ n4_ n5_ n6_; clear hb hbox hg; have hnb24 := NB213_214.out; have hnc24 := NB214_213.out; have hcz25_0 : w23.cell? ⟨gb213, 0, none⟩ = some (.int .i64 a0_0) := (x3i BK213.out 0).trans rfl; have hcz25_1 : w23.cell? ⟨gb213, 1, none⟩ = some (.int .i64 a0_1) := (x3i BK213.out 1).trans rfl; have hcz25_2 : w23.cell? ⟨gb213, 2, none⟩ = some (.slice A0_2 l0_2.length c0_2) := (x3i BK213.out 2).trans rfl; have hfz25_0 := x2i BK213.out 0; have hfz25_1 := x2i BK213.out 1; have hfz25_2 := x2i BK213.out 2; have hcz26_0 : w23.cell? ⟨gb214, 0, none⟩ = some (.int .i64 a1_0) := (x3i BK214.out 0).trans rfl; have hcz26_1 : w23.cell? ⟨gb214, 1, none⟩ = some (.int .i64 a1_1) := (x3i BK214.out 1).trans rfl; have hcz26_2 : w23.cell? ⟨gb214, 2, none⟩ = some (.slice A1_2 l1_2.length c1_2) := (x3i BK214.out 2).trans rfl; have hfz26_0 := x2i BK214.out 0; have hfz26_1 := x2i BK214.out 1; have hfz26_2 := x2i BK214.out 2))
  go_ret
  exact ⟨by first | rfl | (simp [errW_none, errW_some] <;> rfl) | (simp [*, errW_none, errW_some] <;> rfl), by repeat (first | (with_reducible first | exact HB.out | apply z4i | apply z5i | apply z6i | refine z7i ?_ GE213.out | refine z7i ?_ GE214.out) | exact HB.out)⟩

/-! ### laws_eqPictureS: function 97 -/
def laws_eqPictureS.l0 : Nat → List (S25) → List (S25) → Int → Option (Bool)
 | 0, _, _, _ => none
 | k + 1, x0, x1, x5 => if x5 < (x0.length : Int) then (if 0 ≤ x5 then (if x5 < (x1.length : Int) then ((laws_eqPicture.f k ((rd_T25 x0 x5).f0) ((rd_T25 x0 x5).f1) ((rd_T25 x0 x5).f2) ((rd_T25 x1 x5).f0) ((rd_T25 x1 x5).f1) ((rd_T25 x1 x5).f2)).bind fun t218 => (if t218 = true then (laws_eqPictureS.l0 k x0 x1 (wrap64 (x5 + 1))) else (some false))) else (none)) else (none)) else (some true)
def laws_eqPictureS.f (k : Nat) (l0 : List (S25)) (l1 : List (S25)) : Option (Bool) := if (l0.length : Int) = (l1.length : Int) then (laws_eqPictureS.l0 k l0 l1 0) else (some false)
theorem laws_eqPictureS.mono_l : ∀ k, (∀ y0 y1 y2, LeO (laws_eqPictureS.l0 k y0 y1 y2) (laws_eqPictureS.l0 (k + 1) y0 y1 y2))
 | 0 => fun _ _ _ r h => by simp [laws_eqPictureS.l0] at h
 | k + 1 => by
  have ih0 := laws_eqPictureS.mono_l k
  ·intro y0 y1 y2
   unfold laws_eqPictureS.l0
   repeat' first
   | (with_reducible exact ih0 _ _ _)
   | (with_reducible exact laws_eqPicture.mono _ _ _ _ _ _ _)
   | (with_reducible exact LeO.refl _)
   | (with_reducible exact LeO.none _)
   | (with_reducible refine LeO.ite ?_ ?_)
   | (with_reducible refine LeO.bind ?_ (fun _ => ?_))
   | exact ih0 _ _ _
   | exact laws_eqPicture.mono _ _ _ _ _ _ _
   | exact LeO.none _
   | refine LeO.ite ?_ ?_
   | refine LeO.bind ?_ (fun _ => ?_)
theorem laws_eqPictureS.mono : ∀ a0 a1 k, LeO (laws_eqPictureS.f k a0 a1) (laws_eqPictureS.f (k + 1) a0 a1) := by
 intro a0 a1 k
 have ih0 := laws_eqPictureS.mono_l k
 unfold laws_eqPictureS.f
 repeat' first
   | (with_reducible exact ih0 _ _ _)
   | (with_reducible exact laws_eqPicture.mono _ _ _ _ _ _ _)
   | (with_reducible exact LeO.refl _)
   | (with_reducible exact LeO.none _)
   | (with_reducible refine LeO.ite ?_ ?_)
   | (with_reducible refine LeO.bind ?_ (fun _ => ?_))
   | exact ih0 _ _ _
   | exact laws_eqPicture.mono _ _ _ _ _ _ _
   | exact LeO.none _
   | refine LeO.ite ?_ ?_
   | refine LeO.bind ?_ (fun _ => ?_)
def laws_eqPictureS.T6 : Bool × List (List Nat × List Nat) := (true, [([], []), ([], []), ([0, 1], [0, 1]), ([2], [2]), ([], []), ([], []), ([4, 5], [4, 5]), ([6], [6]), ([3, 7], [3, 7]), ([8], [8])])
def laws_eqPictureS.B6 : List Nat := [0, 0, 3, 7, 0, 0, 48, 112, 255, 511]
theorem laws_eqPictureS.tab6 : rtab .any (opsOf Try.f97 6) = laws_eqPictureS.T6 := by kernel_rfl
theorem laws_eqPictureS.bits6 : waitsOk laws_eqPictureS.T6.2 laws_eqPictureS.B6 = true := by kernel_rfl
set_option maxHeartbeats 8000000 in
set_option maxRecDepth 100000 in
theorem laws_eqPictureS.calls (k : Nat) (A0 : Option Addr) (c0 : Nat) (l0 : List (S25)) (A1 : Option Addr) (c1 : Nat) (l1 : List (S25)) (r : Bool) (w : World) (hr0 : Kd.C k25 w A0 l0.length l0) (hc0 : l0.length ≤ c0) (hr1 : Kd.C k25 w A1 l1.length l1) (hc1 : l1.length ≤ c1) (h : laws_eqPictureS.f k l0 l1 = some r) :
  Calls Try.prog 97 #[.slice A0 l0.length c0, .slice A1 l1.length c1] w fun e w' => e = .returned (.bool r) ∧ Below w.heap.size w w' := by
 have hu25 := Try.underlying25
 have HR0 := z0i hr0
 have HC0 := z0i hc0
 clear hr0 hc0
 have HR1 := z0i hr1
 have HC1 := z0i hc1
 clear hr1 hc1
 have HB := z0i (Below.refl w.heap.size w)
 have H : (if (l0.length : Int) = (l1.length : Int) then (laws_eqPictureS.l0 k l0 l1 0) else (some false)) = some r := h
 clear h
 by_cases c3 : (l0.length : Int) = (l1.length : Int)
 ·rw [if_pos c3] at H
  have c3b0 : ((l0.length : Int) == (l1.length : Int)) = true := beq_iff_eq.mpr c3
  have c3b1 : ((l0.length : Int) != (l1.length : Int)) = false := bne_eq_false_iff_eq.mpr c3
  have c3b2 : (l0.length == l1.length) = true := by first | simpa using c3 | (simp at c3 ⊢; omega)
  clear c3
  have H' := z0i H
  clear H
  go_enter Try.func97, Try.ntmps97
  go_wp2
  go_loopg [5] k (fun kq v5 w' => ∃ (x5_1 : Int), v5 = .int .i64 x5_1 ∧ Aside0 (laws_eqPictureS.l0 kq l0 l1 x5_1 = some r) ∧ Aside0 (kq ≤ k) ∧ Aside0 (Below w.heap.size w w'))
  case atStart => exact ⟨(0), (by first | rfl | (simp; done) | (simp [*]; done)), H', ⟨Nat.le_refl _⟩, ⟨by repeat (first | (with_reducible first | exact HB.out | apply z4i | apply z5i | apply z6i) | exact HB.out)⟩⟩
  case round =>
   clear H'
   try clear c1
   try clear p2
   try clear c3
   try clear c3b0
   try clear c3b1
   try clear c3b2
   obtain ⟨x5_1, rfl, HA, HK1, HB⟩ := hrel
   cases gk with
   | zero => exact absurd HA.out (by simp [laws_eqPictureS.l0])
   | succ k1 =>
    have H := HA.out
    clear HA
    simp only [laws_eqPictureS.l0] at H
    by_cases c4 : x5_1 < (l0.length : Int)
    ·rw [if_pos c4] at H
     have c4b0 : decide (x5_1 < (l0.length : Int)) = true := decide_eq_true c4
     clear c4
     by_cases c5 : 0 ≤ x5_1
     ·rw [if_pos c5] at H
      have c5b0 : decide (0 ≤ x5_1) = true := decide_eq_true c5
      clear c5
      by_cases c6 : x5_1 < (l1.length : Int)
      ·rw [if_pos c6] at H
       have c6b0 : decide (x5_1 < (l1.length : Int)) = true := decide_eq_true c6
       clear c6
       replace H := Option.bind_eq_some_iff.mp H
       obtain ⟨t218, A70, H⟩ := H
       replace H : (if t218 = true then (laws_eqPictureS.l0 k1 l0 l1 (wrap64 (x5_1 + 1))) else (some false)) = some r := H
       have A7 := z0i A70
       clear A70
       by_cases c8 : t218 = true
       ·subst c8
        have H1 : (laws_eqPictureS.l0 k1 l0 l1 (wrap64 (x5_1 + 1))) = some r := by rw [if_pos rfl] at H; first | exact H | (simp only [if_true] at H ⊢; exact H)
        clear H
        have H := H1
        clear H1
        have H' := z0i H
        clear H
        try go_wp2
        have n0_ := z0i (z6i HB.out)
        clear HB
        have HB := n0_
        clear n0_
        have p216 : 0 ≤ (x5_1 : Int) := of_decide_eq_true (by first | (with_reducible assumption) | assumption)
        have q216 : x5_1 < (l0.length : Int) := of_decide_eq_true (by first | (with_reducible assumption) | assumption)
        obtain ⟨ad216, A216_2, c216_2, e216, hx216_0, hx216_1, hx216_2, hl216_2, hi216_2⟩ := at_T25 HR0.out x5_1 p216 q216
        have hw216_2 := hx216_2
        have hw216_1 := hx216_1
        have hw216_0 := hx216_0
        cases e216
        replace hx216_0 := (HB.out.cell (World.block_lt_of_cell? w _ hx216_0)).trans hx216_0
        replace hx216_1 := (HB.out.cell (World.block_lt_of_cell? w _ hx216_1)).trans hx216_1
        replace hx216_2 := (HB.out.cell (World.block_lt_of_cell? w _ hx216_2)).trans hx216_2
        have HR216_2 := z0i hi216_2
        have HC216_2 := z0i hl216_2
        clear hi216_2 hl216_2
        replace p216 := eq_true p216
        replace q216 := eq_true q216
        have p217 : 0 ≤ (x5_1 : Int) := of_decide_eq_true (by first | (with_reducible assumption) | assumption)
        have q217 : x5_1 < (l1.length : Int) := of_decide_eq_true (by first | (with_reducible assumption) | assumption)
        obtain ⟨ad217, A217_2, c217_2, e217, hx217_0, hx217_1, hx217_2, hl217_2, hi217_2⟩ := at_T25 HR1.out x5_1 p217 q217
        have hw217_2 := hx217_2
        have hw217_1 := hx217_1
        have hw217_0 := hx217_0
        cases e217
        replace hx217_0 := (HB.out.cell (World.block_lt_of_cell? w _ hx217_0)).trans hx217_0
        replace hx217_1 := (HB.out.cell (World.block_lt_of_cell? w _ hx217_1)).trans hx217_1
        replace hx217_2 := (HB.out.cell (World.block_lt_of_cell? w _ hx217_2)).trans hx217_2
        have HR217_2 := z0i hi217_2
        have HC217_2 := z0i hl217_2
        clear hi217_2 hl217_2
        replace p217 := eq_true p217
        replace q217 := eq_true q217
        refine start_ (n := 10) (S := fun w' => w'.cell? (ad216.add ((x5_1).toNat * 3)) = some (.int .i64 ((rd_T25 l0 x5_1).f0)) ∧ w'.cell? ⟨(ad216.add ((x5_1).toNat * 3)).block, (ad216.add ((x5_1).toNat * 3)).off + 1, none⟩ = some (.int .i64 ((rd_T25 l0 x5_1).f1)) ∧ w'.cell? ⟨(ad216.add ((x5_1).toNat * 3)).block, (ad216.add ((x5_1).toNat * 3)).off + 2, none⟩ = some (.slice A216_2 ((rd_T25 l0 x5_1).f2).length c216_2) ∧ w'.cell? (ad217.add ((x5_1).toNat * 3)) = some (.int .i64 ((rd_T25 l1 x5_1).f0)) ∧ w'.cell? ⟨(ad217.add ((x5_1).toNat * 3)).block, (ad217.add ((x5_1).toNat * 3)).off + 1, none⟩ = some (.int .i64 ((rd_T25 l1 x5_1).f1)) ∧ w'.cell? ⟨(ad217.add ((x5_1).toNat * 3)).block, (ad217.add ((x5_1).toNat * 3)).off + 2, none⟩ = some (.slice A217_2 ((rd_T25 l1 x5_1).f2).length c217_2)) (ds := []) (bsi_ 10 0) (by kernel_rfl) rfl rfl ⟨((HB.out.cell (World.block_lt_of_cell? w _ hw216_0)).trans hw216_0), ((HB.out.cell (World.block_lt_of_cell? w _ hw216_1)).trans hw216_1), ((HB.out.cell (World.block_lt_of_cell? w _ hw216_2)).trans hw216_2), ((HB.out.cell (World.block_lt_of_cell? w _ hw217_0)).trans hw217_0), ((HB.out.cell (World.block_lt_of_cell? w _ hw217_1)).trans hw217_1), ((HB.out.cell (World.block_lt_of_cell? w _ hw217_2)).trans hw217_2)⟩ (fun hHeld => ?_); refine with_tabW laws_eqPictureS.tab6 laws_eqPictureS.bits6 (fun HT_ HW_ => ?_)
        generalize wr.drew = w9 at HB HR216_2 HR217_2 hx216_0 hx216_1 hx216_2 hx217_0 hx217_1 hx217_2 hHeld ⊢
        refine pure_ (i := 0) (N := some 17) (v := ?_) (a' := ?_) (bsi_ 10 1) rfl rfl (any_of HT_.out (by kernel_rfl)) (fun _ _ _ h => h) (Or.inl ⟨by rfl, ?_⟩) ?_ ?_
        rotate_left
        ·intro w'
         go_simp
         with_reducible rfl
        rotate_left
        ·simp only [Act.put, s1i_, s2i_, s3i_, i64_w, i32_w]
         rfl
        refine pure_ (i := 1) (N := some 18) (v := ?_) (a' := ?_) (bsi_ 10 3) rfl rfl (any_of HT_.out (by kernel_rfl)) (fun _ _ _ h => h) (Or.inl ⟨by rfl, ?_⟩) ?_ ?_
        rotate_left
        ·intro w'
         go_simp
         with_reducible rfl
        rotate_left
        ·simp only [Act.put, s1i_, s2i_, s3i_, i64_w, i32_w]
         rfl
        refine pure_ (i := 2) (N := some 19) (v := ?_) (a' := ?_) (bsi_ 10 7) rfl rfl (any_of HT_.out (by kernel_rfl)) (fun _ _ _ h => h) (Or.inl ⟨by rfl, ?_⟩) ?_ ?_
        rotate_left
        ·intro w'
         go_simp
         with_reducible rfl
        rotate_left
        ·simp only [Act.put, s1i_, s2i_, s3i_, i64_w, i32_w]
         rfl
        refine pure_ (i := 4) (N := some 21) (v := ?_) (a' := ?_) (bsi_ 10 23) rfl rfl (any_of HT_.out (by kernel_rfl)) (fun _ _ _ h => h) (Or.inl ⟨by rfl, ?_⟩) ?_ ?_
        rotate_left
        ·intro w'
         go_simp
         with_reducible rfl
        rotate_left
        ·simp only [Act.put, s1i_, s2i_, s3i_, i64_w, i32_w]
         rfl
        refine pure_ (i := 5) (N := some 22) (v := ?_) (a' := ?_) (bsi_ 10 55) rfl rfl (any_of HT_.out (by kernel_rfl)) (fun _ _ _ h => h) (Or.inl ⟨by rfl, ?_⟩) ?_ ?_
        rotate_left
        ·intro w'
         go_simp
         with_reducible rfl
        rotate_left
        ·simp only [Act.put, s1i_, s2i_, s3i_, i64_w, i32_w]
         rfl
        refine pure_ (i := 6) (N := some 23) (v := ?_) (a' := ?_) (bsi_ 10 119) rfl rfl (any_of HT_.out (by kernel_rfl)) (fun _ _ _ h => h) (Or.inl ⟨by rfl, ?_⟩) ?_ ?_
        rotate_left
        ·intro w'
         go_simp
         with_reducible rfl
        rotate_left
        ·simp only [Act.put, s1i_, s2i_, s3i_, i64_w, i32_w]
         rfl
        refine take_ (i := 3) (N := some 20) (v := ?_) (a' := ?_) (bsi_ 10 127) rfl rfl (take_ofW HT_.out HW_.out (by kernel_rfl)) (fun _ _ _ h => h) (Or.inl ⟨by rfl, ?_⟩) hHeld ?_ ?_
        rotate_left
        ·rintro w' ⟨s0, s1, s2, s3, s4, s5⟩
         go_simp
         with_reducible rfl
        rotate_left
        ·simp only [Act.put, s1i_, s2i_, s3i_, i64_w, i32_w]
         rfl
        refine take_ (i := 7) (N := some 24) (v := ?_) (a' := ?_) (bsi_ 10 255) rfl rfl (take_ofW HT_.out HW_.out (by kernel_rfl)) (fun _ _ _ h => h) (Or.inl ⟨by rfl, ?_⟩) hHeld ?_ ?_
        rotate_left
        ·rintro w' ⟨s0, s1, s2, s3, s4, s5⟩
         go_simp
         with_reducible rfl
        rotate_left
        ·simp only [Act.put, s1i_, s2i_, s3i_, i64_w, i32_w]
         rfl
        refine one_ (i := 8) (N := some 25) (bsi_ 10 511) rfl rfl (one_of HT_.out (by kernel_rfl)) (by decide) (fun K hK => ?_)
        refine goes_ Try.func95 (by kernel_rfl) rfl #[.agg #[.int .i64 ((rd_T25 l0 x5_1).f0), .int .i64 ((rd_T25 l0 x5_1).f1), .slice A216_2 ((rd_T25 l0 x5_1).f2).length c216_2], .agg #[.int .i64 ((rd_T25 l1 x5_1).f0), .int .i64 ((rd_T25 l1 x5_1).f1), .slice A217_2 ((rd_T25 l1 x5_1).f2).length c217_2]] (by rfl) rfl rfl (by (try simp only [List.map_toArray, List.map_cons, List.map_nil]); first | done | rfl | (simp only [List.length_drop, List.length_take]; rfl)) ?_
        with_reducible refine (laws_eqPicture.calls k1 ((rd_T25 l0 x5_1).f0) ((rd_T25 l0 x5_1).f1) _ _ ((rd_T25 l0 x5_1).f2) ((rd_T25 l1 x5_1).f0) ((rd_T25 l1 x5_1).f1) _ _ ((rd_T25 l1 x5_1).f2) true _ ?side1 ?side2 ?side3 ?side4 A7.out).mono ?_
        (case side1 => repeat (first | exact HR216_2.out | exact (y9i HR216_2.out HB.out) | (with_reducible refine y2i ?_ _) | (with_reducible refine y3i ?_ _) | (with_reducible refine y4i ?_)))
        (case side2 => exact HC216_2.out)
        (case side3 => repeat (first | exact HR217_2.out | exact (y9i HR217_2.out HB.out) | (with_reducible refine y2i ?_ _) | (with_reducible refine y3i ?_ _) | (with_reducible refine y4i ?_)))
        (case side4 => exact HC217_2.out)
        rintro e w10 ⟨rfl, hb⟩
        refine ⟨_, rfl, ?_⟩
        have n0_ := z0i (y6i (by repeat (first | (with_reducible first | exact HB.out | apply z4i | apply z5i | apply z6i) | exact HB.out)) hb)
        clear HB
        have HB := n0_
        clear n0_
        (try clear hb)
        (try clear hb2)
        (try clear hk)
        (try clear hi)
        refine hK.out _ _ ⟨((HB.out.cell (World.block_lt_of_cell? w _ hw216_0)).trans hw216_0), ((HB.out.cell (World.block_lt_of_cell? w _ hw216_1)).trans hw216_1), ((HB.out.cell (World.block_lt_of_cell? w _ hw216_2)).trans hw216_2), ((HB.out.cell (World.block_lt_of_cell? w _ hw217_0)).trans hw217_0), ((HB.out.cell (World.block_lt_of_cell? w _ hw217_1)).trans hw217_1), ((HB.out.cell (World.block_lt_of_cell? w _ hw217_2)).trans hw217_2)⟩ (fun hHeld => ?_)
        clear hK K
        refine norm_ (a' := ?_) ?_ ?_
        rotate_left
        ·show Act.put _ (some 25) _ = _
         simp only [Act.put, s1i_, s2i_, s3i_, i64_w, i32_w]
         rfl
        refine pure_ (i := 9) (N := some 26) (v := ?_) (a' := ?_) (bsi_ 10 1023) rfl rfl (any_of HT_.out (by kernel_rfl)) (fun _ _ _ h => h) (Or.inl ⟨by rfl, ?_⟩) ?_ ?_
        rotate_left
        ·intro w'
         go_simp
         with_reducible rfl
        rotate_left
        ·simp only [Act.put, s1i_, s2i_, s3i_, i64_w, i32_w]
         rfl
        refine done_ (done_of HT_.out (by kernel_rfl)) ?_
        try go_wp2
        go_roundg k1
        case measure => have := HK1.out; omega
        case rel => exact ⟨(wrap64 (x5_1 + 1)), (by first | rfl | (simp; done) | (simp [*]; done)), H', ⟨by have := HK1.out; omega⟩, ⟨by repeat (first | (with_reducible first | exact HB.out | apply z4i | apply z5i | apply z6i) | exact HB.out)⟩⟩
       ·replace c8 := Bool.eq_false_iff.mpr c8
        subst c8
        have H1 : (some false) = some r := by rw [if_neg (show ¬ (false = true) by decide)] at H; first | exact H | (simp only [if_true] at H ⊢; exact H)
        clear H
        have H := H1
        clear H1
        obtain rfl := Option.some.inj H
        try go_wp2
        have n0_ := z0i (z6i HB.out)
        clear HB
        have HB := n0_
        clear n0_
        have p216 : 0 ≤ (x5_1 : Int) := of_decide_eq_true (by first | (with_reducible assumption) | assumption)
        have q216 : x5_1 < (l0.length : Int) := of_decide_eq_true (by first | (with_reducible assumption) | assumption)
        obtain ⟨ad216, A216_2, c216_2, e216, hx216_0, hx216_1, hx216_2, hl216_2, hi216_2⟩ := at_T25 HR0.out x5_1 p216 q216
        have hw216_2 := hx216_2
        have hw216_1 := hx216_1
        have hw216_0 := hx216_0
        cases e216
        replace hx216_0 := (HB.out.cell (World.block_lt_of_cell? w _ hx216_0)).trans hx216_0
        replace hx216_1 := (HB.out.cell (World.block_lt_of_cell? w _ hx216_1)).trans hx216_1
        replace hx216_2 := (HB.out.cell (World.block_lt_of_cell? w _ hx216_2)).trans hx216_2
        have HR216_2 := z0i hi216_2
        have HC216_2 := z0i hl216_2
        clear hi216_2 hl216_2
        replace p216 := eq_true p216
        replace q216 := eq_true q216
        have p217 : 0 ≤ (x5_1 : Int) := of_decide_eq_true (by first | (with_reducible assumption) | assumption)
        have q217 : x5_1 < (l1.length : Int) := of_decide_eq_true (by first | (with_reducible assumption) | assumption)
        obtain ⟨ad217, A217_2, c217_2, e217, hx217_0, hx217_1, hx217_2, hl217_2, hi217_2⟩ := at_T25 HR1.out x5_1 p217 q217
        have hw217_2 := hx217_2
        have hw217_1 := hx217_1
        have hw217_0 := hx217_0
        cases e217
        replace hx217_0 := (HB.out.cell (World.block_lt_of_cell? w _ hx217_0)).trans hx217_0
        replace hx217_1 := (HB.out.cell (World.block_lt_of_cell? w _ hx217_1)).trans hx217_1
        replace hx217_2 := (HB.out.cell (World.block_lt_of_cell? w _ hx217_2)).trans hx217_2
        have HR217_2 := z0i hi217_2
        have HC217_2 := z0i hl217_2
        clear hi217_2 hl217_2
        replace p217 := eq_true p217
        replace q217 := eq_true q217
        refine start_ (n := 10) (S := fun w' => w'.cell? (ad216.add ((x5_1).toNat * 3)) = some (.int .i64 ((rd_T25 l0 x5_1).f0)) ∧ w'.cell? ⟨(ad216.add ((x5_1).toNat * 3)).block, (ad216.add ((x5_1).toNat * 3)).off + 1, none⟩ = some (.int .i64 ((rd_T25 l0 x5_1).f1)) ∧ w'.cell? ⟨(ad216.add ((x5_1).toNat * 3)).block, (ad216.add ((x5_1).toNat * 3)).off + 2, none⟩ = some (.slice A216_2 ((rd_T25 l0 x5_1).f2).length c216_2) ∧ w'.cell? (ad217.add ((x5_1).toNat * 3)) = some (.int .i64 ((rd_T25 l1 x5_1).f0)) ∧ w'.cell? ⟨(ad217.add ((x5_1).toNat * 3)).block, (ad217.add ((x5_1).toNat * 3)).off + 1, none⟩ = some (.int .i64 ((rd_T25 l1 x5_1).f1)) ∧ w'.cell? ⟨(ad217.add ((x5_1).toNat * 3)).block, (ad217.add ((x5_1).toNat * 3)).off + 2, none⟩ = some (.slice A217_2 ((rd_T25 l1 x5_1).f2).length c217_2)) (ds := []) (bsi_ 10 0) (by kernel_rfl) rfl rfl ⟨((HB.out.cell (World.block_lt_of_cell? w _ hw216_0)).trans hw216_0), ((HB.out.cell (World.block_lt_of_cell? w _ hw216_1)).trans hw216_1), ((HB.out.cell (World.block_lt_of_cell? w _ hw216_2)).trans hw216_2), ((HB.out.cell (World.block_lt_of_cell? w _ hw217_0)).trans hw217_0), ((HB.out.cell (World.block_lt_of_cell? w _ hw217_1)).trans hw217_1), ((HB.out.cell (World.block_lt_of_cell? w _ hw217_2)).trans hw217_2)⟩ (fun hHeld => ?_); refine with_tabW laws_eqPictureS.tab6 laws_eqPictureS.bits6 (fun HT_ HW_ => ?_)
        generalize wr.drew = w11 at HB HR216_2 HR217_2 hx216_0 hx216_1 hx216_2 hx217_0 hx217_1 hx217_2 hHeld ⊢
        refine pure_ (i := 0) (N := some 17) (v := ?_) (a' := ?_) (bsi_ 10 1) rfl rfl (any_of HT_.out (by kernel_rfl)) (fun _ _ _ h => h) (Or.inl ⟨by rfl, ?_⟩) ?_ ?_
        rotate_left
        ·intro w'
         go_simp
         with_reducible rfl
        rotate_left
        ·simp only [Act.put, s1i_, s2i_, s3i_, i64_w, i32_w]
         rfl
        refine pure_ (i := 1) (N := some 18) (v := ?_) (a' := ?_) (bsi_ 10 3) rfl rfl (any_of HT_.out (by kernel_rfl)) (fun _ _ _ h => h) (Or.inl ⟨by rfl, ?_⟩) ?_ ?_
        rotate_left
        ·intro w'
         go_simp
         with_reducible rfl
        rotate_left
        ·simp only [Act.put, s1i_, s2i_, s3i_, i64_w, i32_w]
         rfl
        refine pure_ (i := 2) (N := some 19) (v := ?_) (a' := ?_) (bsi_ 10 7) rfl rfl (any_of HT_.out (by kernel_rfl)) (fun _ _ _ h => h) (Or.inl ⟨by rfl, ?_⟩) ?_ ?_
        rotate_left
        ·intro w'
         go_simp
         with_reducible rfl
        rotate_left
        ·simp only [Act.put, s1i_, s2i_, s3i_, i64_w, i32_w]
         rfl
        refine pure_ (i := 4) (N := some 21) (v := ?_) (a' := ?_) (bsi_ 10 23) rfl rfl (any_of HT_.out (by kernel_rfl)) (fun _ _ _ h => h) (Or.inl ⟨by rfl, ?_⟩) ?_ ?_
        rotate_left
        ·intro w'
         go_simp
         with_reducible rfl
        rotate_left
        ·simp only [Act.put, s1i_, s2i_, s3i_, i64_w, i32_w]
         rfl
        refine pure_ (i := 5) (N := some 22) (v := ?_) (a' := ?_) (bsi_ 10 55) rfl rfl (any_of HT_.out (by kernel_rfl)) (fun _ _ _ h => h) (Or.inl ⟨by rfl, ?_⟩) ?_ ?_
        rotate_left
        ·intro w'
         go_simp
         with_reducible rfl
        rotate_left
        ·simp only [Act.put, s1i_, s2i_, s3i_, i64_w, i32_w]
         rfl
        refine pure_ (i := 6) (N := some 23) (v := ?_) (a' := ?_) (bsi_ 10 119) rfl rfl (any_of HT_.out (by kernel_rfl)) (fun _ _ _ h => h) (Or.inl ⟨by rfl, ?_⟩) ?_ ?_
        rotate_left
        ·intro w'
         go_simp
         with_reducible rfl
        rotate_left
        ·simp only [Act.put, s1i_, s2i_, s3i_, i64_w, i32_w]
         rfl
        refine take_ (i := 3) (N := some 20) (v := ?_) (a' := ?_) (bsi_ 10 127) rfl rfl (take_ofW HT_.out HW_.out (by kernel_rfl)) (fun _ _ _ h => h) (Or.inl ⟨by rfl, ?_⟩) hHeld ?_ ?_
        rotate_left
        ·rintro w' ⟨s0, s1, s2, s3, s4, s5⟩
         go_simp
         with_reducible rfl
        rotate_left
        ·simp only [Act.put, s1i_, s2i_, s3i_, i64_w, i32_w]
         rfl
        refine take_ (i := 7) (N := some 24) (v := ?_) (a' := ?_) (bsi_ 10 255) rfl rfl (take_ofW HT_.out HW_.out (by kernel_rfl)) (fun _ _ _ h => h) (Or.inl ⟨by rfl, ?_⟩) hHeld ?_ ?_
        rotate_left
        ·rintro w' ⟨s0, s1, s2, s3, s4, s5⟩
         go_simp
         with_reducible rfl
        rotate_left
        ·simp only [Act.put, s1i_, s2i_, s3i_, i64_w, i32_w]
         rfl
        refine one_ (i := 8) (N := some 25) (bsi_ 10 511) rfl rfl (one_of HT_.out (by kernel_rfl)) (by decide) (fun K hK => ?_)
        refine goes_ Try.func95 (by kernel_rfl) rfl #[.agg #[.int .i64 ((rd_T25 l0 x5_1).f0), .int .i64 ((rd_T25 l0 x5_1).f1), .slice A216_2 ((rd_T25 l0 x5_1).f2).length c216_2], .agg #[.int .i64 ((rd_T25 l1 x5_1).f0), .int .i64 ((rd_T25 l1 x5_1).f1), .slice A217_2 ((rd_T25 l1 x5_1).f2).length c217_2]] (by rfl) rfl rfl (by (try simp only [List.map_toArray, List.map_cons, List.map_nil]); first | done | rfl | (simp only [List.length_drop, List.length_take]; rfl)) ?_
        with_reducible refine (laws_eqPicture.calls k1 ((rd_T25 l0 x5_1).f0) ((rd_T25 l0 x5_1).f1) _ _ ((rd_T25 l0 x5_1).f2) ((rd_T25 l1 x5_1).f0) ((rd_T25 l1 x5_1).f1) _ _ ((rd_T25 l1 x5_1).f2) false _ ?side1 ?side2 ?side3 ?side4 A7.out).mono ?_
        (case side1 => repeat (first | exact HR216_2.out | exact (y9i HR216_2.out HB.out) | (with_reducible refine y2i ?_ _) | (with_reducible refine y3i ?_ _) | (with_reducible refine y4i ?_)))
        (case side2 => exact HC216_2.out)
        (case side3 => repeat (first | exact HR217_2.out | exact (y9i HR217_2.out HB.out) | (with_reducible refine y2i ?_ _) | (with_reducible refine y3i ?_ _) | (with_reducible refine y4i ?_)))
        (case side4 => exact HC217_2.out)
        rintro e w12 ⟨rfl, hb⟩
        refine ⟨_, rfl, ?_⟩
        have n0_ := z0i (y6i (by repeat (first | (with_reducible first | exact HB.out | apply z4i | apply z5i | apply z6i) | exact HB.out)) hb)
        clear HB
        have HB := n0_
        clear n0_
        (try clear hb)
        (try clear hb2)
        (try clear hk)
        (try clear hi)
        refine hK.out _ _ ⟨((HB.out.cell (World.block_lt_of_cell? w _ hw216_0)).trans hw216_0), ((HB.out.cell (World.block_lt_of_cell? w _ hw216_1)).trans hw216_1), ((HB.out.cell (World.block_lt_of_cell? w _ hw216_2)).trans hw216_2), ((HB.out.cell (World.block_lt_of_cell? w _ hw217_0)).trans hw217_0), ((HB.out.cell (World.block_lt_of_cell? w _ hw217_1)).trans hw217_1), ((HB.out.cell (World.block_lt_of_cell? w _ hw217_2)).trans hw217_2)⟩ (fun hHeld => ?_)
        clear hK K
        refine norm_ (a' := ?_) ?_ ?_
        rotate_left
        ·show Act.put _ (some 25) _ = _
         simp only [Act.put, s1i_, s2i_, s3i_, i64_w, i32_w]
         rfl
        refine pure_ (i := 9) (N := some 26) (v := ?_) (a' := ?_) (bsi_ 10 1023) rfl rfl (any_of HT_.out (by kernel_rfl)) (fun _ _ _ h => h) (Or.inl ⟨by rfl, ?_⟩) ?_ ?_
        rotate_left
        ·intro w'
         go_simp
         with_reducible rfl
        rotate_left
        ·simp only [Act.put, s1i_, s2i_, s3i_, i64_w, i32_w]
         rfl
        refine done_ (done_of HT_.out (by kernel_rfl)) ?_
        try go_wp2
        go_ret
        exact ⟨by first | rfl | (simp [errW_none, errW_some] <;> rfl) | (simp [*, errW_none, errW_some] <;> rfl), by repeat (first | (with_reducible first | exact HB.out | apply z4i | apply z5i | apply z6i) | exact HB.out)⟩
      ·rw [if_neg c6] at H
       exact absurd H (by simp)
     ·rw [if_neg c5] at H
      exact absurd H (by simp)
    ·rw [if_neg c4] at H
     have c4b0 : decide (x5_1 < (l0.length : Int)) = false := decide_eq_false c4
     clear c4
     obtain rfl := Option.some.inj H
     go_wp2
     go_ret
     exact ⟨by first | rfl | (simp [errW_none, errW_some] <;> rfl) | (simp [*, errW_none, errW_some] <;> rfl), by repeat (first | (with_reducible first | exact HB.out | apply z4i | apply z5i | apply z6i) | exact HB.out)⟩
 ·rw [if_neg c3] at H
  have c3b0 : ((l0.length : Int) == (l1.length : Int)) = false := beq_eq_false_iff_ne.mpr c3
  have c3b1 : ((l0.length : Int) != (l1.length : Int)) = true := bne_iff_ne.mpr c3
  have c3b2 : (l0.length == l1.length) = false := by first | simpa using c3 | (simp at c3 ⊢; omega)
  obtain rfl := Option.some.inj H
  go_enter Try.func97, Try.ntmps97
  go_wp2
  go_ret
  exact ⟨by first | rfl | (simp [errW_none, errW_some] <;> rfl) | (simp [*, errW_none, errW_some] <;> rfl), by repeat (first | (with_reducible first | exact HB.out | apply z4i | apply z5i | apply z6i) | exact HB.out)⟩

/-! ### laws_eqDesk: function 54 -/
def laws_eqDesk.f (k : Nat) (a0_0 : Int) (a0_1 : Int) (l0_2 : List Int) (a0_3 : Int) (a0_4 : Int) (l0_5 : List Int) (l0_6 : List (S25)) (a1_0 : Int) (a1_1 : Int) (l1_2 : List Int) (a1_3 : Int) (a1_4 : Int) (l1_5 : List Int) (l1_6 : List (S25)) : Option (Bool) := (laws_eqPicture.f k a0_0 a0_1 l0_2 a1_0 a1_1 l1_2).bind fun t221 => (if t221 = true then ((laws_eqMatrix.f k a0_3 a0_4 l0_5 a1_3 a1_4 l1_5).bind fun t222 => (if t222 = true then ((laws_eqPictureS.f k l0_6 l1_6).bind fun t223 => (if t223 = true then (some true) else (some false))) else (some false))) else (some false))
theorem laws_eqDesk.mono : ∀ a0 a1 a2 a3 a4 a5 a6 a7 a8 a9 a10 a11 a12 a13 k, LeO (laws_eqDesk.f k a0 a1 a2 a3 a4 a5 a6 a7 a8 a9 a10 a11 a12 a13) (laws_eqDesk.f (k + 1) a0 a1 a2 a3 a4 a5 a6 a7 a8 a9 a10 a11 a12 a13) := by
 intro a0 a1 a2 a3 a4 a5 a6 a7 a8 a9 a10 a11 a12 a13 k
 unfold laws_eqDesk.f
 repeat' first
   | (with_reducible exact laws_eqMatrix.mono _ _ _ _ _ _ _)
   | (with_reducible exact laws_eqPicture.mono _ _ _ _ _ _ _)
   | (with_reducible exact laws_eqPictureS.mono _ _ _)
   | (with_reducible exact LeO.refl _)
   | (with_reducible exact LeO.none _)
   | (with_reducible refine LeO.ite ?_ ?_)
   | (with_reducible refine LeO.bind ?_ (fun _ => ?_))
   | exact laws_eqMatrix.mono _ _ _ _ _ _ _
   | exact laws_eqPicture.mono _ _ _ _ _ _ _
   | exact laws_eqPictureS.mono _ _ _
   | exact LeO.none _
   | refine LeO.ite ?_ ?_
   | refine LeO.bind ?_ (fun _ => ?_)
set_option maxHeartbeats 8000000 in
set_option maxRecDepth 100000 in
theorem laws_eqDesk.calls (k : Nat) (a0_0 : Int) (a0_1 : Int) (A0_2 : Option Addr) (c0_2 : Nat) (l0_2 : List Int) (a0_3 : Int) (a0_4 : Int) (A0_5 : Option Addr) (c0_5 : Nat) (l0_5 : List Int) (A0_6 : Option Addr) (c0_6 : Nat) (l0_6 : List (S25)) (a1_0 : Int) (a1_1 : Int) (A1_2 : Option Addr) (c1_2 : Nat) (l1_2 : List Int) (a1_3 : Int) (a1_4 : Int) (A1_5 : Option Addr) (c1_5 : Nat) (l1_5 : List Int) (A1_6 : Option Addr) (c1_6 : Nat) (l1_6 : List (S25)) (r : Bool) (w : World) (hr0_2 : Kd.C (Kd.int .i64) w A0_2 l0_2.length l0_2) (hc0_2 : l0_2.length ≤ c0_2) (hr0_5 : Kd.C (Kd.int .i64) w A0_5 l0_5.length l0_5) (hc0_5 : l0_5.length ≤ c0_5) (hr0_6 : Kd.C k25 w A0_6 l0_6.length l0_6) (hc0_6 : l0_6.length ≤ c0_6) (hr1_2 : Kd.C (Kd.int .i64) w A1_2 l1_2.length l1_2) (hc1_2 : l1_2.length ≤ c1_2) (hr1_5 : Kd.C (Kd.int .i64) w A1_5 l1_5.length l1_5) (hc1_5 : l1_5.length ≤ c1_5) (hr1_6 : Kd.C k25 w A1_6 l1_6.length l1_6) (hc1_6 : l1_6.length ≤ c1_6) (h : laws_eqDesk.f k a0_0 a0_1 l0_2 a0_3 a0_4 l0_5 l0_6 a1_0 a1_1 l1_2 a1_3 a1_4 l1_5 l1_6 = some r) :
  Calls Try.prog 54 #[.agg #[.int .i64 a0_0, .int .i64 a0_1, .slice A0_2 l0_2.length c0_2, .int .i64 a0_3, .int .i64 a0_4, .slice A0_5 l0_5.length c0_5, .slice A0_6 l0_6.length c0_6], .agg #[.int .i64 a1_0, .int .i64 a1_1, .slice A1_2 l1_2.length c1_2, .int .i64 a1_3, .int .i64 a1_4, .slice A1_5 l1_5.length c1_5, .slice A1_6 l1_6.length c1_6]] w fun e w' => e = .returned (.bool r) ∧ Below w.heap.size w w' := by
 have hu68 := Try.underlying68
 have hu25 := Try.underlying25
 have hu39 := Try.underlying39
 have HR0_2 := z0i hr0_2
 have HC0_2 := z0i hc0_2
 clear hr0_2 hc0_2
 have HR0_5 := z0i hr0_5
 have HC0_5 := z0i hc0_5
 clear hr0_5 hc0_5
 have HR0_6 := z0i hr0_6
 have HC0_6 := z0i hc0_6
 clear hr0_6 hc0_6
 have HR1_2 := z0i hr1_2
 have HC1_2 := z0i hc1_2
 clear hr1_2 hc1_2
 have HR1_5 := z0i hr1_5
 have HC1_5 := z0i hc1_5
 clear hr1_5 hc1_5
 have HR1_6 := z0i hr1_6
 have HC1_6 := z0i hc1_6
 clear hr1_6 hc1_6
 have HB := z0i (Below.refl w.heap.size w)
 have H : ((laws_eqPicture.f k a0_0 a0_1 l0_2 a1_0 a1_1 l1_2).bind fun t221 => (if t221 = true then ((laws_eqMatrix.f k a0_3 a0_4 l0_5 a1_3 a1_4 l1_5).bind fun t222 => (if t222 = true then ((laws_eqPictureS.f k l0_6 l1_6).bind fun t223 => (if t223 = true then (some true) else (some false))) else (some false))) else (some false))) = some r := h
 clear h
 replace H := Option.bind_eq_some_iff.mp H
 obtain ⟨t221, A30, H⟩ := H
 replace H : (if t221 = true then ((laws_eqMatrix.f k a0_3 a0_4 l0_5 a1_3 a1_4 l1_5).bind fun t222 => (if t222 = true then ((laws_eqPictureS.f k l0_6 l1_6).bind fun t223 => (if t223 = true then (some true) else (some false))) else (some false))) else (some false)) = some r := H
 have A3 := z0i A30
 clear A30
 by_cases c4 : t221 = true
 ·subst c4
  have H1 : ((laws_eqMatrix.f k a0_3 a0_4 l0_5 a1_3 a1_4 l1_5).bind fun t222 => (if t222 = true then ((laws_eqPictureS.f k l0_6 l1_6).bind fun t223 => (if t223 = true then (some true) else (some false))) else (some false))) = some r := by rw [if_pos rfl] at H; first | exact H | (simp only [if_true] at H ⊢; exact H)
  clear H
  have H := H1
  clear H1
  replace H := Option.bind_eq_some_iff.mp H
  obtain ⟨t222, A50, H⟩ := H
  replace H : (if t222 = true then ((laws_eqPictureS.f k l0_6 l1_6).bind fun t223 => (if t223 = true then (some true) else (some false))) else (some false)) = some r := H
  have A5 := z0i A50
  clear A50
  by_cases c6 : t222 = true
  ·subst c6
   have H1 : ((laws_eqPictureS.f k l0_6 l1_6).bind fun t223 => (if t223 = true then (some true) else (some false))) = some r := by rw [if_pos rfl] at H; first | exact H | (simp only [if_true] at H ⊢; exact H)
   clear H
   have H := H1
   clear H1
   replace H := Option.bind_eq_some_iff.mp H
   obtain ⟨t223, A70, H⟩ := H
   replace H : (if t223 = true then (some true) else (some false)) = some r := H
   have A7 := z0i A70
   clear A70
   by_cases c8 : t223 = true
   ·subst c8
    have H1 : (some true) = some r := by rw [if_pos rfl] at H; first | exact H | (simp only [if_true] at H ⊢; exact H)
    clear H
    have H := H1
    clear H1
    obtain rfl := Option.some.inj H
    go_enter Try.func54, Try.ntmps54
    go_wp2_with (first | ((with_reducible refine gate_dst (N := 2) rfl ?_); refine box_event ?hg (N := 2) ?hd (cs := #[.int .i64 a0_0, .int .i64 a0_1, .slice A0_2 l0_2.length c0_2, .int .i64 a0_3, .int .i64 a0_4, .slice A0_5 l0_5.length c0_5, .slice A0_6 l0_6.length c0_6]) (t := 68) ?hr ?_; (case hd => rfl); (case hg => rfl); (case hr => first | (go_simp; done) | (go_simp; rfl)); intro gb219 hg w9 hbox hb; have n0_ := z0i (y6i (by repeat (first | (with_reducible first | exact HB.out | apply z4i | apply z5i | apply z6i) | exact HB.out)) hb); have n1_ := z0i (hbox); have n2_ := z0i ((by rw [hg]; exact (y7i (by repeat (first | (with_reducible first | exact HB.out | apply z4i | apply z5i | apply z6i) | exact HB.out))) : w.heap.size ≤ gb219)); have n3_ := z0i ((by rw [hg]; exact (y7i (by repeat (first | (with_reducible first | exact HB.out | apply z4i | apply z5i | apply z6i) | exact HB.out))) : w.heap.size ≤ gb219)); clear HB; have HB := n0_; have BK219 := n1_; have GW219 := n2_; have GE219 := n3_; clear n0_ n1_ n2_ n3_; clear hb hbox hg) | ((with_reducible refine gate_dst (N := 3) rfl ?_); refine box_event ?hg (N := 3) ?hd (cs := #[.int .i64 a1_0, .int .i64 a1_1, .slice A1_2 l1_2.length c1_2, .int .i64 a1_3, .int .i64 a1_4, .slice A1_5 l1_5.length c1_5, .slice A1_6 l1_6.length c1_6]) (t := 68) ?hr ?_; (case hd => rfl); (case hg => rfl); (case hr => first | (go_simp; done) | (go_simp; rfl)); intro gb220 hg w10 hbox hb; have n0_ := z0i (y5i (g := gb219) (o := .cells #[.int .i64 a0_0, .int .i64 a0_1, .slice A0_2 l0_2.length c0_2, .int .i64 a0_3, .int .i64 a0_4, .slice A0_5 l0_5.length c0_5, .slice A0_6 l0_6.length c0_6] 68 (0, 0)) (by (with_reducible repeat (first | refine z1i ?_ _ | refine z3i ?_ | refine z2i ?_ _)); exact BK219.out) hb); have n1_ := z0i (y6i (by repeat (first | (with_reducible first | exact HB.out | apply z4i | apply z5i | apply z6i | refine z7i ?_ GE219.out) | exact HB.out)) hb); have n2_ := z0i (hbox); have n3_ := z0i ((by rw [hg]; exact (y7i (by repeat (first | (with_reducible first | exact HB.out | apply z4i | apply z5i | apply z6i | refine z7i ?_ GE219.out) | exact HB.out))) : w.heap.size ≤ gb220)); have n4_ := z0i ((by rw [hg]; exact (y7i (by repeat (first | (with_reducible first | exact HB.out | apply z4i | apply z5i | apply z6i | refine z7i ?_ GE219.out) | exact HB.out))) : w.heap.size ≤ gb220)); have n5_ := z0i ((by rw [hg]; exact Nat.ne_of_lt (blk_lt (g := gb219) (o := .cells #[.int .i64 a0_0, .int .i64 a0_1, .slice A0_2 l0_2.length c0_2, .int .i64 a0_3, .int .i64 a0_4, .slice A0_5 l0_5.length c0_5, .slice A0_6 l0_6.length c0_6] 68 (0, 0)) (by (with_reducible repeat (first | refine z1i ?_ _ | refine z3i ?_ | refine z2i ?_ _)); exact BK219.out)) : gb219 ≠ gb220)); have n6_ := z0i ((by rw [hg]; exact Nat.ne_of_gt (blk_lt (g := gb219) (o := .cells #[.int .i64 a0_0, .int .i64 a0_1, .slice A0_2 l0_2.length c0_2, .int .i64 a0_3, .int .i64 a0_4, .slice A0_5 l0_5.length c0_5, .slice A0_6 l0_6.length c0_6] 68 (0, 0)) (by (with_reducible repeat (first | refine z1i ?_ _ | refine z3i ?_ | refine z2i ?_ _)); exact BK219.out)) : gb220 ≠ gb219)); clear BK219; clear HB; have BK219 := n0_; have HB := n1_; have BK220 := n2_; have GW220 := n3_; have GE220 := n4_; have NB219_220 := n5_; have NB220_219 := n6_; clear n0_ n1_ n2_ n3_ n4_ n5_ n6_; clear hb hbox hg; have hnb11 := NB219_220.out; have hnc11 := NB220_219.out; have hcz12_0 : w10.cell? ⟨gb219, 0, none⟩ = some (.int .i64 a0_0) := (x3i BK219.out 0).trans rfl; have hcz12_1 : w10.cell? ⟨gb219, 1, none⟩ = some (.int .i64 a0_1) := (x3i BK219.out 1).trans rfl; have hcz12_2 : w10.cell? ⟨gb219, 2, none⟩ = some (.slice A0_2 l0_2.length c0_2) := (x3i BK219.out 2).trans rfl; have hcz12_3 : w10.cell? ⟨gb219, 3, none⟩ = some (.int .i64 a0_3) := (x3i BK219.out 3).trans rfl; have hcz12_4 : w10.cell? ⟨gb219, 4, none⟩ = some (.int .i64 a0_4) := (x3i BK219.out 4).trans rfl; have hcz12_5 : w10.cell? ⟨gb219, 5, none⟩ = some (.slice A0_5 l0_5.length c0_5) := (x3i BK219.out 5).trans rfl; have hcz12_6 : w10.cell? ⟨gb219, 6, none⟩ = some (.slice A0_6 l0_6.length c0_6) := (x3i BK219.out 6).trans rfl; have hfz12_0 := x2i BK219.out 0; have hfz12_1 := x2i BK219.out 1; have hfz12_2 := x2i BK219.out 2; have hfz12_3 := x2i BK219.out 3; have hfz12_4 := x2i BK219.out 4; have hfz12_5 := x2i BK219.out 5; have hfz12_6 := x2i BK219.out 6; have hcz13_0 : w10.cell? ⟨gb220, 0, none⟩ = some (.int .i64 a1_0) := (x3i BK220.out 0).trans rfl; have hcz13_1 : w10.cell? ⟨gb220, 1, none⟩ = some (.int .i64 a1_1) := (x3i BK220.out 1).trans rfl; have hcz13_2 : w10.cell? ⟨gb220, 2, none⟩ = some (.slice A1_2 l1_2.length c1_2) := (x3i BK220.out 2).trans rfl; have hcz13_3 : w10.cell? ⟨gb220, 3, none⟩ = some (.int .i64 a1_3) := (x3i BK220.out 3).trans rfl; have hcz13_4 : w10.cell? ⟨gb220, 4, none⟩ = some (.int .i64 a1_4) := (x3i BK220.out 4).trans rfl; have hcz13_5 : w10.cell? ⟨gb220, 5, none⟩ = some (.slice A1_5 l1_5.length c1_5) := (x3i BK220.out 5).trans rfl; have hcz13_6 : w10.cell? ⟨gb220, 6, none⟩ = some (.slice A1_6 l1_6.length c1_6) := (x3i BK220.out 6).trans rfl; have hfz13_0 := x2i BK220.out 0; have hfz13_1 := x2i BK220.out 1; have hfz13_2 := x2i BK220.out 2; have hfz13_3 := x2i BK220.out 3; have hfz13_4 := x2i BK220.out 4; have hfz13_5 := x2i BK220.out 5; have hfz13_6 := x2i BK220.out 6) | ((with_reducible refine gate_callee (f := 95) rfl ?_); refine goesL_ (some 9) rfl rfl Try.func95 (by kernel_rfl) rfl #[.agg #[.int .i64 a0_0, .int .i64 a0_1, .slice A0_2 l0_2.length c0_2], .agg #[.int .i64 a1_0, .int .i64 a1_1, .slice A1_2 l1_2.length c1_2]] rfl (by (try simp only [List.map_toArray, List.map_cons, List.map_nil]); first | done | rfl | (simp only [List.length_drop, List.length_take]; rfl)) ?_; (with_reducible refine (laws_eqPicture.calls k a0_0 a0_1 _ _ l0_2 a1_0 a1_1 _ _ l1_2 true _ ?side1 ?side2 ?side3 ?side4 A3.out).mono ?_); (case side1 => repeat (first | exact HR0_2.out | exact (y9i HR0_2.out HB.out) | (with_reducible refine y2i ?_ _) | (with_reducible refine y3i ?_ _) | (with_reducible refine y4i ?_))); (case side2 => exact HC0_2.out); (case side3 => repeat (first | exact HR1_2.out | exact (y9i HR1_2.out HB.out) | (with_reducible refine y2i ?_ _) | (with_reducible refine y3i ?_ _) | (with_reducible refine y4i ?_))); (case side4 => exact HC1_2.out); rintro e w14 ⟨rfl, hb⟩; refine ⟨_, rfl, ?_⟩; have n0_ := z0i (y5i (g := gb219) (o := .cells #[.int .i64 a0_0, .int .i64 a0_1, .slice A0_2 l0_2.length c0_2, .int .i64 a0_3, .int .i64 a0_4, .slice A0_5 l0_5.length c0_5, .slice A0_6 l0_6.length c0_6] 68 (0, 0)) (by (with_reducible repeat (first | refine z1i ?_ _ | refine z3i ?_ | refine z2i ?_ _)); exact BK219.out) hb); have n1_ := z0i (y5i (g := gb220) (o := .cells #[.int .i64 a1_0, .int .i64 a1_1, .slice A1_2 l1_2.length c1_2, .int .i64 a1_3, .int .i64 a1_4, .slice A1_5 l1_5.length c1_5, .slice A1_6 l1_6.length c1_6] 68 (0, 0)) (by (with_reducible repeat (first | refine z1i ?_ _ | refine z3i ?_ | refine z2i ?_ _)); exact BK220.out) hb); have n2_ := z0i (y6i (by repeat (first | (with_reducible first | exact HB.out | apply z4i | apply z5i | apply z6i | refine z7i ?_ GE219.out | refine z7i ?_ GE220.out) | exact HB.out)) hb); clear BK219; clear BK220; clear HB; have BK219 := n0_; have BK220 := n1_; have HB := n2_; clear n0_ n1_ n2_; (try clear hb); have hcz15_0 : w14.cell? ⟨gb219, 0, none⟩ = some (.int .i64 a0_0) := (x3i BK219.out 0).trans rfl; have hcz15_1 : w14.cell? ⟨gb219, 1, none⟩ = some (.int .i64 a0_1) := (x3i BK219.out 1).trans rfl; have hcz15_2 : w14.cell? ⟨gb219, 2, none⟩ = some (.slice A0_2 l0_2.length c0_2) := (x3i BK219.out 2).trans rfl; have hcz15_3 : w14.cell? ⟨gb219, 3, none⟩ = some (.int .i64 a0_3) := (x3i BK219.out 3).trans rfl; have hcz15_4 : w14.cell? ⟨gb219, 4, none⟩ = some (.int .i64 a0_4) := (x3i BK219.out 4).trans rfl; have hcz15_5 : w14.cell? ⟨gb219, 5, none⟩ = some (.slice A0_5 l0_5.length c0_5) := (x3i BK219.out 5).trans rfl; have hcz15_6 : w14.cell? ⟨gb219, 6, none⟩ = some (.slice A0_6 l0_6.length c0_6) := (x3i BK219.out 6).trans rfl; have hfz15_0 := x2i BK219.out 0; have hfz15_1 := x2i BK219.out 1; have hfz15_2 := x2i BK219.out 2; have hfz15_3 := x2i BK219.out 3; have hfz15_4 := x2i BK219.out 4; have hfz15_5 := x2i BK219.out 5; have hfz15_6 := x2i BK219.out 6; have hcz16_0 : w14.cell? ⟨gb220, 0, none⟩ = some (.int .i64 a1_0) := (x3i BK220.out 0).trans rfl; have hcz16_1 : w14.cell? ⟨gb220, 1, none⟩ = some (.int .i64 a1_1) := (x3i BK220.out 1).trans rfl; have hcz16_2 : w14.cell? ⟨gb220, 2, none⟩ = some (.slice A1_2 l1_2.length c1_2) := (x3i BK220.out 2).trans rfl; have hcz16_3 : w14.cell? ⟨gb220, 3, none⟩ = some (.int .i64 a1_3) := (x3i BK220.out 3).trans rfl; have hcz16_4 : w14.cell? ⟨gb220, 4, none⟩ = some (.int .i64 a1_4) := (x3i BK220.out 4).trans rfl; have hcz16_5 : w14.cell? ⟨gb220, 5, none⟩ = some (.slice A1_5 l1_5.length c1_5) := (x3i BK220.out 5).trans rfl; have hcz16_6 : w14.cell? ⟨gb220, 6, none⟩ = some (.slice A1_6 l1_6.length c1_6) := (x3i BK220.out 6).trans rfl; have hfz16_0 := x2i BK220.out 0; have hfz16_1 := x2i BK220.out 1; have hfz16_2 := x2i BK220.out 2; have hfz16_3 := x2i BK220.out 3; have hfz16_4 := x2i BK220.out 4; have hfz16_5 := x2i BK220.out 5; have hfz16_6 := x2i BK220.out 6) | ((with_reducible refine gate_callee (f := 96) rfl ?_); refine goesL_ (some 15) rfl rfl Try.func96 (by kernel_rfl) rfl #[.agg #[.int .i64 a0_3, .int .i64 a0_4, .slice A0_5 l0_5.length c0_5], .agg #[.int .i64 a1_3, .int .i64 a1_4, .slice A1_5 l1_5.length c1_5]] rfl (by (try simp only [List.map_toArray, List.map_cons, List.map_nil]); first | done | rfl | (simp only [List.length_drop, List.length_take]; rfl)) ?_; (with_reducible refine (laws_eqMatrix.calls k a0_3 a0_4 _ _ l0_5 a1_3 a1_4 _ _ l1_5 true _ ?side1 ?side2 ?side3 ?side4 A5.out).mono ?_); (case side1 => repeat (first | exact HR0_5.out | exact (y9i HR0_5.out HB.out) | (with_reducible refine y2i ?_ _) | (with_reducible refine y3i ?_ _) | (with_reducible refine y4i ?_))); (case side2 => exact HC0_5.out); (case side3 => repeat (first | exact HR1_5.out | exact (y9i HR1_5.out HB.out) | (with_reducible refine y2i ?_ _) | (with_reducible refine y3i ?_ _) | (with_reducible refine y4i ?_))); (case side4 => exact HC1_5.out); rintro e w17 ⟨rfl, hb⟩; refine ⟨_, rfl, ?_⟩; have n0_ := z0i (y5i (g := gb219) (o := .cells #[.int .i64 a0_0, .int .i64 a0_1, .slice A0_2 l0_2.length c0_2, .int .i64 a0_3, .int .i64 a0_4, .slice A0_5 l0_5.length c0_5, .slice A0_6 l0_6.length c0_6] 68 (0, 0)) (by (with_reducible repeat (first | refine z1i ?_ _ | refine z3i ?_ | refine z2i ?_ _)); exact BK219.out) hb); have n1_ := z0i (y5i (g := gb220) (o := .cells #[.int .i64 a1_0, .int .i64 a1_1, .slice A1_2 l1_2.length c1_2, .int .i64 a1_3, .int .i64 a1_4, .slice A1_5 l1_5.length c1_5, .slice A1_6 l1_6.length c1_6] 68 (0, 0)) (by (with_reducible repeat (first | refine z1i ?_ _ | refine z3i ?_ | refine z2i ?_ _)); exact BK220.out) hb); have n2_ := z0i (y6i (by repeat (first | (with_reducible first | exact HB.out | apply z4i | apply z5i | apply z6i | refine z7i ?_ GE219.out | refine z7i ?_ GE220.out) | exact HB.out)) hb); clear BK219; clear BK220; clear HB; have BK219 := n0_; have BK220 := n1_; have HB := n2_; clear n0_ n1_ n2_; (try clear hb); have hcz18_0 : w17.cell? ⟨gb219, 0, none⟩ = some (.int .i64 a0_0) := (x3i BK219.out 0).trans rfl; have hcz18_1 : w17.cell? ⟨gb219, 1, none⟩ = some (.int .i64 a0_1) := (x3i BK219.out 1).trans rfl; have hcz18_2 : w17.cell? ⟨gb219, 2, none⟩ = some (.slice A0_2 l0_2.length c0_2) := (x3i BK219.out 2).trans rfl; have hcz18_3 : w17.cell? ⟨gb219, 3, none⟩ = some (.int .i64 a0_3) := (x3i BK219.out 3).trans rfl; have hcz18_4 : w17.cell? ⟨gb219, 4, none⟩ = some (.int .i64 a0_4) := (x3i BK219.out 4).trans rfl; have hcz18_5 : w17.cell? ⟨gb219, 5, none⟩ = some (.slice A0_5 l0_5.length c0_5) := (x3i BK219.out 5).trans rfl; have hcz18_6 : w17.cell? ⟨gb219, 6, none⟩ = some (.slice A0_6 l0_6.length c0_6) := (x3i BK219.out 6).trans rfl; have hfz18_0 := x2i BK219.out 0; have hfz18_1 := x2i BK219.out 1; have hfz18_2 := x2i BK219.out 2; have hfz18_3 := x2i BK219.out 3; have hfz18_4 := x2i BK219.out 4; have hfz18_5 := x2i BK219.out 5; have hfz18_6 := x2i BK219.out 6; have hcz19_0 : w17.cell? ⟨gb220, 0, none⟩ = some (.int .i64 a1_0) := (x3i BK220.out 0).trans rfl; have hcz19_1 : w17.cell? ⟨gb220, 1, none⟩ = some (.int .i64 a1_1) := (x3i BK220.out 1).trans rfl; have hcz19_2 : w17.cell? ⟨gb220, 2, none⟩ = some (.slice A1_2 l1_2.length c1_2) := (x3i BK220.out 2).trans rfl; have hcz19_3 : w17.cell? ⟨gb220, 3, none⟩ = some (.int .i64 a1_3) := (x3i BK220.out 3).trans rfl; have hcz19_4 : w17.cell? ⟨gb220, 4, none⟩ = some (.int .i64 a1_4) := (x3i BK220.out 4).trans rfl; have hcz19_5 : w17.cell? ⟨gb220, 5, none⟩ = some (.slice A1_5 l1_5.length c1_5) := (x3i BK220.out 5).trans rfl; have hcz19_6 : w17.cell? ⟨gb220, 6, none⟩ = some (.slice A1_6 l1_6.length c1_6) := (x3i BK220.out 6).trans rfl; have hfz19_0 := x2i BK220.out 0; have hfz19_1 := x2i BK220.out 1; have hfz19_2 := x2i BK220.out 2; have hfz19_3 := x2i BK220.out 3; have hfz19_4 := x2i BK220.out 4; have hfz19_5 := x2i BK220.out 5; have hfz19_6 := x2i BK220.out 6) | ((with_reducible refine gate_callee (f := 97) rfl ?_); refine goesL_ (some 21) rfl rfl Try.func97 (by kernel_rfl) rfl #[.slice A0_6 l0_6.length c0_6, .slice A1_6 l1_6.length c1_6] rfl (by (try simp only [List.map_toArray, List.map_cons, List.map_nil]); first | done | rfl | (simp only [List.length_drop, List.length_take]; rfl)) ?_; (with_reducible refine (laws_eqPictureS.calls k _ _ l0_6 _ _ l1_6 true _ ?side1 ?side2 ?side3 ?side4 A7.out).mono ?_); (case side1 => repeat (first | exact HR0_6.out | exact (y9i HR0_6.out HB.out) | (with_reducible refine y2i ?_ _) | (with_reducible refine y3i ?_ _) | (with_reducible refine y4i ?_))); (case side2 => exact HC0_6.out); (case side3 => repeat (first | exact HR1_6.out | exact (y9i HR1_6.out HB.out) | (with_reducible refine y2i ?_ _) | (with_reducible refine y3i ?_ _) | (with_reducible refine y4i ?_))); (case side4 => exact HC1_6.out); rintro e w20 ⟨rfl, hb⟩; refine ⟨_, rfl, ?_⟩; have n0_ := z0i (y5i (g := gb219) (o := .cells #[.int .i64 a0_0, .int .i64 a0_1, .slice A0_2 l0_2.length c0_2, .int .i64 a0_3, .int .i64 a0_4, .slice A0_5 l0_5.length c0_5, .slice A0_6 l0_6.length c0_6] 68 (0, 0)) (by (with_reducible repeat (first | refine z1i ?_ _ | refine z3i ?_ | refine z2i ?_ _)); exact BK219.out) hb); have n1_ := z0i (y5i (g := gb220) (o := .cells #[.int .i64 a1_0, .int .i64 a1_1, .slice A1_2 l1_2.length c1_2, .int .i64 a1_3, .int .i64 a1_4, .slice A1_5 l1_5.length c1_5, .slice A1_6 l1_6.length c1_6] 68 (0, 0)) (by (with_reducible repeat (first | refine z1i ?_ _ | refine z3i ?_ | refine z2i ?_ _)); exact BK220.out) hb); have n2_ := z0i (y6i (by repeat (first | (with_reducible first | exact HB.out | apply z4i | apply z5i | apply z6i | refine z7i ?_ GE219.out | refine z7i ?_ GE220.out) | exact HB.out)) hb); clear BK219; clear BK220; clear HB; have BK219 := n0_; have BK220 := n1_; have HB := n2_; clear n0_ n1_ n2_; (try clear hb)))
    go_ret
    exact ⟨by first | rfl | (simp [errW_none, errW_some] <;> rfl) | (simp [*, errW_none, errW_some] <;> rfl), by repeat (first | (with_reducible first | exact HB.out | apply z4i | apply z5i | apply z6i | refine z7i ?_ GE219.out | refine z7i ?_ GE220.out) | exact HB.out)⟩
   ·replace c8 := Bool.eq_false_iff.mpr c8
    subst c8
    have H1 : (some false) = some r := by rw [if_neg (show ¬ (false = true) by decide)] at H; first | exact H | (simp only [if_true] at H ⊢; exact H)
    clear H
    have H := H1
    clear H1
    obtain rfl := Option.some.inj H
    go_enter Try.func54, Try.ntmps54
    go_wp2_with (first | ((with_reducible refine gate_dst (N := 2) rfl ?_); refine box_event ?hg (N := 2) ?hd (cs := #[.int .i64 a0_0, .int .i64 a0_1, .slice A0_2 l0_2.length c0_2, .int .i64 a0_3, .int .i64 a0_4, .slice A0_5 l0_5.length c0_5, .slice A0_6 l0_6.length c0_6]) (t := 68) ?hr ?_; (case hd => rfl); (case hg => rfl); (case hr => first | (go_simp; done) | (go_simp; rfl)); intro gb219 hg w21 hbox hb; have n0_ := z0i (y6i (by repeat (first | (with_reducible first | exact HB.out | apply z4i | apply z5i | apply z6i) | exact HB.out)) hb); have n1_ := z0i (hbox); have n2_ := z0i ((by rw [hg]; exact (y7i (by repeat (first | (with_reducible first | exact HB.out | apply z4i | apply z5i | apply z6i) | exact HB.out))) : w.heap.size ≤ gb219)); have n3_ := z0i ((by rw [hg]; exact (y7i (by repeat (first | (with_reducible first | exact HB.out | apply z4i | apply z5i | apply z6i) | exact HB.out))) : w.heap.size ≤ gb219)); clear HB; have HB := n0_; have BK219 := n1_; have GW219 := n2_; have GE219 := n3_; clear n0_ n1_ n2_ n3_; clear hb hbox hg) | ((with_reducible refine gate_dst (N := 3) rfl ?_); refine box_event ?hg (N := 3) ?hd (cs := #[.int .i64 a1_0, .int .i64 a1_1, .slice A1_2 l1_2.length c1_2, .int .i64 a1_3, .int .i64 a1_4, .slice A1_5 l1_5.length c1_5, .slice A1_6 l1_6.length c1_6]) (t := 68) ?hr ?_; (case hd => rfl); (case hg => rfl); (case hr => first | (go_simp; done) | (go_simp; rfl)); intro gb220 hg w22 hbox hb; have n0_ := z0i (y5i (g := gb219) (o := .cells #[.int .i64 a0_0, .int .i64 a0_1, .slice A0_2 l0_2.length c0_2, .int .i64 a0_3, .int .i64 a0_4, .slice A0_5 l0_5.length c0_5, .slice A0_6 l0_6.length c0_6] 68 (0, 0)) (by (with_reducible repeat (first | refine z1i ?_ _ | refine z3i ?_ | refine z2i ?_ _)); exact BK219.out) hb); have n1_ := z0i (y6i (by repeat (first | (with_reducible first | exact HB.out | apply z4i | apply z5i | apply z6i | refine z7i ?_ GE219.out) | exact HB.out)) hb); have n2_ := z0i (hbox); have n3_ := z0i ((by rw [hg]; exact (y7i (by repeat (first | (with_reducible first | exact HB.out | apply z4i | apply z5i | apply z6i | refine z7i ?_ GE219.out) | exact HB.out))) : w.heap.size ≤ gb220)); have n4_ := z0i ((by rw [hg]; exact (y7i (by repeat (first | (with_reducible first | exact HB.out | apply z4i | apply z5i | apply z6i | refine z7i ?_ GE219.out) | exact HB.out))) : w.heap.size ≤ gb220)); have n5_ := z0i ((by rw [hg]; exact Nat.ne_of_lt (blk_lt (g := gb219) (o := .cells #[.int .i64 a0_0, .int .i64 a0_1, .slice A0_2 l0_2.length c0_2, .int .i64 a0_3, .int .i64 a0_4, .slice A0_5 l0_5.length c0_5, .slice A0_6 l0_6.length c0_6] 68 (0, 0)) (by (with_reducible repeat (first | refine z1i ?_ _ | refine z3i ?_ | refine z2i ?_ _)); exact BK219.out)) : gb219 ≠ gb220)); have n6_ := z0i ((by rw [hg]; exact Nat.ne_of_gt (blk_lt (g := gb219) (o := .cells #[.int .i64 a0_0, .int .i64 a0_1, .slice A0_2 l0_2.length c0_2, .int .i64 a0_3, .int .i64 a0_4, .slice A0_5 l0_5.length c0_5, .slice A0_6 l0_6.length c0_6] 68 (0, 0)) (by (with_reducible repeat (first | refine z1i ?_ _ | refine z3i ?_ | refine z2i ?_ _)); exact BK219.out)) : gb220 ≠ gb219)); clear BK219; clear HB; have BK219 := n0_; have HB := n1_; have BK220 := n2_; have GW220 := n3_; have GE220 := n4_; have NB219_220 := n5_; have NB220_219 := n6_; clear n0_ n1_ n2_ n3_ n4_ n5_ n6_; clear hb hbox hg; have hnb23 := NB219_220.out; have hnc23 := NB220_219.out; have hcz24_0 : w22.cell? ⟨gb219, 0, none⟩ = some (.int .i64 a0_0) := (x3i BK219.out 0).trans rfl; have hcz24_1 : w22.cell? ⟨gb219, 1, none⟩ = some (.int .i64 a0_1) := (x3i BK219.out 1).trans rfl; have hcz24_2 : w22.cell? ⟨gb219, 2, none⟩ = some (.slice A0_2 l0_2.length c0_2) := (x3i BK219.out 2).trans rfl; have hcz24_3 : w22.cell? ⟨gb219, 3, none⟩ = some (.int .i64 a0_3) := (x3i BK219.out 3).trans rfl; have hcz24_4 : w22.cell? ⟨gb219, 4, none⟩ = some (.int .i64 a0_4) := (x3i BK219.out 4).trans rfl; have hcz24_5 : w22.cell? ⟨gb219, 5, none⟩ = some (.slice A0_5 l0_5.length c0_5) := (x3i BK219.out 5).trans rfl; have hcz24_6 : w22.cell? ⟨gb219, 6, none⟩ = some (.slice A0_6 l0_6.length c0_6) := (x3i BK219.out 6).trans rfl; have hfz24_0 := x2i BK219.out 0; have hfz24_1 := x2i BK219.out 1; have hfz24_2 := x2i BK219.out 2; have hfz24_3 := x2i BK219.out 3; have hfz24_4 := x2i BK219.out 4; have hfz24_5 := x2i BK219.out 5; have hfz24_6 := x2i BK219.out 6; have hcz25_0 : w22.cell? ⟨gb220, 0, none⟩ = some (.int .i64 a1_0) := (x3i BK220.out 0).trans rfl; have hcz25_1 : w22.cell? ⟨gb220, 1, none⟩ = some (.int .i64 a1_1) := (x3i BK220.out 1).trans rfl; have hcz25_2 : w22.cell? ⟨gb220, 2, none⟩ = some (.slice A1_2 l1_2.length c1_2) := (x3i BK220.out 2).trans rfl; have hcz25_3 : w22.cell? ⟨gb220, 3, none⟩ = some (.int .i64 a1_3) := (x3i BK220.out 3).trans rfl; have hcz25_4 : w22.cell? ⟨gb220, 4, none⟩ = some (.int .i64 a1_4) := (x3i BK220.out 4).trans rfl; have hcz25_5 : w22.cell? ⟨gb220, 5, none⟩ = some (.slice A1_5 l1_5.length c1_5) := (x3i BK220.out 5).trans rfl; have hcz25_6 : w22.cell? ⟨gb220, 6, none⟩ = some (.slice A1_6 l1_6.length c1_6) := (x3i BK220.out 6).trans rfl; have hfz25_0 := x2i BK220.out 0; have hfz25_1 := x2i BK220.out 1; have hfz25_2 := x2i BK220.out 2; have hfz25_3 := x2i BK220.out 3; have hfz25_4 := x2i BK220.out 4; have hfz25_5 := x2i BK220.out 5; have hfz25_6 := x2i BK220.out 6) | ((with_reducible refine gate_callee (f := 95) rfl ?_); refine goesL_ (some 9) rfl rfl Try.func95 (by kernel_rfl) rfl #[.agg #[.int .i64 a0_0, .int .i64 a0_1, .slice A0_2 l0_2.length c0_2], .agg #[.int .i64 a1_0, .int .i64 a1_1, .slice A1_2 l1_2.length c1_2]] rfl (by (try simp only [List.map_toArray, List.map_cons, List.map_nil]); first | done | rfl | (simp only [List.length_drop, List.length_take]; rfl)) ?_; (with_reducible refine (laws_eqPicture.calls k a0_0 a0_1 _ _ l0_2 a1_0 a1_1 _ _ l1_2 true _ ?side1 ?side2 ?side3 ?side4 A3.out).mono ?_); (case side1 => repeat (first | exact HR0_2.out | exact (y9i HR0_2.out HB.out) | (with_reducible refine y2i ?_ _) | (with_reducible refine y3i ?_ _) | (with_reducible refine y4i ?_))); (case side2 => exact HC0_2.out); (case side3 => repeat (first | exact HR1_2.out | exact (y9i HR1_2.out HB.out) | (with_reducible refine y2i ?_ _) | (with_reducible refine y3i ?_ _) | (with_reducible refine y4i ?_))); (case side4 => exact HC1_2.out); rintro e w26 ⟨rfl, hb⟩; refine ⟨_, rfl, ?_⟩; have n0_ := z0i (y5i (g := gb219) (o := .cells #[.int .i64 a0_0, .int .i64 a0_1, .slice A0_2 l0_2.length c0_2, .int .i64 a0_3, .int .i64 a0_4, .slice A0_5 l0_5.length c0_5, .slice A0_6 l0_6.length c0_6] 68 (0, 0)) (by (with_reducible repeat (first | refine z1i ?_ _ | refine z3i ?_ | refine z2i ?_ _)); exact BK219.out) hb); have n1_ := z0i (y5i (g := gb220) (o := .cells #[.int .i64 a1_0, .int .i64 a1_1, .slice A1_2 l1_2.length c1_2, .int .i64 a1_3, .int .i64 a1_4, .slice A1_5 l1_5.length c1_5, .slice A1_6 l1_6.length c1_6] 68 (0, 0)) (by (with_reducible repeat (first | refine z1i ?_ _ | refine z3i ?_ | refine z2i ?_ _)); exact BK220.out) hb); have n2_ := z0i (y6i (by repeat (first | (with_reducible first | exact HB.out | apply z4i | apply z5i | apply z6i | refine z7i ?_ GE219.out | refine z7i ?_ GE220.out) | exact HB.out)) hb); clear BK219; clear BK220; clear HB; have BK219 := n0_; have BK220 := n1_; have HB := n2_; clear n0_ n1_ n2_; (try clear hb); have hcz27_0 : w26.cell? ⟨gb219, 0, none⟩ = some (.int .i64 a0_0) := (x3i BK219.out 0).trans rfl; have hcz27_1 : w26.cell? ⟨gb219, 1, none⟩ = some (.int .i64 a0_1) := (x3i BK219.out 1).trans rfl; have hcz27_2 : w26.cell? ⟨gb219, 2, none⟩ = some (.slice A0_2 l0_2.length c0_2) := (x3i BK219.out 2).trans rfl; have hcz27_3 : w26.cell? ⟨gb219, 3, none⟩ = some (.int .i64 a0_3) := (x3i BK219.out 3).trans rfl; have hcz27_4 : w26.cell? ⟨gb219, 4, none⟩ = some (.int .i64 a0_4) := (x3i BK219.out 4).trans rfl; have hcz27_5 : w26.cell? ⟨gb219, 5, none⟩ = some (.slice A0_5 l0_5.length c0_5) := (x3i BK219.out 5).trans rfl; have hcz27_6 : w26.cell? ⟨gb219, 6, none⟩ = some (.slice A0_6 l0_6.length c0_6) := (x3i BK219.out 6).trans rfl; have hfz27_0 := x2i BK219.out 0; have hfz27_1 := x2i BK219.out 1; have hfz27_2 := x2i BK219.out 2; have hfz27_3 := x2i BK219.out 3; have hfz27_4 := x2i BK219.out 4; have hfz27_5 := x2i BK219.out 5; have hfz27_6 := x2i BK219.out 6; have hcz28_0 : w26.cell? ⟨gb220, 0, none⟩ = some (.int .i64 a1_0) := (x3i BK220.out 0).trans rfl; have hcz28_1 : w26.cell? ⟨gb220, 1, none⟩ = some (.int .i64 a1_1) := (x3i BK220.out 1).trans rfl; have hcz28_2 : w26.cell? ⟨gb220, 2, none⟩ = some (.slice A1_2 l1_2.length c1_2) := (x3i BK220.out 2).trans rfl; have hcz28_3 : w26.cell? ⟨gb220, 3, none⟩ = some (.int .i64 a1_3) := (x3i BK220.out 3).trans rfl; have hcz28_4 : w26.cell? ⟨gb220, 4, none⟩ = some (.int .i64 a1_4) := (x3i BK220.out 4).trans rfl; have hcz28_5 : w26.cell? ⟨gb220, 5, none⟩ = some (.slice A1_5 l1_5.length c1_5) := (x3i BK220.out 5).trans rfl; have hcz28_6 : w26.cell? ⟨gb220, 6, none⟩ = some (.slice A1_6 l1_6.length c1_6) := (x3i BK220.out 6).trans rfl; have hfz28_0 := x2i BK220.out 0; have hfz28_1 := x2i BK220.out 1; have hfz28_2 := x2i BK220.out 2; have hfz28_3 := x2i BK220.out 3; have hfz28_4 := x2i BK220.out 4; have hfz28_5 := x2i BK220.out 5; have hfz28_6 := x2i BK220.out 6) | ((with_reducible refine gate_callee (f := 96) rfl ?_); refine goesL_ (some 15) rfl rfl Try.func96 (by kernel_rfl) rfl #[.agg #[.int .i64 a0_3, .int .i64 a0_4, .slice A0_5 l0_5.length c0_5], .agg #[.int .i64 a1_3, .int .i64 a1_4, .slice A1_5 l1_5.length c1_5]] rfl (by (try simp only [List.map_toArray, List.map_cons, List.map_nil]); first | done | rfl | (simp only [List.length_drop, List.length_take]; rfl)) ?_; (with_reducible refine (laws_eqMatrix.calls k a0_3 a0_4 _ _ l0_5 a1_3 a1_4 _ _ l1_5 true _ ?side1 ?side2 ?side3 ?side4 A5.out).mono ?_); (case side1 => repeat (first | exact HR0_5.out | exact (y9i HR0_5.out HB.out) | (with_reducible refine y2i ?_ _) | (with_reducible refine y3i ?_ _) | (with_reducible refine y4i ?_))); (case side2 => exact HC0_5.out); (case side3 => repeat (first | exact HR1_5.out | exact (y9i HR1_5.out HB.out) | (with_reducible refine y2i ?_ _) | (with_reducible refine y3i ?_ _) | (with_reducible refine y4i ?_))); (case side4 => exact HC1_5.out); rintro e w29 ⟨rfl, hb⟩; refine ⟨_, rfl, ?_⟩; have n0_ := z0i (y5i (g := gb219) (o := .cells #[.int .i64 a0_0, .int .i64 a0_1, .slice A0_2 l0_2.length c0_2, .int .i64 a0_3, .int .i64 a0_4, .slice A0_5 l0_5.length c0_5, .slice A0_6 l0_6.length c0_6] 68 (0, 0)) (by (with_reducible repeat (first | refine z1i ?_ _ | refine z3i ?_ | refine z2i ?_ _)); exact BK219.out) hb); have n1_ := z0i (y5i (g := gb220) (o := .cells #[.int .i64 a1_0, .int .i64 a1_1, .slice A1_2 l1_2.length c1_2, .int .i64 a1_3, .int .i64 a1_4, .slice A1_5 l1_5.length c1_5, .slice A1_6 l1_6.length c1_6] 68 (0, 0)) (by (with_reducible repeat (first | refine z1i ?_ _ | refine z3i ?_ | refine z2i ?_ _)); exact BK220.out) hb); have n2_ := z0i (y6i (by repeat (first | (with_reducible first | exact HB.out | apply z4i | apply z5i | apply z6i | refine z7i ?_ GE219.out | refine z7i ?_ GE220.out) | exact HB.out)) hb); clear BK219; clear BK220; clear HB; have BK219 := n0_; have BK220 := n1_; have HB := n2_; clear n0_ n1_ n2_; (try clear hb); have hcz30_0 : w29.cell? ⟨gb219, 0, none⟩ = some (.int .i64 a0_0) := (x3i BK219.out 0).trans rfl; have hcz30_1 : w29.cell? ⟨gb219, 1, none⟩ = some (.int .i64 a0_1) := (x3i BK219.out 1).trans rfl; have hcz30_2 : w29.cell? ⟨gb219, 2, none⟩ = some (.slice A0_2 l0_2.length c0_2) := (x3i BK219.out 2).trans rfl; have hcz30_3 : w29.cell? ⟨gb219, 3, none⟩ = some (.int .i64 a0_3) := (x3i BK219.out 3).trans rfl; have hcz30_4 : w29.cell? ⟨gb219, 4, none⟩ = some (.int .i64 a0_4) := (x3i BK219.out 4).trans rfl; have hcz30_5 : w29.cell? ⟨gb219, 5, none⟩ = some (.slice A0_5 l0_5.length c0_5) := (x3i BK219.out 5).trans rfl; have hcz30_6 : w29.cell? ⟨gb219, 6, none⟩ = some (.slice A0_6 l0_6.length c0_6) := (x3i BK219.out 6).trans rfl; have hfz30_0 := x2i BK219.out 0; have hfz30_1 := x2i BK219.out 1; have hfz30_2 := x2i BK219.out 2; have hfz30_3 := x2i BK219.out 3; have hfz30_4 := x2i BK219.out 4; have hfz30_5 := x2i BK219.out 5; have hfz30_6 := x2i BK219.out 6; have hcz31_0 : w29.cell? ⟨gb220, 0, none⟩ = some (.int .i64 a1_0) := (x3i BK220.out 0).trans rfl; have hcz31_1 : w29.cell? ⟨gb220, 1, none⟩ = some (.int .i64 a1_1) := (x3i BK220.out 1).trans rfl; have hcz31_2 : w29.cell? ⟨gb220, 2, none⟩ = some (.slice A1_2 l1_2.length c1_2) := (x3i BK220.out 2).trans rfl; have hcz31_3 : w29.cell? ⟨gb220, 3, none⟩ = some (.int .i64 a1_3) := (x3i BK220.out 3).trans rfl; have hcz31_4 : w29.cell? ⟨gb220, 4, none⟩ = some (.int .i64 a1_4) := (x3i BK220.out 4).trans rfl; have hcz31_5 : w29.cell? ⟨gb220, 5, none⟩ = some (.slice A1_5 l1_5.length c1_5) := (x3i BK220.out 5).trans rfl; have hcz31_6 : w29.cell? ⟨gb220, 6, none⟩ = some (.slice A1_6 l1_6.length c1_6) := (x3i BK220.out 6).trans rfl; have hfz31_0 := x2i BK220.out 0; have hfz31_1 := x2i BK220.out 1; have hfz31_2 := x2i BK220.out 2; have hfz31_3 := x2i BK220.out 3; have hfz31_4 := x2i BK220.out 4; have hfz31_5 := x2i BK220.out 5; have hfz31_6 := x2i BK220.out 6) | ((with_reducible refine gate_callee (f := 97) rfl ?_); refine goesL_ (some 21) rfl rfl Try.func97 (by kernel_rfl) rfl #[.slice A0_6 l0_6.length c0_6, .slice A1_6 l1_6.length c1_6] rfl (by (try simp only [List.map_toArray, List.map_cons, List.map_nil]); first | done | rfl | (simp only [List.length_drop, List.length_take]; rfl)) ?_; (with_reducible refine (laws_eqPictureS.calls k _ _ l0_6 _ _ l1_6 false _ ?side1 ?side2 ?side3 ?side4 A7.out).mono ?_); (case side1 => repeat (first | exact HR0_6.out | exact (y9i HR0_6.out HB.out) | (with_reducible refine y2i ?_ _) | (with_reducible refine y3i ?_ _) | (with_reducible refine y4i ?_))); (case side2 => exact HC0_6.out); (case side3 => repeat (first | exact HR1_6.out | exact (y9i HR1_6.out HB.out) | (with_reducible refine y2i ?_ _) | (with_reducible refine y3i ?_ _) | (with_reducible refine y4i ?_))); (case side4 => exact HC1_6.out); rintro e w32 ⟨rfl, hb⟩; refine ⟨_, rfl, ?_⟩; have n0_ := z0i (y5i (g := gb219) (o := .cells #[.int .i64 a0_0, .int .i64 a0_1, .slice A0_2 l0_2.length c0_2, .int .i64 a0_3, .int .i64 a0_4, .slice A0_5 l0_5.length c0_5, .slice A0_6 l0_6.length c0_6] 68 (0, 0)) (by (with_reducible repeat (first | refine z1i ?_ _ | refine z3i ?_ | refine z2i ?_ _)); exact BK219.out) hb); have n1_ := z0i (y5i (g := gb220) (o := .cells #[.int .i64 a1_0, .int .i64 a1_1, .slice A1_2 l1_2.length c1_2, .int .i64 a1_3, .int .i64 a1_4, .slice A1_5 l1_5.length c1_5, .slice A1_6 l1_6.length c1_6] 68 (0, 0)) (by (with_reducible repeat (first | refine z1i ?_ _ | refine z3i ?_ | refine z2i ?_ _)); exact BK220.out) hb); have n2_ := z0i (y6i (by repeat (first | (with_reducible first | exact HB.out | apply z4i | apply z5i | apply z6i | refine z7i ?_ GE219.out | refine z7i ?_ GE220.out) | exact HB.out)) hb); clear BK219; clear BK220; clear HB; have BK219 := n0_; have BK220 := n1_; have HB := n2_; clear n0_ n1_ n2_; (try clear hb)))
    go_ret
    exact ⟨by first | rfl | (simp [errW_none, errW_some] <;> rfl) | (simp [*, errW_none, errW_some] <;> rfl), by repeat (first | (with_reducible first | exact HB.out | apply z4i | apply z5i | apply z6i | refine z7i ?_ GE219.out | refine z7i ?_ GE220.out) | exact HB.out)⟩
  ·replace c6 := Bool.eq_false_iff.mpr c6
   subst c6
   have H1 : (some false) = some r := by rw [if_neg (show ¬ (false = true) by decide)] at H; first | exact H | (simp only [if_true] at H ⊢; exact H)
   clear H
   have H := H1
   clear H1
   obtain rfl := Option.some.inj H
   go_enter Try.func54, Try.ntmps54
   go_wp2_with (first | ((with_reducible refine gate_dst (N := 2) rfl ?_); refine box_event ?hg (N := 2) ?hd (cs := #[.int .i64 a0_0, .int .i64 a0_1, .slice A0_2 l0_2.length c0_2, .int .i64 a0_3, .int .i64 a0_4, .slice A0_5 l0_5.length c0_5, .slice A0_6 l0_6.length c0_6]) (t := 68) ?hr ?_; (case hd => rfl); (case hg => rfl); (case hr => first | (go_simp; done) | (go_simp; rfl)); intro gb219 hg w33 hbox hb; have n0_ := z0i (y6i (by repeat (first | (with_reducible first | exact HB.out | apply z4i | apply z5i | apply z6i) | exact HB.out)) hb); have n1_ := z0i (hbox); have n2_ := z0i ((by rw [hg]; exact (y7i (by repeat (first | (with_reducible first | exact HB.out | apply z4i | apply z5i | apply z6i) | exact HB.out))) : w.heap.size ≤ gb219)); have n3_ := z0i ((by rw [hg]; exact (y7i (by repeat (first | (with_reducible first | exact HB.out | apply z4i | apply z5i | apply z6i) | exact HB.out))) : w.heap.size ≤ gb219)); clear HB; have HB := n0_; have BK219 := n1_; have GW219 := n2_; have GE219 := n3_; clear n0_ n1_ n2_ n3_; clear hb hbox hg) | ((with_reducible refine gate_dst (N := 3) rfl ?_); refine box_event ?hg (N := 3) ?hd (cs := #[.int .i64 a1_0, .int .i64 a1_1, .slice A1_2 l1_2.length c1_2, .int .i64 a1_3, .int .i64 a1_4, .slice A1_5 l1_5.length c1_5, .slice A1_6 l1_6.length c1_6]) (t := 68) ?hr ?_; (case hd => rfl); (case hg => rfl); (case hr => first | (go_simp; done) | (go_simp; rfl)); intro gb220 hg w34 hbox hb; have n0_ := z0i (y5i (g := gb219) (o := .cells #[.int .i64 a0_0, .int .i64 a0_1, .slice A0_2 l0_2.length c0_2, .int .i64 a0_3, .int .i64 a0_4, .slice A0_5 l0_5.length c0_5, .slice A0_6 l0_6.length c0_6] 68 (0, 0)) (by (with_reducible repeat (first | refine z1i ?_ _ | refine z3i ?_ | refine z2i ?_ _)); exact BK219.out) hb); have n1_ := z0i (y6i (by repeat (first | (with_reducible first | exact HB.out | apply z4i | apply z5i | apply z6i | refine z7i ?_ GE219.out) | exact HB.out)) hb); have n2_ := z0i (hbox); have n3_ := z0i ((by rw [hg]; exact (y7i (by repeat (first | (with_reducible first | exact HB.out | apply z4i | apply z5i | apply z6i | refine z7i ?_ GE219.out) | exact HB.out))) : w.heap.size ≤ gb220)); have n4_ := z0i ((by rw [hg]; exact (y7i (by repeat (first | (with_reducible first | exact HB.out | apply z4i | apply z5i | apply z6i | refine z7i ?_ GE219.out) | exact HB.out))) : w.heap.size ≤ gb220)); have n5_ := z0i ((by rw [hg]; exact Nat.ne_of_lt (blk_lt (g := gb219) (o := .cells #[.int .i64 a0_0, .int .i64 a0_1, .slice A0_2 l0_2.length c0_2, .int .i64 a0_3, .int .i64 a0_4, .slice A0_5 l0_5.length c0_5, .slice A0_6 l0_6.length c0_6] 68 (0, 0)) (by (with_reducible repeat (first | refine z1i ?_ _ | refine z3i ?_ | refine z2i ?_ _)); exact BK219.out)) : gb219 ≠ gb220)); have n6_ := z0i ((by rw [hg]; exact Nat.ne_of_gt (blk_lt (g := gb219) (o := .cells #[.int .i64 a0_0, .int .i64 a0_1, .slice A0_2 l0_2.length c0_2, .int .i64 a0_3, .int .i64 a0_4, .slice A0_5 l0_5.length c0_5, .slice A0_6 l0_6.length c0_6] 68 (0, 0)) (by (with_reducible repeat (first | refine z1i ?_ _ | refine z3i ?_ | refine z2i ?_ _)); exact BK219.out)) : gb220 ≠ gb219)); clear BK219; clear HB; have BK219 := n0_; have HB := n1_; have BK220 := n2_; have GW220 := n3_; have GE220 := n4_; have NB219_220 := n5_; have NB220_219 := n6_; clear n0_ n1_ n2_ n3_ n4_ n5_ n6_; clear hb hbox hg; have hnb35 := NB219_220.out; have hnc35 := NB220_219.out; have hcz36_0 : w34.cell? ⟨gb219, 0, none⟩ = some (.int .i64 a0_0) := (x3i BK219.out 0).trans rfl; have hcz36_1 : w34.cell? ⟨gb219, 1, none⟩ = some (.int .i64 a0_1) := (x3i BK219.out 1).trans rfl; have hcz36_2 : w34.cell? ⟨gb219, 2, none⟩ = some (.slice A0_2 l0_2.length c0_2) := (x3i BK219.out 2).trans rfl; have hcz36_3 : w34.cell? ⟨gb219, 3, none⟩ = some (.int .i64 a0_3) := (x3i BK219.out 3).trans rfl; have hcz36_4 : w34.cell? ⟨gb219, 4, none⟩ = some (.int .i64 a0_4) := (x3i BK219.out 4).trans rfl; have hcz36_5 : w34.cell? ⟨gb219, 5, none⟩ = some (.slice A0_5 l0_5.length c0_5) := (x3i BK219.out 5).trans rfl; have hcz36_6 : w34.cell? ⟨gb219, 6, none⟩ = some (.slice A0_6 l0_6.length c0_6) := (x3i BK219.out 6).trans rfl; have hfz36_0 := x2i BK219.out 0; have hfz36_1 := x2i BK219.out 1; have hfz36_2 := x2i BK219.out 2; have hfz36_3 := x2i BK219.out 3; have hfz36_4 := x2i BK219.out 4; have hfz36_5 := x2i BK219.out 5; have hfz36_6 := x2i BK219.out 6; have hcz37_0 : w34.cell? ⟨gb220, 0, none⟩ = some (.int .i64 a1_0) := (x3i BK220.out 0).trans rfl; have hcz37_1 : w34.cell? ⟨gb220, 1, none⟩ = some (.int .i64 a1_1) := (x3i BK220.out 1).trans rfl; have hcz37_2 : w34.cell? ⟨gb220, 2, none⟩ = some (.slice A1_2 l1_2.length c1_2) := (x3i BK220.out 2).trans rfl; have hcz37_3 : w34.cell? ⟨gb220, 3, none⟩ = some (.int .i64 a1_3) := (x3i BK220.out 3).trans rfl; have hcz37_4 : w34.cell? ⟨gb220, 4, none⟩ = some (.int .i64 a1_4) := (x3i BK220.out 4).trans rfl; have hcz37_5 : w34.cell? ⟨gb220, 5, none⟩ = some (.slice A1_5 l1_5.length c1_5) := (x3i BK220.out 5).trans rfl; have hcz37_6 : w34.cell? ⟨gb220, 6, none⟩ = some (.slice A1_6 l1_6.length c1_6) := (x3i BK220.out 6).trans rfl; have hfz37_0 := x2i BK220.out 0; have hfz37_1 := x2i BK220.out 1; have hfz37_2 := x2i BK220.out 2; have hfz37_3 := x2i BK220.out 3; have hfz37_4 := x2i BK220.out 4; have hfz37_5 := x2i BK220.out 5; have hfz37_6 := x2i BK220.out 6) | ((with_reducible refine gate_callee (f := 95) rfl ?_); refine goesL_ (some 9) rfl rfl Try.func95 (by kernel_rfl) rfl #[.agg #[.int .i64 a0_0, .int .i64 a0_1, .slice A0_2 l0_2.length c0_2], .agg #[.int .i64 a1_0, .int .i64 a1_1, .slice A1_2 l1_2.length c1_2]] rfl (by (try simp only [List.map_toArray, List.map_cons, List.map_nil]); first | done | rfl | (simp only [List.length_drop, List.length_take]; rfl)) ?_; (with_reducible refine (laws_eqPicture.calls k a0_0 a0_1 _ _ l0_2 a1_0 a1_1 _ _ l1_2 true _ ?side1 ?side2 ?side3 ?side4 A3.out).mono ?_); (case side1 => repeat (first | exact HR0_2.out | exact (y9i HR0_2.out HB.out) | (with_reducible refine y2i ?_ _) | (with_reducible refine y3i ?_ _) | (with_reducible refine y4i ?_))); (case side2 => exact HC0_2.out); (case side3 => repeat (first | exact HR1_2.out | exact (y9i HR1_2.out HB.out) | (with_reducible refine y2i ?_ _) | (with_reducible refine y3i ?_ _) | (with_reducible refine y4i ?_))); (case side4 => exact HC1_2.out); rintro e w38 ⟨rfl, hb⟩; refine ⟨_, rfl, ?_⟩; have n0_ := z0i (y5i (g := gb219) (o := .cells #[.int .i64 a0_0, .int .i64 a0_1, .slice A0_2 l0_2.length c0_2, .int .i64 a0_3, .int .i64 a0_4, .slice A0_5 l0_5.length c0_5, .slice A0_6 l0_6.length c0_6] 68 (0, 0)) (by (with_reducible repeat (first | refine z1i ?_ _ | refine z3i ?_ | refine z2i ?_ _)); exact BK219.out) hb); have n1_ := z0i (y5i (g := gb220) (o := .cells #[.int .i64 a1_0, .int .i64 a1_1, .slice A1_2 l1_2.length c1_2, .int .i64 a1_3, .int .i64 a1_4, .slice A1_5 l1_5.length c1_5, .slice A1_6 l1_6.length c1_6] 68 (0, 0)) (by (with_reducible repeat (first | refine z1i ?_ _ | refine z3i ?_ | refine z2i ?_ _)); exact BK220.out) hb); have n2_ := z0i (y6i (by repeat (first | (with_reducible first | exact HB.out | apply z4i | apply z5i | apply z6i | refine z7i ?_ GE219.out | refine z7i ?_ GE220.out) | exact HB.out)) hb); clear BK219; clear BK220; clear HB; have BK219 := n0_; have BK220 := n1_; have HB := n2_; clear n0_ n1_ n2_; (try clear hb); have hcz39_0 : w38.cell? ⟨gb219, 0, none⟩ = some (.int .i64 a0_0) := (x3i BK219.out 0).trans rfl; have hcz39_1 : w38.cell? ⟨gb219, 1, none⟩ = some (.int .i64 a0_1) := (x3i BK219.out 1).trans rfl; have hcz39_2 : w38.cell? ⟨gb219, 2, none⟩ = some (.slice A0_2 l0_2.length c0_2) := (x3i BK219.out 2).trans rfl; have hcz39_3 : w38.cell? ⟨gb219, 3, none⟩ = some (.int .i64 a0_3) := (x3i BK219.out 3).trans rfl; have hcz39_4 : w38.cell? ⟨gb219, 4, none⟩ = some (.int .i64 a0_4) := (x3i BK219.out 4).trans rfl; have hcz39_5 : w38.cell? ⟨gb219, 5, none⟩ = some (.slice A0_5 l0_5.length c0_5) := (x3i BK219.out 5).trans rfl; have hcz39_6 : w38.cell? ⟨gb219, 6, none⟩ = some (.slice A0_6 l0_6.length c0_6) := (x3i BK219.out 6).trans rfl; have hfz39_0 := x2i BK219.out 0; have hfz39_1 := x2i BK219.out 1; have hfz39_2 := x2i BK219.out 2; have hfz39_3 := x2i BK219.out 3; have hfz39_4 := x2i BK219.out 4; have hfz39_5 := x2i BK219.out 5; have hfz39_6 := x2i BK219.out 6; have hcz40_0 : w38.cell? ⟨gb220, 0, none⟩ = some (.int .i64 a1_0) := (x3i BK220.out 0).trans rfl; have hcz40_1 : w38.cell? ⟨gb220, 1, none⟩ = some (.int .i64 a1_1) := (x3i BK220.out 1).trans rfl; have hcz40_2 : w38.cell? ⟨gb220, 2, none⟩ = some (.slice A1_2 l1_2.length c1_2) := (x3i BK220.out 2).trans rfl; have hcz40_3 : w38.cell? ⟨gb220, 3, none⟩ = some (.int .i64 a1_3) := (x3i BK220.out 3).trans rfl; have hcz40_4 : w38.cell? ⟨gb220, 4, none⟩ = some (.int .i64 a1_4) := (x3i BK220.out 4).trans rfl; have hcz40_5 : w38.cell? ⟨gb220, 5, none⟩ = some (.slice A1_5 l1_5.length c1_5) := (x3i BK220.out 5).trans rfl; have hcz40_6 : w38.cell? ⟨gb220, 6, none⟩ = some (.slice A1_6 l1_6.length c1_6) := (x3i BK220.out 6).trans rfl; have hfz40_0 := x2i BK220.out 0; have hfz40_1 := x2i BK220.out 1; have hfz40_2 := x2i BK220.out 2; have hfz40_3 := x2i BK220.out 3; have hfz40_4 := x2i BK220.out 4; have hfz40_5 := x2i BK220.out 5; have hfz40_6 := x2i BK220.out 6) | ((with_reducible refine gate_callee (f := 96) rfl ?_); refine goesL_ (some 15) rfl rfl Try.func96 (by kernel_rfl) rfl #[.agg #[.int .i64 a0_3, .int .i64 a0_4, .slice A0_5 l0_5.length c0_5], .agg #[.int .i64 a1_3, .int .i64 a1_4, .slice A1_5 l1_5.length c1_5]] rfl (by (try simp only [List.map_toArray, List.map_cons, List.map_nil]); first | done | rfl | (simp only [List.length_drop, List.length_take]; rfl)) ?_; (with_reducible refine (laws_eqMatrix.calls k a0_3 a0_4 _ _ l0_5 a1_3 a1_4 _ _ l1_5 false _ ?side1 ?side2 ?side3 ?side4 A5.out).mono ?_); (case side1 => repeat (first | exact HR0_5.out | exact (y9i HR0_5.out HB.out) | (with_reducible refine y2i ?_ _) | (with_reducible refine y3i ?_ _) | (with_reducible refine y4i ?_))); (case side2 => exact HC0_5.out); (case side3 => repeat (first | exact HR1_5.out | exact (y9i HR1_5.out HB.out) | (with_reducible refine y2i ?_ _) | (with_reducible refine y3i ?_ _) | (with_reducible refine y4i ?_))); (case side4 => exact HC1_5.out); rintro e w41 ⟨rfl, hb⟩; refine ⟨_, rfl, ?_⟩; have n0_ := z0i (y5i (g := gb219) (o := .cells #[.int .i64 a0_0, .int .i64 a0_1, .slice A0_2 l0_2.length c0_2, .int .i64 a0_3, .int .i64 a0_4, .slice A0_5 l0_5.length c0_5, .slice A0_6 l0_6.length c0_6] 68 (0, 0)) (by (with_reducible repeat (first | refine z1i ?_ _ | refine z3i ?_ | refine z2i ?_ _)); exact BK219.out) hb); have n1_ := z0i (y5i (g := gb220) (o := .cells #[.int .i64 a1_0, .int .i64 a1_1, .slice A1_2 l1_2.length c1_2, .int .i64 a1_3, .int .i64 a1_4, .slice A1_5 l1_5.length c1_5, .slice A1_6 l1_6.length c1_6] 68 (0, 0)) (by (with_reducible repeat (first | refine z1i ?_ _ | refine z3i ?_ | refine z2i ?_ _)); exact BK220.out) hb); have n2_ := z0i (y6i (by repeat (first | (with_reducible first | exact HB.out | apply z4i | apply z5i | apply z6i | refine z7i ?_ GE219.out | refine z7i ?_ GE220.out) | exact HB.out)) hb); clear BK219; clear BK220; clear HB; have BK219 := n0_; have BK220 := n1_; have HB := n2_; clear n0_ n1_ n2_; (try clear hb)))
   go_ret
   exact ⟨by first | rfl | (simp [errW_none, errW_some] <;> rfl) | (simp [*, errW_none, errW_some] <;> rfl), by repeat (first | (with_reducible first | exact HB.out | apply z4i | apply z5i | apply z6i | refine z7i ?_ GE219.out | refine z7i ?_ GE220.out) | exact HB.out)⟩
 ·replace c4 := Bool.eq_false_iff.mpr c4
  subst c4
  have H1 : (some false) = some r := by rw [if_neg (show ¬ (false = true) by decide)] at H; first | exact H | (simp only [if_true] at H ⊢; exact H)
  clear H
  have H := H1
  clear H1
  obtain rfl := Option.some.inj H
  go_enter Try.func54, Try.ntmps54
  go_wp2_with (first | ((with_reducible refine gate_dst (N := 2) rfl ?_); refine box_event ?hg (N := 2) ?hd (cs := #[.int .i64 a0_0, .int .i64 a0_1, .slice A0_2 l0_2.length c0_2, .int .i64 a0_3, .int .i64 a0_4, .slice A0_5 l0_5.length c0_5, .slice A0_6 l0_6.length c0_6]) (t := 68) ?hr ?_; (case hd => rfl); (case hg => rfl); (case hr => first | (go_simp; done) | (go_simp; rfl)); intro gb219 hg w42 hbox hb; have n0_ := z0i (y6i (by repeat (first | (with_reducible first | exact HB.out | apply z4i | apply z5i | apply z6i) | exact HB.out)) hb); have n1_ := z0i (hbox); have n2_ := z0i ((by rw [hg]; exact (y7i (by repeat (first | (with_reducible first | exact HB.out | apply z4i | apply z5i | apply z6i) | exact HB.out))) : w.heap.size ≤ gb219)); have n3_ := z0i ((by rw [hg]; exact (y7i (by repeat (first | (with_reducible first | exact HB.out | apply z4i | apply z5i | apply z6i) | exact HB.out))) : w.heap.size ≤ gb219)); clear HB; have HB := n0_; have BK219 := n1_; have GW219 := n2_; have GE219 := n3_; clear n0_ n1_ n2_ n3_; clear hb hbox hg) | ((with_reducible refine gate_dst (N := 3) rfl ?_); refine box_event ?hg (N := 3) ?hd (cs := #[.int .i64 a1_0, .int .i64 a1_1, .slice A1_2 l1_2.length c1_2, .int .i64 a1_3, .int .i64 a1_4, .slice A1_5 l1_5.length c1_5, .slice A1_6 l1_6.length c1_6]) (t := 68) ?hr ?_; (case hd => rfl); (case hg => rfl); (case hr => first | (go_simp; done) | (go_simp; rfl)); intro gb220 hg w43 hbox hb; have n0_ := z0i (y5i (g := gb219) (o := .cells #[.int .i64 a0_0, .int .i64 a0_1, .slice A0_2 l0_2.length c0_2, .int .i64 a0_3, .int .i64 a0_4, .slice A0_5 l0_5.length c0_5, .slice A0_6 l0_6.length c0_6] 68 (0, 0)) (by (with_reducible repeat (first | refine z1i ?_ _ | refine z3i ?_ | refine z2i ?_ _)); exact BK219.out) hb); have n1_ := z0i (y6i (by repeat (first | (with_reducible first | exact HB.out | apply z4i | apply z5i | apply z6i | refine z7i ?_ GE219.out) | exact HB.out)) hb); have n2_ := z0i (hbox); have n3_ := z0i ((by rw [hg]; exact (y7i (by repeat (first | (with_reducible first | exact HB.out | apply z4i | apply z5i | apply z6i | refine z7i ?_ GE219.out) | exact HB.out))) : w.heap.size ≤ gb220)); have n4_ := z0i ((by rw [hg]; exact (y7i (by repeat (first | (with_reducible first | exact HB.out | apply z4i | apply z5i | apply z6i | refine z7i ?_ GE219.out) | exact HB.out))) : w.heap.size ≤ gb220)); have n5_ := z0i ((by rw [hg]; exact Nat.ne_of_lt (blk_lt (g := gb219) (o := .cells #[.int .i64 a0_0, .int .i64 a0_1, .slice A0_2 l0_2.length c0_2, .int .i64 a0_3, .int .i64 a0_4, .slice A0_5 l0_5.length c0_5, .slice A0_6 l0_6.length c0_6] 68 (0, 0)) (by (with_reducible repeat (first | refine z1i ?_ _ | refine z3i ?_ | refine z2i ?_ _)); exact BK219.out)) : gb219 ≠ gb220)); have n6_ := z0i ((by rw [hg]; exact Nat.ne_of_gt (blk_lt (g := gb219) (o := .cells #[.int .i64 a0_0, .int .i64 a0_1, .slice A0_2 l0_2.length c0_2, .int .i64 a0_3, .int .i64 a0_4, .slice A0_5 l0_5.length c0_5, .slice A0_6 l0_6.length c0_6] 68 (0, 0)) (by (with_reducible repeat (first | refine z1i ?_ _ | refine z3i ?_ | refine z2i ?_ _)); exact BK219.out)) : gb220 ≠ gb219)); clear BK219; clear HB; have BK219 := n0_; have HB := n1_; have BK220 := n2_; have GW220 := n3_; have GE220 := n4_; have NB219_220 := n5_; have NB220_219 := n6_; clear n0_ n1_ n2_ n3_ n4_ n5_ n6_; clear hb hbox hg; have hnb44 := NB219_220.out; have hnc44 := NB220_219.out; have hcz45_0 : w43.cell? ⟨gb219, 0, none⟩ = some (.int .i64 a0_0) := (x3i BK219.out 0).trans rfl; have hcz45_1 : w43.cell? ⟨gb219, 1, none⟩ = some (.int .i64 a0_1) := (x3i BK219.out 1).trans rfl; have hcz45_2 : w43.cell? ⟨gb219, 2, none⟩ = some (.slice A0_2 l0_2.length c0_2) := (x3i BK219.out 2).trans rfl; have hcz45_3 : w43.cell? ⟨gb219, 3, none⟩ = some (.int .i64 a0_3) := (x3i BK219.out 3).trans rfl; have hcz45_4 : w43.cell? ⟨gb219, 4, none⟩ = some (.int .i64 a0_4) := (x3i BK219.out 4).trans rfl; have hcz45_5 : w43.cell? ⟨gb219, 5, none⟩ = some (.slice A0_5 l0_5.length c0_5) := (x3i BK219.out 5).trans rfl; have hcz45_6 : w43.cell? ⟨gb219, 6, none⟩ = some (.slice A0_6 l0_6.length c0_6) := (x3i BK219.out 6).trans rfl; have hfz45_0 := x2i BK219.out 0; have hfz45_1 := x2i BK219.out 1; have hfz45_2 := x2i BK219.out 2; have hfz45_3 := x2i BK219.out 3; have hfz45_4 := x2i BK219.out 4; have hfz45_5 := x2i BK219.out 5; have hfz45_6 := x2i BK219.out 6; have hcz46_0 : w43.cell? ⟨gb220, 0, none⟩ = some (.int .i64 a1_0) := (x3i BK220.out 0).trans rfl; have hcz46_1 : w43.cell? ⟨gb220, 1, none⟩ = some (.int .i64 a1_1) := (x3i BK220.out 1).trans rfl; have hcz46_2 : w43.cell? ⟨gb220, 2, none⟩ = some (.slice A1_2 l1_2.length c1_2) := (x3i BK220.out 2).trans rfl; have hcz46_3 : w43.cell? ⟨gb220, 3, none⟩ = some (.int .i64 a1_3) := (x3i BK220.out 3).trans rfl; have hcz46_4 : w43.cell? ⟨gb220, 4, none⟩ = some (.int .i64 a1_4) := (x3i BK220.out 4).trans rfl; have hcz46_5 : w43.cell? ⟨gb220, 5, none⟩ = some (.slice A1_5 l1_5.length c1_5) := (x3i BK220.out 5).trans rfl; have hcz46_6 : w43.cell? ⟨gb220, 6, none⟩ = some (.slice A1_6 l1_6.length c1_6) := (x3i BK220.out 6).trans rfl; have hfz46_0 := x2i BK220.out 0; have hfz46_1 := x2i BK220.out 1; have hfz46_2 := x2i BK220.out 2; have hfz46_3 := x2i BK220.out 3; have hfz46_4 := x2i BK220.out 4; have hfz46_5 := x2i BK220.out 5; have hfz46_6 := x2i BK220.out 6) | ((with_reducible refine gate_callee (f := 95) rfl ?_); refine goesL_ (some 9) rfl rfl Try.func95 (by kernel_rfl) rfl #[.agg #[.int .i64 a0_0, .int .i64 a0_1, .slice A0_2 l0_2.length c0_2], .agg #[.int .i64 a1_0, .int .i64 a1_1, .slice A1_2 l1_2.length c1_2]] rfl (by (try simp only [List.map_toArray, List.map_cons, List.map_nil]); first | done | rfl | (simp only [List.length_drop, List.length_take]; rfl)) ?_; (with_reducible refine (laws_eqPicture.calls k a0_0 a0_1 _ _ l0_2 a1_0 a1_1 _ _ l1_2 false _ ?side1 ?side2 ?side3 ?side4 A3.out).mono ?_); (case side1 => repeat (first | exact HR0_2.out | exact (y9i HR0_2.out HB.out) | (with_reducible refine y2i ?_ _) | (with_reducible refine y3i ?_ _) | (with_reducible refine y4i ?_))); (case side2 => exact HC0_2.out); (case side3 => repeat (first | exact HR1_2.out | exact (y9i HR1_2.out HB.out) | (with_reducible refine y2i ?_ _) | (with_reducible refine y3i ?_ _) | (with_reducible refine y4i ?_))); (case side4 => exact HC1_2.out); rintro e w47 ⟨rfl, hb⟩; refine ⟨_, rfl, ?_⟩; have n0_ := z0i (y5i (g := gb219) (o := .cells #[.int .i64 a0_0, .int .i64 a0_1, .slice A0_2 l0_2.length c0_2, .int .i64 a0_3, .int .i64 a0_4, .slice A0_5 l0_5.length c0_5, .slice A0_6 l0_6.length c0_6] 68 (0, 0)) (by (with_reducible repeat (first | refine z1i ?_ _ | refine z3i ?_ | refine z2i ?_ _)); exact BK219.out) hb); have n1_ := z0i (y5i (g := gb220) (o := .cells #[.int .i64 a1_0, .int .i64 a1_1, .slice A1_2 l1_2.length c1_2, .int .i64 a1_3, .int .i64 a1_4, .slice A1_5 l1_5.length c1_5, .slice A1_6 l1_6.length c1_6] 68 (0, 0)) (by (with_reducible repeat (first | refine z1i ?_ _ | refine z3i ?_ | refine z2i ?_ _)); exact BK220.out) hb); have n2_ := z0i (y6i (by repeat (first | (with_reducible first | exact HB.out | apply z4i | apply z5i | apply z6i | refine z7i ?_ GE219.out | refine z7i ?_ GE220.out) | exact HB.out)) hb); clear BK219; clear BK220; clear HB; have BK219 := n0_; have BK220 := n1_; have HB := n2_; clear n0_ n1_ n2_; (try clear hb)))
  go_ret
  exact ⟨by first | rfl | (simp [errW_none, errW_some] <;> rfl) | (simp [*, errW_none, errW_some] <;> rfl), by repeat (first | (with_reducible first | exact HB.out | apply z4i | apply z5i | apply z6i | refine z7i ?_ GE219.out | refine z7i ?_ GE220.out) | exact HB.out)⟩

end Go.Proofs.Ytheihidfbalioaa.PFnExactDeskOk
