/- Machine side of laws FnExactDeskOk: written for this claim by the kit's print program under this session's wip/tools/mp_setup.py (with contracts of the session's own, wip/ext). -/
import Derived.Test.YtheihidfbalioaaPFnExactDeskOkx0
import Derived.Test.YtheihidfbalioaaPFnExactDeskOkx1
import Derived.Test.YtheihidfbalioaaPFnExactDeskOkx2
import Derived.Test.YtheihidfbalioaaPFnExactDeskOkx3
namespace Go.Proofs.Ytheihidfbalioaa.PFnExactDeskOk
open Go.RowKit Go.Proofs.YtheihidfbalioaaW.PrintWords Go.Proofs.YtheihidfbalioaaW.PrintLast Go.Proofs.YtheihidfbalioaaW.PrintMore
attribute [local go_sem] max2_int min2_int max_two min_two max_three min_three max_four min_four   -- for this text's walks alone
set_option linter.unusedVariables false
set_option linter.unusedSimpArgs false
-- squeezed: words under short names
set_option linter.defProp false in
def z0e := @Aside0.mk
set_option linter.defProp false in
def z3e := @blk_drew
set_option linter.defProp false in
def z4e := @below_alloc
set_option linter.defProp false in
def z5e := @pw_below_drewN
set_option linter.defProp false in
def z6e := @below_drew1
set_option linter.defProp false in
def z7e := @below_set
set_option linter.defProp false in
def x2e := @blk_frozen
set_option linter.defProp false in
def x3e := @blk_cell
def bse_ (n m : Nat) : Array Bool := ((List.range n).map fun i => m.testBit i).toArray
theorem s1e_ {α : Type} (l : List α) (i : Nat) (a : α) : l.toArray.setIfInBounds i a = (l.set i a).toArray := List.setIfInBounds_toArray l i a
theorem s2e_ {α : Type} (a b : α) (l : List α) : (a :: l).set 0 b = b :: l := rfl
theorem s3e_ {α : Type} (a b : α) (n : Nat) (l : List α) : (a :: l).set (n + 1) b = a :: l.set n b := rfl

/-! ### spec_DeskOk: function 51 -/
def spec_DeskOk.j0 : Nat → Bool → Int → Int → List Int → Int → Int → List Int → List (S25) → Option (Bool)
 | 0, _, _, _, _, _, _, _, _ => none
 | k + 1, x12, x139000, x139001, x139002, x139003, x139004, x139005, x139006 => if x12 = true then (some false) else (if (x139006.length : Int) = 0 then (some true) else ((spec_IsStack.f k x139006).bind fun t141 => (if t141 = true then (if 0 < (x139006.length : Int) then (if ((rd_T25 x139006 0).f0) = x139000 then (some (((rd_T25 x139006 0).f1) == x139001)) else (some false)) else (none)) else (some false))))
def spec_DeskOk.f (k : Nat) (a0_0 : Int) (a0_1 : Int) (l0_2 : List Int) (a0_3 : Int) (a0_4 : Int) (l0_5 : List Int) (l0_6 : List (S25)) : Option (Bool) := (spec_IsPicture.f k a0_0 a0_1 l0_2).bind fun t139 => (if t139 = true then ((spec_IsMatrix.f k a0_3 a0_4 l0_5).bind fun t140 => (spec_DeskOk.j0 k (!t140) a0_0 a0_1 l0_2 a0_3 a0_4 l0_5 l0_6)) else (spec_DeskOk.j0 k true a0_0 a0_1 l0_2 a0_3 a0_4 l0_5 l0_6))
theorem spec_DeskOk.mono_l : ∀ k, (∀ y0 y1 y2 y3 y4 y5 y6 y7, LeO (spec_DeskOk.j0 k y0 y1 y2 y3 y4 y5 y6 y7) (spec_DeskOk.j0 (k + 1) y0 y1 y2 y3 y4 y5 y6 y7))
 | 0 => fun _ _ _ _ _ _ _ _ r h => by simp [spec_DeskOk.j0] at h
 | k + 1 => by
  have ih0 := spec_DeskOk.mono_l k
  ·intro y0 y1 y2 y3 y4 y5 y6 y7
   unfold spec_DeskOk.j0
   repeat' first
   | (with_reducible exact ih0 _ _ _ _ _ _ _ _)
   | (with_reducible exact spec_IsMatrix.mono _ _ _ _)
   | (with_reducible exact spec_IsPicture.mono _ _ _ _)
   | (with_reducible exact spec_IsStack.mono _ _)
   | (with_reducible exact LeO.refl _)
   | (with_reducible exact LeO.none _)
   | (with_reducible refine LeO.ite ?_ ?_)
   | (with_reducible refine LeO.bind ?_ (fun _ => ?_))
   | exact ih0 _ _ _ _ _ _ _ _
   | exact spec_IsMatrix.mono _ _ _ _
   | exact spec_IsPicture.mono _ _ _ _
   | exact spec_IsStack.mono _ _
   | exact LeO.none _
   | refine LeO.ite ?_ ?_
   | refine LeO.bind ?_ (fun _ => ?_)
theorem spec_DeskOk.mono : ∀ a0 a1 a2 a3 a4 a5 a6 k, LeO (spec_DeskOk.f k a0 a1 a2 a3 a4 a5 a6) (spec_DeskOk.f (k + 1) a0 a1 a2 a3 a4 a5 a6) := by
 intro a0 a1 a2 a3 a4 a5 a6 k
 have ih0 := spec_DeskOk.mono_l k
 unfold spec_DeskOk.f
 repeat' first
   | (with_reducible exact ih0 _ _ _ _ _ _ _ _)
   | (with_reducible exact spec_IsMatrix.mono _ _ _ _)
   | (with_reducible exact spec_IsPicture.mono _ _ _ _)
   | (with_reducible exact spec_IsStack.mono _ _)
   | (with_reducible exact LeO.refl _)
   | (with_reducible exact LeO.none _)
   | (with_reducible refine LeO.ite ?_ ?_)
   | (with_reducible refine LeO.bind ?_ (fun _ => ?_))
   | exact ih0 _ _ _ _ _ _ _ _
   | exact spec_IsMatrix.mono _ _ _ _
   | exact spec_IsPicture.mono _ _ _ _
   | exact spec_IsStack.mono _ _
   | exact LeO.none _
   | refine LeO.ite ?_ ?_
   | refine LeO.bind ?_ (fun _ => ?_)
def spec_DeskOk.T5 : Bool × List (List Nat × List Nat) := (true, [([], []), ([0], [0]), ([1], [1]), ([2, 2], [2]), ([3], [3]), ([4, 3], [3, 4]), ([5, 3], [3, 5]), ([6, 3], [3, 6]), ([7, 3], [3, 7]), ([3], [3]), ([9, 3], [3, 9]), ([10, 3], [3, 10]), ([8, 11, 3], [3, 8, 11]), ([3, 12], [3, 12]), ([13, 3], [13]), ([14], [14]), ([15, 14], [14, 15]), ([16, 14], [14, 16]), ([17, 14], [14, 17]), ([18, 14], [14, 18]), ([14], [14]), ([20, 14], [14, 20]), ([21, 14], [14, 21]), ([19, 22, 14], [14, 19, 22]), ([14, 23], [14, 23]), ([24, 14, 0, 1, 2, 3, 4, 5, 6, 7, 8, 9, 10, 11, 12, 13, 14, 15, 16, 17, 18, 19, 20, 21, 22, 23, 24], [24])])
def spec_DeskOk.B5 : List Nat := [0, 1, 3, 7, 15, 31, 63, 127, 255, 15, 527, 1551, 4095, 8191, 16383, 32767, 65535, 131071, 262143, 524287, 32767, 1081343, 3178495, 8388607, 16777215, 33554431]
theorem spec_DeskOk.tab5 : rtab .any (opsOf Try.f51 5) = spec_DeskOk.T5 := by kernel_rfl
theorem spec_DeskOk.bits5 : waitsOk spec_DeskOk.T5.2 spec_DeskOk.B5 = true := by kernel_rfl
set_option maxHeartbeats 8000000 in
set_option maxRecDepth 100000 in
theorem spec_DeskOk.calls (k : Nat) (a0_0 : Int) (a0_1 : Int) (A0_2 : Option Addr) (c0_2 : Nat) (l0_2 : List Int) (a0_3 : Int) (a0_4 : Int) (A0_5 : Option Addr) (c0_5 : Nat) (l0_5 : List Int) (A0_6 : Option Addr) (c0_6 : Nat) (l0_6 : List (S25)) (r : Bool) (w : World) (hr0_2 : Kd.C (Kd.int .i64) w A0_2 l0_2.length l0_2) (hc0_2 : l0_2.length ≤ c0_2) (hr0_5 : Kd.C (Kd.int .i64) w A0_5 l0_5.length l0_5) (hc0_5 : l0_5.length ≤ c0_5) (hr0_6 : Kd.C k25 w A0_6 l0_6.length l0_6) (hc0_6 : l0_6.length ≤ c0_6) (h : spec_DeskOk.f k a0_0 a0_1 l0_2 a0_3 a0_4 l0_5 l0_6 = some r) :
  Calls Try.prog 51 #[.agg #[.int .i64 a0_0, .int .i64 a0_1, .slice A0_2 l0_2.length c0_2, .int .i64 a0_3, .int .i64 a0_4, .slice A0_5 l0_5.length c0_5, .slice A0_6 l0_6.length c0_6]] w fun e w' => e = .returned (.bool r) ∧ Below w.heap.size w w' := by
 have hu68 := Try.underlying68
 have hu25 := Try.underlying25
 have hu39 := Try.underlying39
 have HR0_2 := z0e hr0_2
 have HC0_2 := z0e hc0_2
 clear hr0_2 hc0_2
 have HR0_5 := z0e hr0_5
 have HC0_5 := z0e hc0_5
 clear hr0_5 hc0_5
 have HR0_6 := z0e hr0_6
 have HC0_6 := z0e hc0_6
 clear hr0_6 hc0_6
 have HB := z0e (Below.refl w.heap.size w)
 have H : ((spec_IsPicture.f k a0_0 a0_1 l0_2).bind fun t139 => (if t139 = true then ((spec_IsMatrix.f k a0_3 a0_4 l0_5).bind fun t140 => (spec_DeskOk.j0 k (!t140) a0_0 a0_1 l0_2 a0_3 a0_4 l0_5 l0_6)) else (spec_DeskOk.j0 k true a0_0 a0_1 l0_2 a0_3 a0_4 l0_5 l0_6))) = some r := h
 clear h
 have HC2 := z0e H
 clear H
 go_enter Try.func51, Try.ntmps51
 go_upto_region 1 with (first | ((with_reducible refine gate_dst (N := 1) rfl ?_); refine box_event ?hg (N := 1) ?hd (cs := #[.int .i64 a0_0, .int .i64 a0_1, .slice A0_2 l0_2.length c0_2, .int .i64 a0_3, .int .i64 a0_4, .slice A0_5 l0_5.length c0_5, .slice A0_6 l0_6.length c0_6]) (t := 68) ?hr ?_; (case hd => rfl); (case hg => rfl); (case hr => first | (go_simp; done) | (go_simp; rfl)); intro gb138 hg w3 hbox hb; have n0_ := z0e (below_step (by repeat (first | (with_reducible first | exact HB.out | apply z4e | apply z5e | apply z6e) | exact HB.out)) hb); have n1_ := z0e (hbox); have n2_ := z0e ((by rw [hg]; exact (below_size (by repeat (first | (with_reducible first | exact HB.out | apply z4e | apply z5e | apply z6e) | exact HB.out))) : w.heap.size ≤ gb138)); have n3_ := z0e ((by rw [hg]; exact (below_size (by repeat (first | (with_reducible first | exact HB.out | apply z4e | apply z5e | apply z6e) | exact HB.out))) : w.heap.size ≤ gb138)); clear HB; have HB := n0_; have BK138 := n1_; have GW138 := n2_; have GE138 := n3_; clear n0_ n1_ n2_ n3_; clear hb hbox hg))
 (try simp only [Act.put, s1e_, s2e_, s3e_])
 go_cut [12] (fun v12 wc => ∃ (kq : Nat) (x12_1 : Bool), v12 = .bool x12_1 ∧ Aside0 (spec_DeskOk.j0 kq x12_1 a0_0 a0_1 l0_2 a0_3 a0_4 l0_5 l0_6 = some r) ∧ Aside0 (kq ≤ k) ∧ Aside0 (wc.heap[gb138]? = some (.cells #[.int .i64 a0_0, .int .i64 a0_1, (.slice A0_2 l0_2.length c0_2), .int .i64 a0_3, .int .i64 a0_4, (.slice A0_5 l0_5.length c0_5), (.slice A0_6 l0_6.length c0_6)] 68 (0, 0))) ∧ Aside0 (Below w.heap.size w wc))
 case first =>
  have H := HC2.out
  clear HC2
  replace H := Option.bind_eq_some_iff.mp H
  obtain ⟨t139, A40, H⟩ := H
  replace H : (if t139 = true then ((spec_IsMatrix.f k a0_3 a0_4 l0_5).bind fun t140 => (spec_DeskOk.j0 k (!t140) a0_0 a0_1 l0_2 a0_3 a0_4 l0_5 l0_6)) else (spec_DeskOk.j0 k true a0_0 a0_1 l0_2 a0_3 a0_4 l0_5 l0_6)) = some r := H
  have A4 := z0e A40
  clear A40
  by_cases c5 : t139 = true
  ·subst c5
   have H1 : ((spec_IsMatrix.f k a0_3 a0_4 l0_5).bind fun t140 => (spec_DeskOk.j0 k (!t140) a0_0 a0_1 l0_2 a0_3 a0_4 l0_5 l0_6)) = some r := by rw [if_pos rfl] at H; first | exact H | (simp only [if_true] at H ⊢; exact H)
   clear H
   have H := H1
   clear H1
   replace H := Option.bind_eq_some_iff.mp H
   obtain ⟨t140, A60, H⟩ := H
   replace H : (spec_DeskOk.j0 k (!t140) a0_0 a0_1 l0_2 a0_3 a0_4 l0_5 l0_6) = some r := H
   have A6 := z0e A60
   clear A60
   have H' := z0e H
   clear H
   have hcz7_0 : w3.cell? ⟨gb138, 0, none⟩ = some (.int .i64 a0_0) := (x3e BK138.out 0).trans rfl
   have hcz7_1 : w3.cell? ⟨gb138, 1, none⟩ = some (.int .i64 a0_1) := (x3e BK138.out 1).trans rfl
   have hcz7_2 : w3.cell? ⟨gb138, 2, none⟩ = some (.slice A0_2 l0_2.length c0_2) := (x3e BK138.out 2).trans rfl
   have hcz7_3 : w3.cell? ⟨gb138, 3, none⟩ = some (.int .i64 a0_3) := (x3e BK138.out 3).trans rfl
   have hcz7_4 : w3.cell? ⟨gb138, 4, none⟩ = some (.int .i64 a0_4) := (x3e BK138.out 4).trans rfl
   have hcz7_5 : w3.cell? ⟨gb138, 5, none⟩ = some (.slice A0_5 l0_5.length c0_5) := (x3e BK138.out 5).trans rfl
   have hcz7_6 : w3.cell? ⟨gb138, 6, none⟩ = some (.slice A0_6 l0_6.length c0_6) := (x3e BK138.out 6).trans rfl
   have hfz7_0 := x2e BK138.out 0
   have hfz7_1 := x2e BK138.out 1
   have hfz7_2 := x2e BK138.out 2
   have hfz7_3 := x2e BK138.out 3
   have hfz7_4 := x2e BK138.out 4
   have hfz7_5 := x2e BK138.out 5
   have hfz7_6 := x2e BK138.out 6
   go_wp2_with (first | ((with_reducible refine gate_callee (f := 86) rfl ?_); refine goesL_ (some 5) rfl rfl Try.func86 (by kernel_rfl) rfl #[.agg #[.int .i64 a0_0, .int .i64 a0_1, .slice A0_2 l0_2.length c0_2]] rfl (by (try simp only [List.map_toArray, List.map_cons, List.map_nil]); first | done | rfl | (simp only [List.length_drop, List.length_take]; rfl)) ?_; (with_reducible refine (spec_IsPicture.calls k a0_0 a0_1 _ _ l0_2 true _ ?side1 ?side2 A4.out).mono ?_); (case side1 => repeat (first | exact HR0_2.out | exact (Kd.C_below HR0_2.out HB.out) | (with_reducible refine Kd.C_alloc ?_ _) | (with_reducible refine Kd.C_drewN ?_ _) | (with_reducible refine Kd.C_drew ?_))); (case side2 => exact HC0_2.out); rintro e w8 ⟨rfl, hb⟩; refine ⟨_, rfl, ?_⟩; have n0_ := z0e (blk_below (g := gb138) (o := .cells #[.int .i64 a0_0, .int .i64 a0_1, .slice A0_2 l0_2.length c0_2, .int .i64 a0_3, .int .i64 a0_4, .slice A0_5 l0_5.length c0_5, .slice A0_6 l0_6.length c0_6] 68 (0, 0)) (by (with_reducible repeat (first | refine blk_drewN ?_ _ | refine z3e ?_ | refine blk_alloc ?_ _)); exact BK138.out) hb); have n1_ := z0e (below_step (by repeat (first | (with_reducible first | exact HB.out | apply z4e | apply z5e | apply z6e | refine z7e ?_ GE138.out) | exact HB.out)) hb); clear BK138; clear HB; have BK138 := n0_; have HB := n1_; clear n0_ n1_; (try clear hb); have hcz9_0 : w8.cell? ⟨gb138, 0, none⟩ = some (.int .i64 a0_0) := (x3e BK138.out 0).trans rfl; have hcz9_1 : w8.cell? ⟨gb138, 1, none⟩ = some (.int .i64 a0_1) := (x3e BK138.out 1).trans rfl; have hcz9_2 : w8.cell? ⟨gb138, 2, none⟩ = some (.slice A0_2 l0_2.length c0_2) := (x3e BK138.out 2).trans rfl; have hcz9_3 : w8.cell? ⟨gb138, 3, none⟩ = some (.int .i64 a0_3) := (x3e BK138.out 3).trans rfl; have hcz9_4 : w8.cell? ⟨gb138, 4, none⟩ = some (.int .i64 a0_4) := (x3e BK138.out 4).trans rfl; have hcz9_5 : w8.cell? ⟨gb138, 5, none⟩ = some (.slice A0_5 l0_5.length c0_5) := (x3e BK138.out 5).trans rfl; have hcz9_6 : w8.cell? ⟨gb138, 6, none⟩ = some (.slice A0_6 l0_6.length c0_6) := (x3e BK138.out 6).trans rfl; have hfz9_0 := x2e BK138.out 0; have hfz9_1 := x2e BK138.out 1; have hfz9_2 := x2e BK138.out 2; have hfz9_3 := x2e BK138.out 3; have hfz9_4 := x2e BK138.out 4; have hfz9_5 := x2e BK138.out 5; have hfz9_6 := x2e BK138.out 6) | (go_at_call 26; (with_reducible refine (spec_IsMatrix.calls k a0_3 a0_4 _ _ l0_5 t140 _ ?side1 ?side2 A6.out).mono ?_); (case side1 => repeat (first | exact HR0_5.out | exact (Kd.C_below HR0_5.out HB.out) | (with_reducible refine Kd.C_alloc ?_ _) | (with_reducible refine Kd.C_drewN ?_ _) | (with_reducible refine Kd.C_drew ?_))); (case side2 => exact HC0_5.out); rintro e w10 ⟨rfl, hb⟩; have n0_ := z0e (blk_below (g := gb138) (o := .cells #[.int .i64 a0_0, .int .i64 a0_1, .slice A0_2 l0_2.length c0_2, .int .i64 a0_3, .int .i64 a0_4, .slice A0_5 l0_5.length c0_5, .slice A0_6 l0_6.length c0_6] 68 (0, 0)) (by (with_reducible repeat (first | refine blk_drewN ?_ _ | refine z3e ?_ | refine blk_alloc ?_ _)); exact BK138.out) hb); have n1_ := z0e (below_step (by repeat (first | (with_reducible first | exact HB.out | apply z4e | apply z5e | apply z6e | refine z7e ?_ GE138.out) | exact HB.out)) hb); clear BK138; clear HB; have BK138 := n0_; have HB := n1_; clear n0_ n1_; (try clear hb)))
   go_meet
   case rel => exact ⟨_, (!t140), (by first | rfl | (simp; done) | (simp [*]; done)), H', ⟨by first | omega | exact Nat.le_refl _⟩, ⟨by (with_reducible repeat (first | refine blk_drewN ?_ _ | refine z3e ?_ | refine blk_alloc ?_ _)); exact BK138.out⟩, ⟨by repeat (first | (with_reducible first | exact HB.out | apply z4e | apply z5e | apply z6e | refine z7e ?_ GE138.out) | exact HB.out)⟩⟩
  ·replace c5 := Bool.eq_false_iff.mpr c5
   subst c5
   have H1 : (spec_DeskOk.j0 k true a0_0 a0_1 l0_2 a0_3 a0_4 l0_5 l0_6) = some r := by rw [if_neg (show ¬ (false = true) by decide)] at H; first | exact H | (simp only [if_true] at H ⊢; exact H)
   clear H
   have H := H1
   clear H1
   have H' := z0e H
   clear H
   have hcz11_0 : w3.cell? ⟨gb138, 0, none⟩ = some (.int .i64 a0_0) := (x3e BK138.out 0).trans rfl
   have hcz11_1 : w3.cell? ⟨gb138, 1, none⟩ = some (.int .i64 a0_1) := (x3e BK138.out 1).trans rfl
   have hcz11_2 : w3.cell? ⟨gb138, 2, none⟩ = some (.slice A0_2 l0_2.length c0_2) := (x3e BK138.out 2).trans rfl
   have hcz11_3 : w3.cell? ⟨gb138, 3, none⟩ = some (.int .i64 a0_3) := (x3e BK138.out 3).trans rfl
   have hcz11_4 : w3.cell? ⟨gb138, 4, none⟩ = some (.int .i64 a0_4) := (x3e BK138.out 4).trans rfl
   have hcz11_5 : w3.cell? ⟨gb138, 5, none⟩ = some (.slice A0_5 l0_5.length c0_5) := (x3e BK138.out 5).trans rfl
   have hcz11_6 : w3.cell? ⟨gb138, 6, none⟩ = some (.slice A0_6 l0_6.length c0_6) := (x3e BK138.out 6).trans rfl
   have hfz11_0 := x2e BK138.out 0
   have hfz11_1 := x2e BK138.out 1
   have hfz11_2 := x2e BK138.out 2
   have hfz11_3 := x2e BK138.out 3
   have hfz11_4 := x2e BK138.out 4
   have hfz11_5 := x2e BK138.out 5
   have hfz11_6 := x2e BK138.out 6
   go_wp2_with (first | ((with_reducible refine gate_callee (f := 86) rfl ?_); refine goesL_ (some 5) rfl rfl Try.func86 (by kernel_rfl) rfl #[.agg #[.int .i64 a0_0, .int .i64 a0_1, .slice A0_2 l0_2.length c0_2]] rfl (by (try simp only [List.map_toArray, List.map_cons, List.map_nil]); first | done | rfl | (simp only [List.length_drop, List.length_take]; rfl)) ?_; (with_reducible refine (spec_IsPicture.calls k a0_0 a0_1 _ _ l0_2 false _ ?side1 ?side2 A4.out).mono ?_); (case side1 => repeat (first | exact HR0_2.out | exact (Kd.C_below HR0_2.out HB.out) | (with_reducible refine Kd.C_alloc ?_ _) | (with_reducible refine Kd.C_drewN ?_ _) | (with_reducible refine Kd.C_drew ?_))); (case side2 => exact HC0_2.out); rintro e w12 ⟨rfl, hb⟩; refine ⟨_, rfl, ?_⟩; have n0_ := z0e (blk_below (g := gb138) (o := .cells #[.int .i64 a0_0, .int .i64 a0_1, .slice A0_2 l0_2.length c0_2, .int .i64 a0_3, .int .i64 a0_4, .slice A0_5 l0_5.length c0_5, .slice A0_6 l0_6.length c0_6] 68 (0, 0)) (by (with_reducible repeat (first | refine blk_drewN ?_ _ | refine z3e ?_ | refine blk_alloc ?_ _)); exact BK138.out) hb); have n1_ := z0e (below_step (by repeat (first | (with_reducible first | exact HB.out | apply z4e | apply z5e | apply z6e | refine z7e ?_ GE138.out) | exact HB.out)) hb); clear BK138; clear HB; have BK138 := n0_; have HB := n1_; clear n0_ n1_; (try clear hb)))
   go_meet
   case rel => exact ⟨_, (true), (by first | rfl | (simp; done) | (simp [*]; done)), H', ⟨by first | omega | exact Nat.le_refl _⟩, ⟨by (with_reducible repeat (first | refine blk_drewN ?_ _ | refine z3e ?_ | refine blk_alloc ?_ _)); exact BK138.out⟩, ⟨by repeat (first | (with_reducible first | exact HB.out | apply z4e | apply z5e | apply z6e | refine z7e ?_ GE138.out) | exact HB.out)⟩⟩
 case rest =>
  clear HC2
  try clear p2
  try clear c5
  try clear c8
  try clear hcz11_0
  try clear hcz11_1
  try clear hcz11_2
  try clear hcz11_3
  try clear hcz11_4
  try clear hcz11_5
  try clear hcz11_6
  try clear hcz7_0
  try clear hcz7_1
  try clear hcz7_2
  try clear hcz7_3
  try clear hcz7_4
  try clear hcz7_5
  try clear hcz7_6
  try clear hcz9_0
  try clear hcz9_1
  try clear hcz9_2
  try clear hcz9_3
  try clear hcz9_4
  try clear hcz9_5
  try clear hcz9_6
  try clear hfz11_0
  try clear hfz11_1
  try clear hfz11_2
  try clear hfz11_3
  try clear hfz11_4
  try clear hfz11_5
  try clear hfz11_6
  try clear hfz7_0
  try clear hfz7_1
  try clear hfz7_2
  try clear hfz7_3
  try clear hfz7_4
  try clear hfz7_5
  try clear hfz7_6
  try clear hfz9_0
  try clear hfz9_1
  try clear hfz9_2
  try clear hfz9_3
  try clear hfz9_4
  try clear hfz9_5
  try clear hfz9_6
  obtain ⟨kq, x12_1, rfl, HA, HJ1, BK138, HB⟩ := hcut
  cases kq with
  | zero => exact absurd HA.out (by simp [spec_DeskOk.j0])
  | succ kj1 =>
   have H := HA.out
   clear HA
   simp only [spec_DeskOk.j0] at H
   by_cases c13 : x12_1 = true
   ·subst c13
    have H1 : (some false) = some r := by rw [if_pos rfl] at H; first | exact H | (simp only [if_true] at H ⊢; exact H)
    clear H
    have H := H1
    clear H1
    obtain rfl := Option.some.inj H
    go_wp2
    go_ret
    exact ⟨by first | rfl | (simp [errW_none, errW_some] <;> rfl) | (simp [*, errW_none, errW_some] <;> rfl), by repeat (first | (with_reducible first | exact HB.out | apply z4e | apply z5e | apply z6e | refine z7e ?_ GE138.out) | exact HB.out)⟩
   ·replace c13 := Bool.eq_false_iff.mpr c13
    subst c13
    have H1 : (if (l0_6.length : Int) = 0 then (some true) else ((spec_IsStack.f kj1 l0_6).bind fun t141 => (if t141 = true then (if 0 < (l0_6.length : Int) then (if ((rd_T25 l0_6 0).f0) = a0_0 then (some (((rd_T25 l0_6 0).f1) == a0_1)) else (some false)) else (none)) else (some false)))) = some r := by rw [if_neg (show ¬ (false = true) by decide)] at H; first | exact H | (simp only [if_true] at H ⊢; exact H)
    clear H
    have H := H1
    clear H1
    by_cases c14 : (l0_6.length : Int) = 0
    ·rw [if_pos c14] at H
     have c14b0 : ((l0_6.length : Int) == 0) = true := beq_iff_eq.mpr c14
     have c14b1 : ((l0_6.length : Int) != 0) = false := bne_eq_false_iff_eq.mpr c14
     clear c14
     obtain rfl := Option.some.inj H
     have hcz15_0 : wc.cell? ⟨gb138, 0, none⟩ = some (.int .i64 a0_0) := (x3e BK138.out 0).trans rfl
     have hcz15_1 : wc.cell? ⟨gb138, 1, none⟩ = some (.int .i64 a0_1) := (x3e BK138.out 1).trans rfl
     have hcz15_2 : wc.cell? ⟨gb138, 2, none⟩ = some (.slice A0_2 l0_2.length c0_2) := (x3e BK138.out 2).trans rfl
     have hcz15_3 : wc.cell? ⟨gb138, 3, none⟩ = some (.int .i64 a0_3) := (x3e BK138.out 3).trans rfl
     have hcz15_4 : wc.cell? ⟨gb138, 4, none⟩ = some (.int .i64 a0_4) := (x3e BK138.out 4).trans rfl
     have hcz15_5 : wc.cell? ⟨gb138, 5, none⟩ = some (.slice A0_5 l0_5.length c0_5) := (x3e BK138.out 5).trans rfl
     have hcz15_6 : wc.cell? ⟨gb138, 6, none⟩ = some (.slice A0_6 l0_6.length c0_6) := (x3e BK138.out 6).trans rfl
     have hfz15_0 := x2e BK138.out 0
     have hfz15_1 := x2e BK138.out 1
     have hfz15_2 := x2e BK138.out 2
     have hfz15_3 := x2e BK138.out 3
     have hfz15_4 := x2e BK138.out 4
     have hfz15_5 := x2e BK138.out 5
     have hfz15_6 := x2e BK138.out 6
     go_wp2
     go_ret
     exact ⟨by first | rfl | (simp [errW_none, errW_some] <;> rfl) | (simp [*, errW_none, errW_some] <;> rfl), by repeat (first | (with_reducible first | exact HB.out | apply z4e | apply z5e | apply z6e | refine z7e ?_ GE138.out) | exact HB.out)⟩
    ·rw [if_neg c14] at H
     have c14b0 : ((l0_6.length : Int) == 0) = false := beq_eq_false_iff_ne.mpr c14
     have c14b1 : ((l0_6.length : Int) != 0) = true := bne_iff_ne.mpr c14
     have c14b2 : ¬ (l0_6 = []) := fun h_ => c14 (by rw [h_]; rfl)
     replace H := Option.bind_eq_some_iff.mp H
     obtain ⟨t141, A160, H⟩ := H
     replace H : (if t141 = true then (if 0 < (l0_6.length : Int) then (if ((rd_T25 l0_6 0).f0) = a0_0 then (some (((rd_T25 l0_6 0).f1) == a0_1)) else (some false)) else (none)) else (some false)) = some r := H
     have A16 := z0e A160
     clear A160
     by_cases c17 : t141 = true
     ·subst c17
      have H1 : (if 0 < (l0_6.length : Int) then (if ((rd_T25 l0_6 0).f0) = a0_0 then (some (((rd_T25 l0_6 0).f1) == a0_1)) else (some false)) else (none)) = some r := by rw [if_pos rfl] at H; first | exact H | (simp only [if_true] at H ⊢; exact H)
      clear H
      have H := H1
      clear H1
      by_cases c18 : 0 < (l0_6.length : Int)
      ·rw [if_pos c18] at H
       have c18b0 : decide (0 < (l0_6.length : Int)) = true := decide_eq_true c18
       have c18b1 : decide (0 < l0_6.length) = true := decide_eq_true (by omega)
       clear c18
       by_cases c19 : ((rd_T25 l0_6 0).f0) = a0_0
       ·rw [if_pos c19] at H
        have c19b0 : (((rd_T25 l0_6 0).f0) == a0_0) = true := beq_iff_eq.mpr c19
        have c19b1 : (((rd_T25 l0_6 0).f0) != a0_0) = false := bne_eq_false_iff_eq.mpr c19
        clear c19
        obtain rfl := Option.some.inj H
        have hcz20_0 : wc.cell? ⟨gb138, 0, none⟩ = some (.int .i64 a0_0) := (x3e BK138.out 0).trans rfl
        have hcz20_1 : wc.cell? ⟨gb138, 1, none⟩ = some (.int .i64 a0_1) := (x3e BK138.out 1).trans rfl
        have hcz20_2 : wc.cell? ⟨gb138, 2, none⟩ = some (.slice A0_2 l0_2.length c0_2) := (x3e BK138.out 2).trans rfl
        have hcz20_3 : wc.cell? ⟨gb138, 3, none⟩ = some (.int .i64 a0_3) := (x3e BK138.out 3).trans rfl
        have hcz20_4 : wc.cell? ⟨gb138, 4, none⟩ = some (.int .i64 a0_4) := (x3e BK138.out 4).trans rfl
        have hcz20_5 : wc.cell? ⟨gb138, 5, none⟩ = some (.slice A0_5 l0_5.length c0_5) := (x3e BK138.out 5).trans rfl
        have hcz20_6 : wc.cell? ⟨gb138, 6, none⟩ = some (.slice A0_6 l0_6.length c0_6) := (x3e BK138.out 6).trans rfl
        have hfz20_0 := x2e BK138.out 0
        have hfz20_1 := x2e BK138.out 1
        have hfz20_2 := x2e BK138.out 2
        have hfz20_3 := x2e BK138.out 3
        have hfz20_4 := x2e BK138.out 4
        have hfz20_5 := x2e BK138.out 5
        have hfz20_6 := x2e BK138.out 6
        try go_wp2
        have n0_ := z0e (z3e BK138.out)
        have n1_ := z0e (z6e HB.out)
        clear BK138
        clear HB
        have BK138 := n0_
        have HB := n1_
        clear n0_ n1_
        have p142 : 0 ≤ (0 : Int) := (by omega)
        have q142 : 0 < (l0_6.length : Int) := of_decide_eq_true (by first | (with_reducible assumption) | assumption)
        obtain ⟨ad142, A142_2, c142_2, e142, hx142_0, hx142_1, hx142_2, hl142_2, hi142_2⟩ := at_T25 HR0_6.out 0 p142 q142
        have hw142_2 := hx142_2
        (try rw [show ((0 : Int)).toNat = 0 from rfl] at hw142_2)
        (try rw [show 0 * 3 = 0 from rfl] at hw142_2)
        (try rw [Addr.add_zero'] at hw142_2)
        have hw142_1 := hx142_1
        (try rw [show ((0 : Int)).toNat = 0 from rfl] at hw142_1)
        (try rw [show 0 * 3 = 0 from rfl] at hw142_1)
        (try rw [Addr.add_zero'] at hw142_1)
        have hw142_0 := hx142_0
        (try rw [show ((0 : Int)).toNat = 0 from rfl] at hw142_0)
        (try rw [show 0 * 3 = 0 from rfl] at hw142_0)
        (try rw [Addr.add_zero'] at hw142_0)
        cases e142
        have qi142 : (0 < l0_6.length) = True := eq_true (by omega)
        (try rw [show ((0 : Int)).toNat = 0 from rfl] at hx142_0)
        (try rw [show 0 * 3 = 0 from rfl] at hx142_0)
        (try rw [Addr.add_zero'] at hx142_0)
        (try rw [show ((0 : Int)).toNat = 0 from rfl] at hx142_1)
        (try rw [show 0 * 3 = 0 from rfl] at hx142_1)
        (try rw [Addr.add_zero'] at hx142_1)
        (try rw [show ((0 : Int)).toNat = 0 from rfl] at hx142_2)
        (try rw [show 0 * 3 = 0 from rfl] at hx142_2)
        (try rw [Addr.add_zero'] at hx142_2)
        replace hx142_0 := (HB.out.cell (World.block_lt_of_cell? w _ hx142_0)).trans hx142_0
        replace hx142_1 := (HB.out.cell (World.block_lt_of_cell? w _ hx142_1)).trans hx142_1
        replace hx142_2 := (HB.out.cell (World.block_lt_of_cell? w _ hx142_2)).trans hx142_2
        have HR142_2 := z0e hi142_2
        have HC142_2 := z0e hl142_2
        clear hi142_2 hl142_2
        replace p142 := eq_true p142
        replace q142 := eq_true q142
        have p143 : 0 ≤ (0 : Int) := (by omega)
        have q143 : 0 < (l0_6.length : Int) := of_decide_eq_true (by first | (with_reducible assumption) | assumption)
        obtain ⟨ad143, A143_2, c143_2, e143, hx143_0, hx143_1, hx143_2, hl143_2, hi143_2⟩ := at_T25 HR0_6.out 0 p143 q143
        have hw143_2 := hx143_2
        (try rw [show ((0 : Int)).toNat = 0 from rfl] at hw143_2)
        (try rw [show 0 * 3 = 0 from rfl] at hw143_2)
        (try rw [Addr.add_zero'] at hw143_2)
        have hw143_1 := hx143_1
        (try rw [show ((0 : Int)).toNat = 0 from rfl] at hw143_1)
        (try rw [show 0 * 3 = 0 from rfl] at hw143_1)
        (try rw [Addr.add_zero'] at hw143_1)
        have hw143_0 := hx143_0
        (try rw [show ((0 : Int)).toNat = 0 from rfl] at hw143_0)
        (try rw [show 0 * 3 = 0 from rfl] at hw143_0)
        (try rw [Addr.add_zero'] at hw143_0)
        obtain rfl : ad142 = ad143 := (by injection e143)
        have qi143 : (0 < l0_6.length) = True := eq_true (by omega)
        (try rw [show ((0 : Int)).toNat = 0 from rfl] at hx143_0)
        (try rw [show 0 * 3 = 0 from rfl] at hx143_0)
        (try rw [Addr.add_zero'] at hx143_0)
        (try rw [show ((0 : Int)).toNat = 0 from rfl] at hx143_1)
        (try rw [show 0 * 3 = 0 from rfl] at hx143_1)
        (try rw [Addr.add_zero'] at hx143_1)
        (try rw [show ((0 : Int)).toNat = 0 from rfl] at hx143_2)
        (try rw [show 0 * 3 = 0 from rfl] at hx143_2)
        (try rw [Addr.add_zero'] at hx143_2)
        replace hx143_0 := (HB.out.cell (World.block_lt_of_cell? w _ hx143_0)).trans hx143_0
        replace hx143_1 := (HB.out.cell (World.block_lt_of_cell? w _ hx143_1)).trans hx143_1
        replace hx143_2 := (HB.out.cell (World.block_lt_of_cell? w _ hx143_2)).trans hx143_2
        have HR143_2 := z0e hi143_2
        have HC143_2 := z0e hl143_2
        clear hi143_2 hl143_2
        replace p143 := eq_true p143
        replace q143 := eq_true q143
        have ea_ := Option.some.inj (hx142_2.symm.trans hx143_2)
        injection ea_ with ea_ en_ ec_
        subst ea_
        subst ec_
        clear en_
        refine start_ (n := 26) (S := fun w' => w'.cell? ⟨gb138, 0, none⟩ = some (.int .i64 a0_0) ∧ w'.cell? ⟨gb138, 1, none⟩ = some (.int .i64 a0_1) ∧ w'.cell? ⟨gb138, 2, none⟩ = some (.slice A0_2 l0_2.length c0_2) ∧ w'.cell? ⟨gb138, 3, none⟩ = some (.int .i64 a0_3) ∧ w'.cell? ⟨gb138, 4, none⟩ = some (.int .i64 a0_4) ∧ w'.cell? ⟨gb138, 5, none⟩ = some (.slice A0_5 l0_5.length c0_5) ∧ w'.cell? ⟨gb138, 6, none⟩ = some (.slice (some ad142) l0_6.length c0_6) ∧ w'.cell? ad142 = some (.int .i64 ((rd_T25 l0_6 0).f0)) ∧ w'.cell? ⟨ad142.block, ad142.off + 1, none⟩ = some (.int .i64 ((rd_T25 l0_6 0).f1)) ∧ w'.cell? ⟨ad142.block, ad142.off + 2, none⟩ = some (.slice A142_2 ((rd_T25 l0_6 0).f2).length c142_2) ∧ w'.cell? ad142 = some (.int .i64 ((rd_T25 l0_6 0).f0)) ∧ w'.cell? ⟨ad142.block, ad142.off + 1, none⟩ = some (.int .i64 ((rd_T25 l0_6 0).f1)) ∧ w'.cell? ⟨ad142.block, ad142.off + 2, none⟩ = some (.slice A142_2 ((rd_T25 l0_6 0).f2).length c142_2)) (ds := []) (bse_ 26 0) (by kernel_rfl) rfl rfl ⟨(x3e BK138.out 0).trans rfl, (x3e BK138.out 1).trans rfl, (x3e BK138.out 2).trans rfl, (x3e BK138.out 3).trans rfl, (x3e BK138.out 4).trans rfl, (x3e BK138.out 5).trans rfl, (x3e BK138.out 6).trans rfl, ((HB.out.cell (World.block_lt_of_cell? w _ hw142_0)).trans hw142_0), ((HB.out.cell (World.block_lt_of_cell? w _ hw142_1)).trans hw142_1), ((HB.out.cell (World.block_lt_of_cell? w _ hw142_2)).trans hw142_2), ((HB.out.cell (World.block_lt_of_cell? w _ hw143_0)).trans hw143_0), ((HB.out.cell (World.block_lt_of_cell? w _ hw143_1)).trans hw143_1), ((HB.out.cell (World.block_lt_of_cell? w _ hw143_2)).trans hw143_2)⟩ (fun hHeld => ?_); refine with_tabW spec_DeskOk.tab5 spec_DeskOk.bits5 (fun HT_ HW_ => ?_)
        generalize wc.drew = w21 at BK138 HB HR142_2 HR143_2 hx142_0 hx142_1 hx142_2 hx143_0 hx143_1 hx143_2 hHeld ⊢
        refine pure_ (i := 0) (N := some 17) (v := ?_) (a' := ?_) (bse_ 26 1) rfl rfl (any_of HT_.out (by kernel_rfl)) (fun _ _ _ h => h) (Or.inl ⟨by rfl, ?_⟩) ?_ ?_
        rotate_left
        ·intro w'
         go_simp
         with_reducible rfl
        rotate_left
        ·simp only [Act.put, s1e_, s2e_, s3e_, i64_w, i32_w]
         rfl
        refine take_ (i := 1) (N := some 18) (v := ?_) (a' := ?_) (bse_ 26 3) rfl rfl (take_ofW HT_.out HW_.out (by kernel_rfl)) (fun _ _ _ h => h) (Or.inl ⟨by rfl, ?_⟩) hHeld ?_ ?_
        rotate_left
        ·rintro w' ⟨s0, s1, s2, s3, s4, s5, s6, s7, s8, s9, s10, s11, s12⟩
         go_simp
         with_reducible rfl
        rotate_left
        ·simp only [Act.put, s1e_, s2e_, s3e_, i64_w, i32_w]
         rfl
        refine one_ (i := 2) (N := some 19) (bse_ 26 7) rfl rfl (one_of HT_.out (by kernel_rfl)) (by decide) (fun K hK => ?_)
        refine goes_ Try.func91 (by kernel_rfl) rfl #[.slice (some ad142) l0_6.length c0_6] (by rfl) rfl rfl (by (try simp only [List.map_toArray, List.map_cons, List.map_nil]); first | done | rfl | (simp only [List.length_drop, List.length_take]; rfl)) ?_
        with_reducible refine (spec_IsStack.calls kj1 _ _ l0_6 true _ ?side1 ?side2 A16.out).mono ?_
        (case side1 => repeat (first | exact HR0_6.out | exact (Kd.C_below HR0_6.out HB.out) | (with_reducible refine Kd.C_alloc ?_ _) | (with_reducible refine Kd.C_drewN ?_ _) | (with_reducible refine Kd.C_drew ?_)))
        (case side2 => exact HC0_6.out)
        rintro e w22 ⟨rfl, hb⟩
        refine ⟨_, rfl, ?_⟩
        have n0_ := z0e (blk_below (g := gb138) (o := .cells #[.int .i64 a0_0, .int .i64 a0_1, .slice A0_2 l0_2.length c0_2, .int .i64 a0_3, .int .i64 a0_4, .slice A0_5 l0_5.length c0_5, .slice (some ad142) l0_6.length c0_6] 68 (0, 0)) (by (with_reducible repeat (first | refine blk_drewN ?_ _ | refine z3e ?_ | refine blk_alloc ?_ _)); exact BK138.out) hb)
        have n1_ := z0e (below_step (by repeat (first | (with_reducible first | exact HB.out | apply z4e | apply z5e | apply z6e | refine z7e ?_ GE138.out) | exact HB.out)) hb)
        clear BK138
        clear HB
        have BK138 := n0_
        have HB := n1_
        clear n0_ n1_
        (try clear hb)
        (try clear hb2)
        (try clear hk)
        (try clear hi)
        refine hK.out _ _ ⟨(x3e BK138.out 0).trans rfl, (x3e BK138.out 1).trans rfl, (x3e BK138.out 2).trans rfl, (x3e BK138.out 3).trans rfl, (x3e BK138.out 4).trans rfl, (x3e BK138.out 5).trans rfl, (x3e BK138.out 6).trans rfl, ((HB.out.cell (World.block_lt_of_cell? w _ hw142_0)).trans hw142_0), ((HB.out.cell (World.block_lt_of_cell? w _ hw142_1)).trans hw142_1), ((HB.out.cell (World.block_lt_of_cell? w _ hw142_2)).trans hw142_2), ((HB.out.cell (World.block_lt_of_cell? w _ hw143_0)).trans hw143_0), ((HB.out.cell (World.block_lt_of_cell? w _ hw143_1)).trans hw143_1), ((HB.out.cell (World.block_lt_of_cell? w _ hw143_2)).trans hw143_2)⟩ (fun hHeld => ?_)
        clear hK K
        refine norm_ (a' := ?_) ?_ ?_
        rotate_left
        ·show Act.put _ (some 19) _ = _
         simp only [Act.put, s1e_, s2e_, s3e_, i64_w, i32_w]
         rfl
        refine pure_ (i := 3) (N := some 20) (v := ?_) (a' := ?_) (bse_ 26 15) rfl rfl (any_of HT_.out (by kernel_rfl)) (fun _ _ _ h => h) (Or.inl ⟨by rfl, ?_⟩) ?_ ?_
        rotate_left
        ·intro w'
         go_simp
         with_reducible rfl
        rotate_left
        ·simp only [Act.put, s1e_, s2e_, s3e_, i64_w, i32_w]
         rfl
        refine pure_ (i := 4) (N := some 21) (v := ?_) (a' := ?_) (bse_ 26 31) rfl rfl (any_of HT_.out (by kernel_rfl)) (fun _ _ _ h => h) (Or.inl ⟨by rfl, ?_⟩) ?_ ?_
        rotate_left
        ·intro w'
         go_simp
         with_reducible rfl
        rotate_left
        ·simp only [Act.put, s1e_, s2e_, s3e_, i64_w, i32_w]
         rfl
        refine pure_ (i := 9) (N := some 26) (v := ?_) (a' := ?_) (bse_ 26 543) rfl rfl (any_of HT_.out (by kernel_rfl)) (fun _ _ _ h => h) (Or.inl ⟨by rfl, ?_⟩) ?_ ?_
        rotate_left
        ·intro w'
         go_simp
         with_reducible rfl
        rotate_left
        ·simp only [Act.put, s1e_, s2e_, s3e_, i64_w, i32_w]
         rfl
        refine pure_ (i := 10) (N := some 27) (v := ?_) (a' := ?_) (bse_ 26 1567) rfl rfl (any_of HT_.out (by kernel_rfl)) (fun _ _ _ h => h) (Or.inl ⟨by rfl, ?_⟩) ?_ ?_
        rotate_left
        ·intro w'
         go_simp
         with_reducible rfl
        rotate_left
        ·simp only [Act.put, s1e_, s2e_, s3e_, i64_w, i32_w]
         rfl
        refine take_ (i := 5) (N := some 22) (v := ?_) (a' := ?_) (bse_ 26 1599) rfl rfl (take_ofW HT_.out HW_.out (by kernel_rfl)) (fun _ _ _ h => h) (Or.inl ⟨by rfl, ?_⟩) hHeld ?_ ?_
        rotate_left
        ·rintro w' ⟨s0, s1, s2, s3, s4, s5, s6, s7, s8, s9, s10, s11, s12⟩
         go_simp
         with_reducible rfl
        rotate_left
        ·simp only [Act.put, s1e_, s2e_, s3e_, i64_w, i32_w]
         rfl
        refine pure_ (i := 6) (N := some 23) (v := ?_) (a' := ?_) (bse_ 26 1663) rfl rfl (any_of HT_.out (by kernel_rfl)) (fun _ _ _ h => h) (Or.inl ⟨by rfl, ?_⟩) ?_ ?_
        rotate_left
        ·intro w'
         go_simp
         with_reducible rfl
        rotate_left
        ·simp only [Act.put, s1e_, s2e_, s3e_, i64_w, i32_w]
         rfl
        refine pure_ (i := 7) (N := some 24) (v := ?_) (a' := ?_) (bse_ 26 1791) rfl rfl (any_of HT_.out (by kernel_rfl)) (fun _ _ _ h => h) (Or.inl ⟨by rfl, ?_⟩) ?_ ?_
        rotate_left
        ·intro w'
         go_simp
         with_reducible rfl
        rotate_left
        ·simp only [Act.put, s1e_, s2e_, s3e_, i64_w, i32_w]
         rfl
        refine take_ (i := 8) (N := some 25) (v := ?_) (a' := ?_) (bse_ 26 2047) rfl rfl (take_ofW HT_.out HW_.out (by kernel_rfl)) (fun _ _ _ h => h) (Or.inl ⟨by rfl, ?_⟩) hHeld ?_ ?_
        rotate_left
        ·rintro w' ⟨s0, s1, s2, s3, s4, s5, s6, s7, s8, s9, s10, s11, s12⟩
         go_simp
         with_reducible rfl
        rotate_left
        ·simp only [Act.put, s1e_, s2e_, s3e_, i64_w, i32_w]
         rfl
        refine take_ (i := 11) (N := some 28) (v := ?_) (a' := ?_) (bse_ 26 4095) rfl rfl (take_ofW HT_.out HW_.out (by kernel_rfl)) (fun _ _ _ h => h) (Or.inl ⟨by rfl, ?_⟩) hHeld ?_ ?_
        rotate_left
        ·rintro w' ⟨s0, s1, s2, s3, s4, s5, s6, s7, s8, s9, s10, s11, s12⟩
         go_simp
         with_reducible rfl
        rotate_left
        ·simp only [Act.put, s1e_, s2e_, s3e_, i64_w, i32_w]
         rfl
        refine pure_ (i := 12) (N := some 29) (v := ?_) (a' := ?_) (bse_ 26 8191) rfl rfl (any_of HT_.out (by kernel_rfl)) (fun _ _ _ h => h) (Or.inl ⟨by rfl, ?_⟩) ?_ ?_
        rotate_left
        ·intro w'
         go_simp
         with_reducible rfl
        rotate_left
        ·simp only [Act.put, s1e_, s2e_, s3e_, i64_w, i32_w]
         rfl
        refine pure_ (i := 13) (N := some 30) (v := ?_) (a' := ?_) (bse_ 26 16383) rfl rfl (any_of HT_.out (by kernel_rfl)) (fun _ _ _ h => h) (Or.inl ⟨by rfl, ?_⟩) ?_ ?_
        rotate_left
        ·intro w'
         go_simp
         with_reducible rfl
        rotate_left
        ·simp only [Act.put, s1e_, s2e_, s3e_, i64_w, i32_w]
         rfl
        refine pure_ (i := 14) (N := some 31) (v := ?_) (a' := ?_) (bse_ 26 32767) rfl rfl (any_of HT_.out (by kernel_rfl)) (fun _ _ _ h => h) (Or.inl ⟨by rfl, ?_⟩) ?_ ?_
        rotate_left
        ·intro w'
         go_simp
         with_reducible rfl
        rotate_left
        ·simp only [Act.put, s1e_, s2e_, s3e_, i64_w, i32_w]
         rfl
        refine pure_ (i := 15) (N := some 32) (v := ?_) (a' := ?_) (bse_ 26 65535) rfl rfl (any_of HT_.out (by kernel_rfl)) (fun _ _ _ h => h) (Or.inl ⟨by rfl, ?_⟩) ?_ ?_
        rotate_left
        ·intro w'
         go_simp
         with_reducible rfl
        rotate_left
        ·simp only [Act.put, s1e_, s2e_, s3e_, i64_w, i32_w]
         rfl
        refine pure_ (i := 20) (N := some 37) (v := ?_) (a' := ?_) (bse_ 26 1114111) rfl rfl (any_of HT_.out (by kernel_rfl)) (fun _ _ _ h => h) (Or.inl ⟨by rfl, ?_⟩) ?_ ?_
        rotate_left
        ·intro w'
         go_simp
         with_reducible rfl
        rotate_left
        ·simp only [Act.put, s1e_, s2e_, s3e_, i64_w, i32_w]
         rfl
        refine pure_ (i := 21) (N := some 38) (v := ?_) (a' := ?_) (bse_ 26 3211263) rfl rfl (any_of HT_.out (by kernel_rfl)) (fun _ _ _ h => h) (Or.inl ⟨by rfl, ?_⟩) ?_ ?_
        rotate_left
        ·intro w'
         go_simp
         with_reducible rfl
        rotate_left
        ·simp only [Act.put, s1e_, s2e_, s3e_, i64_w, i32_w]
         rfl
        refine take_ (i := 16) (N := some 33) (v := ?_) (a' := ?_) (bse_ 26 3276799) rfl rfl (take_ofW HT_.out HW_.out (by kernel_rfl)) (fun _ _ _ h => h) (Or.inl ⟨by rfl, ?_⟩) hHeld ?_ ?_
        rotate_left
        ·rintro w' ⟨s0, s1, s2, s3, s4, s5, s6, s7, s8, s9, s10, s11, s12⟩
         go_simp
         with_reducible rfl
        rotate_left
        ·simp only [Act.put, s1e_, s2e_, s3e_, i64_w, i32_w]
         rfl
        refine pure_ (i := 17) (N := some 34) (v := ?_) (a' := ?_) (bse_ 26 3407871) rfl rfl (any_of HT_.out (by kernel_rfl)) (fun _ _ _ h => h) (Or.inl ⟨by rfl, ?_⟩) ?_ ?_
        rotate_left
        ·intro w'
         go_simp
         with_reducible rfl
        rotate_left
        ·simp only [Act.put, s1e_, s2e_, s3e_, i64_w, i32_w]
         rfl
        refine pure_ (i := 18) (N := some 35) (v := ?_) (a' := ?_) (bse_ 26 3670015) rfl rfl (any_of HT_.out (by kernel_rfl)) (fun _ _ _ h => h) (Or.inl ⟨by rfl, ?_⟩) ?_ ?_
        rotate_left
        ·intro w'
         go_simp
         with_reducible rfl
        rotate_left
        ·simp only [Act.put, s1e_, s2e_, s3e_, i64_w, i32_w]
         rfl
        refine take_ (i := 19) (N := some 36) (v := ?_) (a' := ?_) (bse_ 26 4194303) rfl rfl (take_ofW HT_.out HW_.out (by kernel_rfl)) (fun _ _ _ h => h) (Or.inl ⟨by rfl, ?_⟩) hHeld ?_ ?_
        rotate_left
        ·rintro w' ⟨s0, s1, s2, s3, s4, s5, s6, s7, s8, s9, s10, s11, s12⟩
         go_simp
         with_reducible rfl
        rotate_left
        ·simp only [Act.put, s1e_, s2e_, s3e_, i64_w, i32_w]
         rfl
        refine take_ (i := 22) (N := some 39) (v := ?_) (a' := ?_) (bse_ 26 8388607) rfl rfl (take_ofW HT_.out HW_.out (by kernel_rfl)) (fun _ _ _ h => h) (Or.inl ⟨by rfl, ?_⟩) hHeld ?_ ?_
        rotate_left
        ·rintro w' ⟨s0, s1, s2, s3, s4, s5, s6, s7, s8, s9, s10, s11, s12⟩
         go_simp
         with_reducible rfl
        rotate_left
        ·simp only [Act.put, s1e_, s2e_, s3e_, i64_w, i32_w]
         rfl
        refine pure_ (i := 23) (N := some 40) (v := ?_) (a' := ?_) (bse_ 26 16777215) rfl rfl (any_of HT_.out (by kernel_rfl)) (fun _ _ _ h => h) (Or.inl ⟨by rfl, ?_⟩) ?_ ?_
        rotate_left
        ·intro w'
         go_simp
         with_reducible rfl
        rotate_left
        ·simp only [Act.put, s1e_, s2e_, s3e_, i64_w, i32_w]
         rfl
        refine pure_ (i := 24) (N := some 41) (v := ?_) (a' := ?_) (bse_ 26 33554431) rfl rfl (any_of HT_.out (by kernel_rfl)) (fun _ _ _ h => h) (Or.inl ⟨by rfl, ?_⟩) ?_ ?_
        rotate_left
        ·intro w'
         go_simp
         with_reducible rfl
        rotate_left
        ·simp only [Act.put, s1e_, s2e_, s3e_, i64_w, i32_w]
         rfl
        refine pure_ (i := 25) (N := some 2) (v := ?_) (a' := ?_) (bse_ 26 67108863) rfl rfl (any_of HT_.out (by kernel_rfl)) (fun _ _ _ h => h) (Or.inl ⟨by rfl, ?_⟩) ?_ ?_
        rotate_left
        ·intro w'
         go_simp
         with_reducible rfl
        rotate_left
        ·simp only [Act.put, s1e_, s2e_, s3e_, i64_w, i32_w]
         rfl
        refine done_ (done_of HT_.out (by kernel_rfl)) ?_
        try go_wp2
        go_ret
        exact ⟨by first | rfl | (simp [errW_none, errW_some] <;> rfl) | (simp [*, errW_none, errW_some] <;> rfl), by repeat (first | (with_reducible first | exact HB.out | apply z4e | apply z5e | apply z6e | refine z7e ?_ GE138.out) | exact HB.out)⟩
       ·rw [if_neg c19] at H
        have c19b0 : (((rd_T25 l0_6 0).f0) == a0_0) = false := beq_eq_false_iff_ne.mpr c19
        have c19b1 : (((rd_T25 l0_6 0).f0) != a0_0) = true := bne_iff_ne.mpr c19
        obtain rfl := Option.some.inj H
        have hcz23_0 : wc.cell? ⟨gb138, 0, none⟩ = some (.int .i64 a0_0) := (x3e BK138.out 0).trans rfl
        have hcz23_1 : wc.cell? ⟨gb138, 1, none⟩ = some (.int .i64 a0_1) := (x3e BK138.out 1).trans rfl
        have hcz23_2 : wc.cell? ⟨gb138, 2, none⟩ = some (.slice A0_2 l0_2.length c0_2) := (x3e BK138.out 2).trans rfl
        have hcz23_3 : wc.cell? ⟨gb138, 3, none⟩ = some (.int .i64 a0_3) := (x3e BK138.out 3).trans rfl
        have hcz23_4 : wc.cell? ⟨gb138, 4, none⟩ = some (.int .i64 a0_4) := (x3e BK138.out 4).trans rfl
        have hcz23_5 : wc.cell? ⟨gb138, 5, none⟩ = some (.slice A0_5 l0_5.length c0_5) := (x3e BK138.out 5).trans rfl
        have hcz23_6 : wc.cell? ⟨gb138, 6, none⟩ = some (.slice A0_6 l0_6.length c0_6) := (x3e BK138.out 6).trans rfl
        have hfz23_0 := x2e BK138.out 0
        have hfz23_1 := x2e BK138.out 1
        have hfz23_2 := x2e BK138.out 2
        have hfz23_3 := x2e BK138.out 3
        have hfz23_4 := x2e BK138.out 4
        have hfz23_5 := x2e BK138.out 5
        have hfz23_6 := x2e BK138.out 6
        try go_wp2
        have n0_ := z0e (z3e BK138.out)
        have n1_ := z0e (z6e HB.out)
        clear BK138
        clear HB
        have BK138 := n0_
        have HB := n1_
        clear n0_ n1_
        have p142 : 0 ≤ (0 : Int) := (by omega)
        have q142 : 0 < (l0_6.length : Int) := of_decide_eq_true (by first | (with_reducible assumption) | assumption)
        obtain ⟨ad142, A142_2, c142_2, e142, hx142_0, hx142_1, hx142_2, hl142_2, hi142_2⟩ := at_T25 HR0_6.out 0 p142 q142
        have hw142_2 := hx142_2
        (try rw [show ((0 : Int)).toNat = 0 from rfl] at hw142_2)
        (try rw [show 0 * 3 = 0 from rfl] at hw142_2)
        (try rw [Addr.add_zero'] at hw142_2)
        have hw142_1 := hx142_1
        (try rw [show ((0 : Int)).toNat = 0 from rfl] at hw142_1)
        (try rw [show 0 * 3 = 0 from rfl] at hw142_1)
        (try rw [Addr.add_zero'] at hw142_1)
        have hw142_0 := hx142_0
        (try rw [show ((0 : Int)).toNat = 0 from rfl] at hw142_0)
        (try rw [show 0 * 3 = 0 from rfl] at hw142_0)
        (try rw [Addr.add_zero'] at hw142_0)
        cases e142
        have qi142 : (0 < l0_6.length) = True := eq_true (by omega)
        (try rw [show ((0 : Int)).toNat = 0 from rfl] at hx142_0)
        (try rw [show 0 * 3 = 0 from rfl] at hx142_0)
        (try rw [Addr.add_zero'] at hx142_0)
        (try rw [show ((0 : Int)).toNat = 0 from rfl] at hx142_1)
        (try rw [show 0 * 3 = 0 from rfl] at hx142_1)
        (try rw [Addr.add_zero'] at hx142_1)
        (try rw [show ((0 : Int)).toNat = 0 from rfl] at hx142_2)
        (try rw [show 0 * 3 = 0 from rfl] at hx142_2)
        (try rw [Addr.add_zero'] at hx142_2)
        replace hx142_0 := (HB.out.cell (World.block_lt_of_cell? w _ hx142_0)).trans hx142_0
        replace hx142_1 := (HB.out.cell (World.block_lt_of_cell? w _ hx142_1)).trans hx142_1
        replace hx142_2 := (HB.out.cell (World.block_lt_of_cell? w _ hx142_2)).trans hx142_2
        have HR142_2 := z0e hi142_2
        have HC142_2 := z0e hl142_2
        clear hi142_2 hl142_2
        replace p142 := eq_true p142
        replace q142 := eq_true q142
        refine start_ (n := 26) (S := fun w' => w'.cell? ⟨gb138, 0, none⟩ = some (.int .i64 a0_0) ∧ w'.cell? ⟨gb138, 1, none⟩ = some (.int .i64 a0_1) ∧ w'.cell? ⟨gb138, 2, none⟩ = some (.slice A0_2 l0_2.length c0_2) ∧ w'.cell? ⟨gb138, 3, none⟩ = some (.int .i64 a0_3) ∧ w'.cell? ⟨gb138, 4, none⟩ = some (.int .i64 a0_4) ∧ w'.cell? ⟨gb138, 5, none⟩ = some (.slice A0_5 l0_5.length c0_5) ∧ w'.cell? ⟨gb138, 6, none⟩ = some (.slice (some ad142) l0_6.length c0_6) ∧ w'.cell? ad142 = some (.int .i64 ((rd_T25 l0_6 0).f0)) ∧ w'.cell? ⟨ad142.block, ad142.off + 1, none⟩ = some (.int .i64 ((rd_T25 l0_6 0).f1)) ∧ w'.cell? ⟨ad142.block, ad142.off + 2, none⟩ = some (.slice A142_2 ((rd_T25 l0_6 0).f2).length c142_2)) (ds := []) (bse_ 26 0) (by kernel_rfl) rfl rfl ⟨(x3e BK138.out 0).trans rfl, (x3e BK138.out 1).trans rfl, (x3e BK138.out 2).trans rfl, (x3e BK138.out 3).trans rfl, (x3e BK138.out 4).trans rfl, (x3e BK138.out 5).trans rfl, (x3e BK138.out 6).trans rfl, ((HB.out.cell (World.block_lt_of_cell? w _ hw142_0)).trans hw142_0), ((HB.out.cell (World.block_lt_of_cell? w _ hw142_1)).trans hw142_1), ((HB.out.cell (World.block_lt_of_cell? w _ hw142_2)).trans hw142_2)⟩ (fun hHeld => ?_); refine with_tabW spec_DeskOk.tab5 spec_DeskOk.bits5 (fun HT_ HW_ => ?_)
        generalize wc.drew = w24 at BK138 HB HR142_2 hx142_0 hx142_1 hx142_2 hHeld ⊢
        refine pure_ (i := 0) (N := some 17) (v := ?_) (a' := ?_) (bse_ 26 1) rfl rfl (any_of HT_.out (by kernel_rfl)) (fun _ _ _ h => h) (Or.inl ⟨by rfl, ?_⟩) ?_ ?_
        rotate_left
        ·intro w'
         go_simp
         with_reducible rfl
        rotate_left
        ·simp only [Act.put, s1e_, s2e_, s3e_, i64_w, i32_w]
         rfl
        refine take_ (i := 1) (N := some 18) (v := ?_) (a' := ?_) (bse_ 26 3) rfl rfl (take_ofW HT_.out HW_.out (by kernel_rfl)) (fun _ _ _ h => h) (Or.inl ⟨by rfl, ?_⟩) hHeld ?_ ?_
        rotate_left
        ·rintro w' ⟨s0, s1, s2, s3, s4, s5, s6, s7, s8, s9⟩
         go_simp
         with_reducible rfl
        rotate_left
        ·simp only [Act.put, s1e_, s2e_, s3e_, i64_w, i32_w]
         rfl
        refine one_ (i := 2) (N := some 19) (bse_ 26 7) rfl rfl (one_of HT_.out (by kernel_rfl)) (by decide) (fun K hK => ?_)
        refine goes_ Try.func91 (by kernel_rfl) rfl #[.slice (some ad142) l0_6.length c0_6] (by rfl) rfl rfl (by (try simp only [List.map_toArray, List.map_cons, List.map_nil]); first | done | rfl | (simp only [List.length_drop, List.length_take]; rfl)) ?_
        with_reducible refine (spec_IsStack.calls kj1 _ _ l0_6 true _ ?side1 ?side2 A16.out).mono ?_
        (case side1 => repeat (first | exact HR0_6.out | exact (Kd.C_below HR0_6.out HB.out) | (with_reducible refine Kd.C_alloc ?_ _) | (with_reducible refine Kd.C_drewN ?_ _) | (with_reducible refine Kd.C_drew ?_)))
        (case side2 => exact HC0_6.out)
        rintro e w25 ⟨rfl, hb⟩
        refine ⟨_, rfl, ?_⟩
        have n0_ := z0e (blk_below (g := gb138) (o := .cells #[.int .i64 a0_0, .int .i64 a0_1, .slice A0_2 l0_2.length c0_2, .int .i64 a0_3, .int .i64 a0_4, .slice A0_5 l0_5.length c0_5, .slice (some ad142) l0_6.length c0_6] 68 (0, 0)) (by (with_reducible repeat (first | refine blk_drewN ?_ _ | refine z3e ?_ | refine blk_alloc ?_ _)); exact BK138.out) hb)
        have n1_ := z0e (below_step (by repeat (first | (with_reducible first | exact HB.out | apply z4e | apply z5e | apply z6e | refine z7e ?_ GE138.out) | exact HB.out)) hb)
        clear BK138
        clear HB
        have BK138 := n0_
        have HB := n1_
        clear n0_ n1_
        (try clear hb)
        (try clear hb2)
        (try clear hk)
        (try clear hi)
        refine hK.out _ _ ⟨(x3e BK138.out 0).trans rfl, (x3e BK138.out 1).trans rfl, (x3e BK138.out 2).trans rfl, (x3e BK138.out 3).trans rfl, (x3e BK138.out 4).trans rfl, (x3e BK138.out 5).trans rfl, (x3e BK138.out 6).trans rfl, ((HB.out.cell (World.block_lt_of_cell? w _ hw142_0)).trans hw142_0), ((HB.out.cell (World.block_lt_of_cell? w _ hw142_1)).trans hw142_1), ((HB.out.cell (World.block_lt_of_cell? w _ hw142_2)).trans hw142_2)⟩ (fun hHeld => ?_)
        clear hK K
        refine norm_ (a' := ?_) ?_ ?_
        rotate_left
        ·show Act.put _ (some 19) _ = _
         simp only [Act.put, s1e_, s2e_, s3e_, i64_w, i32_w]
         rfl
        refine pure_ (i := 3) (N := some 20) (v := ?_) (a' := ?_) (bse_ 26 15) rfl rfl (any_of HT_.out (by kernel_rfl)) (fun _ _ _ h => h) (Or.inl ⟨by rfl, ?_⟩) ?_ ?_
        rotate_left
        ·intro w'
         go_simp
         with_reducible rfl
        rotate_left
        ·simp only [Act.put, s1e_, s2e_, s3e_, i64_w, i32_w]
         rfl
        refine pure_ (i := 4) (N := some 21) (v := ?_) (a' := ?_) (bse_ 26 31) rfl rfl (any_of HT_.out (by kernel_rfl)) (fun _ _ _ h => h) (Or.inl ⟨by rfl, ?_⟩) ?_ ?_
        rotate_left
        ·intro w'
         go_simp
         with_reducible rfl
        rotate_left
        ·simp only [Act.put, s1e_, s2e_, s3e_, i64_w, i32_w]
         rfl
        refine pure_ (i := 9) (N := some 26) (v := ?_) (a' := ?_) (bse_ 26 543) rfl rfl (any_of HT_.out (by kernel_rfl)) (fun _ _ _ h => h) (Or.inl ⟨by rfl, ?_⟩) ?_ ?_
        rotate_left
        ·intro w'
         go_simp
         with_reducible rfl
        rotate_left
        ·simp only [Act.put, s1e_, s2e_, s3e_, i64_w, i32_w]
         rfl
        refine pure_ (i := 10) (N := some 27) (v := ?_) (a' := ?_) (bse_ 26 1567) rfl rfl (any_of HT_.out (by kernel_rfl)) (fun _ _ _ h => h) (Or.inl ⟨by rfl, ?_⟩) ?_ ?_
        rotate_left
        ·intro w'
         go_simp
         with_reducible rfl
        rotate_left
        ·simp only [Act.put, s1e_, s2e_, s3e_, i64_w, i32_w]
         rfl
        refine take_ (i := 5) (N := some 22) (v := ?_) (a' := ?_) (bse_ 26 1599) rfl rfl (take_ofW HT_.out HW_.out (by kernel_rfl)) (fun _ _ _ h => h) (Or.inl ⟨by rfl, ?_⟩) hHeld ?_ ?_
        rotate_left
        ·rintro w' ⟨s0, s1, s2, s3, s4, s5, s6, s7, s8, s9⟩
         go_simp
         with_reducible rfl
        rotate_left
        ·simp only [Act.put, s1e_, s2e_, s3e_, i64_w, i32_w]
         rfl
        refine pure_ (i := 6) (N := some 23) (v := ?_) (a' := ?_) (bse_ 26 1663) rfl rfl (any_of HT_.out (by kernel_rfl)) (fun _ _ _ h => h) (Or.inl ⟨by rfl, ?_⟩) ?_ ?_
        rotate_left
        ·intro w'
         go_simp
         with_reducible rfl
        rotate_left
        ·simp only [Act.put, s1e_, s2e_, s3e_, i64_w, i32_w]
         rfl
        refine pure_ (i := 7) (N := some 24) (v := ?_) (a' := ?_) (bse_ 26 1791) rfl rfl (any_of HT_.out (by kernel_rfl)) (fun _ _ _ h => h) (Or.inl ⟨by rfl, ?_⟩) ?_ ?_
        rotate_left
        ·intro w'
         go_simp
         with_reducible rfl
        rotate_left
        ·simp only [Act.put, s1e_, s2e_, s3e_, i64_w, i32_w]
         rfl
        refine take_ (i := 8) (N := some 25) (v := ?_) (a' := ?_) (bse_ 26 2047) rfl rfl (take_ofW HT_.out HW_.out (by kernel_rfl)) (fun _ _ _ h => h) (Or.inl ⟨by rfl, ?_⟩) hHeld ?_ ?_
        rotate_left
        ·rintro w' ⟨s0, s1, s2, s3, s4, s5, s6, s7, s8, s9⟩
         go_simp
         with_reducible rfl
        rotate_left
        ·simp only [Act.put, s1e_, s2e_, s3e_, i64_w, i32_w]
         rfl
        refine take_ (i := 11) (N := some 28) (v := ?_) (a' := ?_) (bse_ 26 4095) rfl rfl (take_ofW HT_.out HW_.out (by kernel_rfl)) (fun _ _ _ h => h) (Or.inl ⟨by rfl, ?_⟩) hHeld ?_ ?_
        rotate_left
        ·rintro w' ⟨s0, s1, s2, s3, s4, s5, s6, s7, s8, s9⟩
         go_simp
         with_reducible rfl
        rotate_left
        ·simp only [Act.put, s1e_, s2e_, s3e_, i64_w, i32_w]
         rfl
        refine pure_ (i := 12) (N := some 29) (v := ?_) (a' := ?_) (bse_ 26 8191) rfl rfl (any_of HT_.out (by kernel_rfl)) (fun _ _ _ h => h) (Or.inl ⟨by rfl, ?_⟩) ?_ ?_
        rotate_left
        ·intro w'
         go_simp
         with_reducible rfl
        rotate_left
        ·simp only [Act.put, s1e_, s2e_, s3e_, i64_w, i32_w]
         rfl
        refine pure_ (i := 13) (N := some 30) (v := ?_) (a' := ?_) (bse_ 26 16383) rfl rfl (any_of HT_.out (by kernel_rfl)) (fun _ _ _ h => h) (Or.inl ⟨by rfl, ?_⟩) ?_ ?_
        rotate_left
        ·intro w'
         go_simp
         with_reducible rfl
        rotate_left
        ·simp only [Act.put, s1e_, s2e_, s3e_, i64_w, i32_w]
         rfl
        refine pure_ (i := 14) (N := some 31) (v := ?_) (a' := ?_) (bse_ 26 32767) rfl rfl (any_of HT_.out (by kernel_rfl)) (fun _ _ _ h => h) (Or.inl ⟨by rfl, ?_⟩) ?_ ?_
        rotate_left
        ·intro w'
         go_simp
         with_reducible rfl
        rotate_left
        ·simp only [Act.put, s1e_, s2e_, s3e_, i64_w, i32_w]
         rfl
        refine pure_ (i := 15) (N := some 32) (v := undef) (a' := ?_) (bse_ 26 65535) rfl rfl (any_of HT_.out (by kernel_rfl)) (fun _ _ _ h => h) (Or.inr ⟨by rfl, rfl⟩) ?_ ?_
        rotate_left
        ·simp only [Act.put, s1e_, s2e_, s3e_, i64_w, i32_w]
         rfl
        refine pure_ (i := 16) (N := some 33) (v := undef) (a' := ?_) (bse_ 26 131071) rfl rfl (any_of HT_.out (by kernel_rfl)) (fun _ _ _ h => h) (Or.inr ⟨by rfl, rfl⟩) ?_ ?_
        rotate_left
        ·simp only [Act.put, s1e_, s2e_, s3e_, i64_w, i32_w]
         rfl
        refine pure_ (i := 17) (N := some 34) (v := undef) (a' := ?_) (bse_ 26 262143) rfl rfl (any_of HT_.out (by kernel_rfl)) (fun _ _ _ h => h) (Or.inr ⟨by rfl, rfl⟩) ?_ ?_
        rotate_left
        ·simp only [Act.put, s1e_, s2e_, s3e_, i64_w, i32_w]
         rfl
        refine pure_ (i := 18) (N := some 35) (v := undef) (a' := ?_) (bse_ 26 524287) rfl rfl (any_of HT_.out (by kernel_rfl)) (fun _ _ _ h => h) (Or.inr ⟨by rfl, rfl⟩) ?_ ?_
        rotate_left
        ·simp only [Act.put, s1e_, s2e_, s3e_, i64_w, i32_w]
         rfl
        refine pure_ (i := 19) (N := some 36) (v := undef) (a' := ?_) (bse_ 26 1048575) rfl rfl (any_of HT_.out (by kernel_rfl)) (fun _ _ _ h => h) (Or.inr ⟨by rfl, rfl⟩) ?_ ?_
        rotate_left
        ·simp only [Act.put, s1e_, s2e_, s3e_, i64_w, i32_w]
         rfl
        refine pure_ (i := 20) (N := some 37) (v := undef) (a' := ?_) (bse_ 26 2097151) rfl rfl (any_of HT_.out (by kernel_rfl)) (fun _ _ _ h => h) (Or.inr ⟨by rfl, rfl⟩) ?_ ?_
        rotate_left
        ·simp only [Act.put, s1e_, s2e_, s3e_, i64_w, i32_w]
         rfl
        refine pure_ (i := 21) (N := some 38) (v := undef) (a' := ?_) (bse_ 26 4194303) rfl rfl (any_of HT_.out (by kernel_rfl)) (fun _ _ _ h => h) (Or.inr ⟨by rfl, rfl⟩) ?_ ?_
        rotate_left
        ·simp only [Act.put, s1e_, s2e_, s3e_, i64_w, i32_w]
         rfl
        refine pure_ (i := 22) (N := some 39) (v := undef) (a' := ?_) (bse_ 26 8388607) rfl rfl (any_of HT_.out (by kernel_rfl)) (fun _ _ _ h => h) (Or.inr ⟨by rfl, rfl⟩) ?_ ?_
        rotate_left
        ·simp only [Act.put, s1e_, s2e_, s3e_, i64_w, i32_w]
         rfl
        refine pure_ (i := 23) (N := some 40) (v := undef) (a' := ?_) (bse_ 26 16777215) rfl rfl (any_of HT_.out (by kernel_rfl)) (fun _ _ _ h => h) (Or.inr ⟨by rfl, rfl⟩) ?_ ?_
        rotate_left
        ·simp only [Act.put, s1e_, s2e_, s3e_, i64_w, i32_w]
         rfl
        refine pure_ (i := 24) (N := some 41) (v := ?_) (a' := ?_) (bse_ 26 33554431) rfl rfl (any_of HT_.out (by kernel_rfl)) (fun _ _ _ h => h) (Or.inl ⟨by rfl, ?_⟩) ?_ ?_
        rotate_left
        ·intro w'
         go_simp
         with_reducible rfl
        rotate_left
        ·simp only [Act.put, s1e_, s2e_, s3e_, i64_w, i32_w]
         rfl
        refine pure_ (i := 25) (N := some 2) (v := ?_) (a' := ?_) (bse_ 26 67108863) rfl rfl (any_of HT_.out (by kernel_rfl)) (fun _ _ _ h => h) (Or.inl ⟨by rfl, ?_⟩) ?_ ?_
        rotate_left
        ·intro w'
         go_simp
         with_reducible rfl
        rotate_left
        ·simp only [Act.put, s1e_, s2e_, s3e_, i64_w, i32_w]
         rfl
        refine done_ (done_of HT_.out (by kernel_rfl)) ?_
        try go_wp2
        go_ret
        exact ⟨by first | rfl | (simp [errW_none, errW_some] <;> rfl) | (simp [*, errW_none, errW_some] <;> rfl), by repeat (first | (with_reducible first | exact HB.out | apply z4e | apply z5e | apply z6e | refine z7e ?_ GE138.out) | exact HB.out)⟩
      ·rw [if_neg c18] at H
       exact absurd H (by simp)
     ·replace c17 := Bool.eq_false_iff.mpr c17
      subst c17
      have H1 : (some false) = some r := by rw [if_neg (show ¬ (false = true) by decide)] at H; first | exact H | (simp only [if_true] at H ⊢; exact H)
      clear H
      have H := H1
      clear H1
      obtain rfl := Option.some.inj H
      have hcz26_0 : wc.cell? ⟨gb138, 0, none⟩ = some (.int .i64 a0_0) := (x3e BK138.out 0).trans rfl
      have hcz26_1 : wc.cell? ⟨gb138, 1, none⟩ = some (.int .i64 a0_1) := (x3e BK138.out 1).trans rfl
      have hcz26_2 : wc.cell? ⟨gb138, 2, none⟩ = some (.slice A0_2 l0_2.length c0_2) := (x3e BK138.out 2).trans rfl
      have hcz26_3 : wc.cell? ⟨gb138, 3, none⟩ = some (.int .i64 a0_3) := (x3e BK138.out 3).trans rfl
      have hcz26_4 : wc.cell? ⟨gb138, 4, none⟩ = some (.int .i64 a0_4) := (x3e BK138.out 4).trans rfl
      have hcz26_5 : wc.cell? ⟨gb138, 5, none⟩ = some (.slice A0_5 l0_5.length c0_5) := (x3e BK138.out 5).trans rfl
      have hcz26_6 : wc.cell? ⟨gb138, 6, none⟩ = some (.slice A0_6 l0_6.length c0_6) := (x3e BK138.out 6).trans rfl
      have hfz26_0 := x2e BK138.out 0
      have hfz26_1 := x2e BK138.out 1
      have hfz26_2 := x2e BK138.out 2
      have hfz26_3 := x2e BK138.out 3
      have hfz26_4 := x2e BK138.out 4
      have hfz26_5 := x2e BK138.out 5
      have hfz26_6 := x2e BK138.out 6
      try go_wp2
      have n0_ := z0e (z3e BK138.out)
      have n1_ := z0e (z6e HB.out)
      clear BK138
      clear HB
      have BK138 := n0_
      have HB := n1_
      clear n0_ n1_
      refine start_ (n := 26) (S := fun w' => w'.cell? ⟨gb138, 0, none⟩ = some (.int .i64 a0_0) ∧ w'.cell? ⟨gb138, 1, none⟩ = some (.int .i64 a0_1) ∧ w'.cell? ⟨gb138, 2, none⟩ = some (.slice A0_2 l0_2.length c0_2) ∧ w'.cell? ⟨gb138, 3, none⟩ = some (.int .i64 a0_3) ∧ w'.cell? ⟨gb138, 4, none⟩ = some (.int .i64 a0_4) ∧ w'.cell? ⟨gb138, 5, none⟩ = some (.slice A0_5 l0_5.length c0_5) ∧ w'.cell? ⟨gb138, 6, none⟩ = some (.slice A0_6 l0_6.length c0_6)) (ds := []) (bse_ 26 0) (by kernel_rfl) rfl rfl ⟨(x3e BK138.out 0).trans rfl, (x3e BK138.out 1).trans rfl, (x3e BK138.out 2).trans rfl, (x3e BK138.out 3).trans rfl, (x3e BK138.out 4).trans rfl, (x3e BK138.out 5).trans rfl, (x3e BK138.out 6).trans rfl⟩ (fun hHeld => ?_); refine with_tabW spec_DeskOk.tab5 spec_DeskOk.bits5 (fun HT_ HW_ => ?_)
      generalize wc.drew = w27 at BK138 HB hHeld ⊢
      refine pure_ (i := 0) (N := some 17) (v := ?_) (a' := ?_) (bse_ 26 1) rfl rfl (any_of HT_.out (by kernel_rfl)) (fun _ _ _ h => h) (Or.inl ⟨by rfl, ?_⟩) ?_ ?_
      rotate_left
      ·intro w'
       go_simp
       with_reducible rfl
      rotate_left
      ·simp only [Act.put, s1e_, s2e_, s3e_, i64_w, i32_w]
       rfl
      refine take_ (i := 1) (N := some 18) (v := ?_) (a' := ?_) (bse_ 26 3) rfl rfl (take_ofW HT_.out HW_.out (by kernel_rfl)) (fun _ _ _ h => h) (Or.inl ⟨by rfl, ?_⟩) hHeld ?_ ?_
      rotate_left
      ·rintro w' ⟨s0, s1, s2, s3, s4, s5, s6⟩
       go_simp
       with_reducible rfl
      rotate_left
      ·simp only [Act.put, s1e_, s2e_, s3e_, i64_w, i32_w]
       rfl
      refine one_ (i := 2) (N := some 19) (bse_ 26 7) rfl rfl (one_of HT_.out (by kernel_rfl)) (by decide) (fun K hK => ?_)
      refine goes_ Try.func91 (by kernel_rfl) rfl #[.slice A0_6 l0_6.length c0_6] (by rfl) rfl rfl (by (try simp only [List.map_toArray, List.map_cons, List.map_nil]); first | done | rfl | (simp only [List.length_drop, List.length_take]; rfl)) ?_
      with_reducible refine (spec_IsStack.calls kj1 _ _ l0_6 false _ ?side1 ?side2 A16.out).mono ?_
      (case side1 => repeat (first | exact HR0_6.out | exact (Kd.C_below HR0_6.out HB.out) | (with_reducible refine Kd.C_alloc ?_ _) | (with_reducible refine Kd.C_drewN ?_ _) | (with_reducible refine Kd.C_drew ?_)))
      (case side2 => exact HC0_6.out)
      rintro e w28 ⟨rfl, hb⟩
      refine ⟨_, rfl, ?_⟩
      have n0_ := z0e (blk_below (g := gb138) (o := .cells #[.int .i64 a0_0, .int .i64 a0_1, .slice A0_2 l0_2.length c0_2, .int .i64 a0_3, .int .i64 a0_4, .slice A0_5 l0_5.length c0_5, .slice A0_6 l0_6.length c0_6] 68 (0, 0)) (by (with_reducible repeat (first | refine blk_drewN ?_ _ | refine z3e ?_ | refine blk_alloc ?_ _)); exact BK138.out) hb)
      have n1_ := z0e (below_step (by repeat (first | (with_reducible first | exact HB.out | apply z4e | apply z5e | apply z6e | refine z7e ?_ GE138.out) | exact HB.out)) hb)
      clear BK138
      clear HB
      have BK138 := n0_
      have HB := n1_
      clear n0_ n1_
      (try clear hb)
      (try clear hb2)
      (try clear hk)
      (try clear hi)
      refine hK.out _ _ ⟨(x3e BK138.out 0).trans rfl, (x3e BK138.out 1).trans rfl, (x3e BK138.out 2).trans rfl, (x3e BK138.out 3).trans rfl, (x3e BK138.out 4).trans rfl, (x3e BK138.out 5).trans rfl, (x3e BK138.out 6).trans rfl⟩ (fun hHeld => ?_)
      clear hK K
      refine norm_ (a' := ?_) ?_ ?_
      rotate_left
      ·show Act.put _ (some 19) _ = _
       simp only [Act.put, s1e_, s2e_, s3e_, i64_w, i32_w]
       rfl
      refine pure_ (i := 3) (N := some 20) (v := ?_) (a' := ?_) (bse_ 26 15) rfl rfl (any_of HT_.out (by kernel_rfl)) (fun _ _ _ h => h) (Or.inl ⟨by rfl, ?_⟩) ?_ ?_
      rotate_left
      ·intro w'
       go_simp
       with_reducible rfl
      rotate_left
      ·simp only [Act.put, s1e_, s2e_, s3e_, i64_w, i32_w]
       rfl
      refine pure_ (i := 4) (N := some 21) (v := undef) (a' := ?_) (bse_ 26 31) rfl rfl (any_of HT_.out (by kernel_rfl)) (fun _ _ _ h => h) (Or.inr ⟨by rfl, rfl⟩) ?_ ?_
      rotate_left
      ·simp only [Act.put, s1e_, s2e_, s3e_, i64_w, i32_w]
       rfl
      refine pure_ (i := 5) (N := some 22) (v := undef) (a' := ?_) (bse_ 26 63) rfl rfl (any_of HT_.out (by kernel_rfl)) (fun _ _ _ h => h) (Or.inr ⟨by rfl, rfl⟩) ?_ ?_
      rotate_left
      ·simp only [Act.put, s1e_, s2e_, s3e_, i64_w, i32_w]
       rfl
      refine pure_ (i := 6) (N := some 23) (v := undef) (a' := ?_) (bse_ 26 127) rfl rfl (any_of HT_.out (by kernel_rfl)) (fun _ _ _ h => h) (Or.inr ⟨by rfl, rfl⟩) ?_ ?_
      rotate_left
      ·simp only [Act.put, s1e_, s2e_, s3e_, i64_w, i32_w]
       rfl
      refine pure_ (i := 7) (N := some 24) (v := undef) (a' := ?_) (bse_ 26 255) rfl rfl (any_of HT_.out (by kernel_rfl)) (fun _ _ _ h => h) (Or.inr ⟨by rfl, rfl⟩) ?_ ?_
      rotate_left
      ·simp only [Act.put, s1e_, s2e_, s3e_, i64_w, i32_w]
       rfl
      refine pure_ (i := 8) (N := some 25) (v := undef) (a' := ?_) (bse_ 26 511) rfl rfl (any_of HT_.out (by kernel_rfl)) (fun _ _ _ h => h) (Or.inr ⟨by rfl, rfl⟩) ?_ ?_
      rotate_left
      ·simp only [Act.put, s1e_, s2e_, s3e_, i64_w, i32_w]
       rfl
      refine pure_ (i := 9) (N := some 26) (v := undef) (a' := ?_) (bse_ 26 1023) rfl rfl (any_of HT_.out (by kernel_rfl)) (fun _ _ _ h => h) (Or.inr ⟨by rfl, rfl⟩) ?_ ?_
      rotate_left
      ·simp only [Act.put, s1e_, s2e_, s3e_, i64_w, i32_w]
       rfl
      refine pure_ (i := 10) (N := some 27) (v := undef) (a' := ?_) (bse_ 26 2047) rfl rfl (any_of HT_.out (by kernel_rfl)) (fun _ _ _ h => h) (Or.inr ⟨by rfl, rfl⟩) ?_ ?_
      rotate_left
      ·simp only [Act.put, s1e_, s2e_, s3e_, i64_w, i32_w]
       rfl
      refine pure_ (i := 11) (N := some 28) (v := undef) (a' := ?_) (bse_ 26 4095) rfl rfl (any_of HT_.out (by kernel_rfl)) (fun _ _ _ h => h) (Or.inr ⟨by rfl, rfl⟩) ?_ ?_
      rotate_left
      ·simp only [Act.put, s1e_, s2e_, s3e_, i64_w, i32_w]
       rfl
      refine pure_ (i := 12) (N := some 29) (v := undef) (a' := ?_) (bse_ 26 8191) rfl rfl (any_of HT_.out (by kernel_rfl)) (fun _ _ _ h => h) (Or.inr ⟨by rfl, rfl⟩) ?_ ?_
      rotate_left
      ·simp only [Act.put, s1e_, s2e_, s3e_, i64_w, i32_w]
       rfl
      refine pure_ (i := 13) (N := some 30) (v := ?_) (a' := ?_) (bse_ 26 16383) rfl rfl (any_of HT_.out (by kernel_rfl)) (fun _ _ _ h => h) (Or.inl ⟨by rfl, ?_⟩) ?_ ?_
      rotate_left
      ·intro w'
       go_simp
       with_reducible rfl
      rotate_left
      ·simp only [Act.put, s1e_, s2e_, s3e_, i64_w, i32_w]
       rfl
      refine pure_ (i := 14) (N := some 31) (v := ?_) (a' := ?_) (bse_ 26 32767) rfl rfl (any_of HT_.out (by kernel_rfl)) (fun _ _ _ h => h) (Or.inl ⟨by rfl, ?_⟩) ?_ ?_
      rotate_left
      ·intro w'
       go_simp
       with_reducible rfl
      rotate_left
      ·simp only [Act.put, s1e_, s2e_, s3e_, i64_w, i32_w]
       rfl
      refine pure_ (i := 15) (N := some 32) (v := undef) (a' := ?_) (bse_ 26 65535) rfl rfl (any_of HT_.out (by kernel_rfl)) (fun _ _ _ h => h) (Or.inr ⟨by rfl, rfl⟩) ?_ ?_
      rotate_left
      ·simp only [Act.put, s1e_, s2e_, s3e_, i64_w, i32_w]
       rfl
      refine pure_ (i := 16) (N := some 33) (v := undef) (a' := ?_) (bse_ 26 131071) rfl rfl (any_of HT_.out (by kernel_rfl)) (fun _ _ _ h => h) (Or.inr ⟨by rfl, rfl⟩) ?_ ?_
      rotate_left
      ·simp only [Act.put, s1e_, s2e_, s3e_, i64_w, i32_w]
       rfl
      refine pure_ (i := 17) (N := some 34) (v := undef) (a' := ?_) (bse_ 26 262143) rfl rfl (any_of HT_.out (by kernel_rfl)) (fun _ _ _ h => h) (Or.inr ⟨by rfl, rfl⟩) ?_ ?_
      rotate_left
      ·simp only [Act.put, s1e_, s2e_, s3e_, i64_w, i32_w]
       rfl
      refine pure_ (i := 18) (N := some 35) (v := undef) (a' := ?_) (bse_ 26 524287) rfl rfl (any_of HT_.out (by kernel_rfl)) (fun _ _ _ h => h) (Or.inr ⟨by rfl, rfl⟩) ?_ ?_
      rotate_left
      ·simp only [Act.put, s1e_, s2e_, s3e_, i64_w, i32_w]
       rfl
      refine pure_ (i := 19) (N := some 36) (v := undef) (a' := ?_) (bse_ 26 1048575) rfl rfl (any_of HT_.out (by kernel_rfl)) (fun _ _ _ h => h) (Or.inr ⟨by rfl, rfl⟩) ?_ ?_
      rotate_left
      ·simp only [Act.put, s1e_, s2e_, s3e_, i64_w, i32_w]
       rfl
      refine pure_ (i := 20) (N := some 37) (v := undef) (a' := ?_) (bse_ 26 2097151) rfl rfl (any_of HT_.out (by kernel_rfl)) (fun _ _ _ h => h) (Or.inr ⟨by rfl, rfl⟩) ?_ ?_
      rotate_left
      ·simp only [Act.put, s1e_, s2e_, s3e_, i64_w, i32_w]
       rfl
      refine pure_ (i := 21) (N := some 38) (v := undef) (a' := ?_) (bse_ 26 4194303) rfl rfl (any_of HT_.out (by kernel_rfl)) (fun _ _ _ h => h) (Or.inr ⟨by rfl, rfl⟩) ?_ ?_
      rotate_left
      ·simp only [Act.put, s1e_, s2e_, s3e_, i64_w, i32_w]
       rfl
      refine pure_ (i := 22) (N := some 39) (v := undef) (a' := ?_) (bse_ 26 8388607) rfl rfl (any_of HT_.out (by kernel_rfl)) (fun _ _ _ h => h) (Or.inr ⟨by rfl, rfl⟩) ?_ ?_
      rotate_left
      ·simp only [Act.put, s1e_, s2e_, s3e_, i64_w, i32_w]
       rfl
      refine pure_ (i := 23) (N := some 40) (v := undef) (a' := ?_) (bse_ 26 16777215) rfl rfl (any_of HT_.out (by kernel_rfl)) (fun _ _ _ h => h) (Or.inr ⟨by rfl, rfl⟩) ?_ ?_
      rotate_left
      ·simp only [Act.put, s1e_, s2e_, s3e_, i64_w, i32_w]
       rfl
      refine pure_ (i := 24) (N := some 41) (v := ?_) (a' := ?_) (bse_ 26 33554431) rfl rfl (any_of HT_.out (by kernel_rfl)) (fun _ _ _ h => h) (Or.inl ⟨by rfl, ?_⟩) ?_ ?_
      rotate_left
      ·intro w'
       go_simp
       with_reducible rfl
      rotate_left
      ·simp only [Act.put, s1e_, s2e_, s3e_, i64_w, i32_w]
       rfl
      refine pure_ (i := 25) (N := some 2) (v := ?_) (a' := ?_) (bse_ 26 67108863) rfl rfl (any_of HT_.out (by kernel_rfl)) (fun _ _ _ h => h) (Or.inl ⟨by rfl, ?_⟩) ?_ ?_
      rotate_left
      ·intro w'
       go_simp
       with_reducible rfl
      rotate_left
      ·simp only [Act.put, s1e_, s2e_, s3e_, i64_w, i32_w]
       rfl
      refine done_ (done_of HT_.out (by kernel_rfl)) ?_
      try go_wp2
      go_ret
      exact ⟨by first | rfl | (simp [errW_none, errW_some] <;> rfl) | (simp [*, errW_none, errW_some] <;> rfl), by repeat (first | (with_reducible first | exact HB.out | apply z4e | apply z5e | apply z6e | refine z7e ?_ GE138.out) | exact HB.out)⟩

end Go.Proofs.Ytheihidfbalioaa.PFnExactDeskOk
