/- Machine side of laws FnExactDeskOk: written for this claim by the kit's print program under this session's wip/tools/mp_setup.py (with contracts of the session's own, wip/ext). -/
import Derived.Test.YtheihidfbalioaaPFnExactDeskOkx0
import Derived.Test.YtheihidfbalioaaPFnExactDeskOkx1
import Derived.Test.YtheihidfbalioaaPFnExactDeskOkx2
namespace Go.Proofs.Ytheihidfbalioaa.PFnExactDeskOk
open Go.RowKit Go.Proofs.YtheihidfbalioaaW.PrintWords Go.Proofs.YtheihidfbalioaaW.PrintLast Go.Proofs.YtheihidfbalioaaW.PrintMore
attribute [local go_sem] max2_int min2_int max_two min_two max_three min_three max_four min_four   -- for this text's walks alone
set_option linter.unusedVariables false
set_option linter.unusedSimpArgs false
-- squeezed: words under short names
set_option linter.defProp false in
def z0d := @Aside0.mk
set_option linter.defProp false in
def z1d := @blk_drewN
set_option linter.defProp false in
def z2d := @blk_alloc
set_option linter.defProp false in
def z3d := @blk_drew
set_option linter.defProp false in
def z4d := @below_alloc
set_option linter.defProp false in
def z5d := @pw_below_drewN
set_option linter.defProp false in
def z6d := @below_drew1
set_option linter.defProp false in
def z7d := @below_set
set_option linter.defProp false in
def x2d := @blk_frozen
set_option linter.defProp false in
def x3d := @blk_cell
def bsd_ (n m : Nat) : Array Bool := ((List.range n).map fun i => m.testBit i).toArray
theorem s1d_ {α : Type} (l : List α) (i : Nat) (a : α) : l.toArray.setIfInBounds i a = (l.set i a).toArray := List.setIfInBounds_toArray l i a
theorem s2d_ {α : Type} (a b : α) (l : List α) : (a :: l).set 0 b = b :: l := rfl
theorem s3d_ {α : Type} (a b : α) (n : Nat) (l : List α) : (a :: l).set (n + 1) b = a :: l.set n b := rfl

/-! ### spec_IsStack: function 91 -/
def spec_IsStack.l0 : Nat → List (S25) → List (S25) → Int → Int → Option (Bool)
 | 0, _, _, _, _ => none
 | k + 1, x0, x9, x10, x11 => if x11 < x10 then (if 0 ≤ x11 then (if x11 < (x9.length : Int) then ((spec_IsPlate.f k ((rd_T25 x9 x11).f0) ((rd_T25 x9 x11).f1) ((rd_T25 x9 x11).f2)).bind fun t135 => (if t135 = true then (if 0 < (x0.length : Int) then (if ((rd_T25 x9 x11).f0) = ((rd_T25 x0 0).f0) then (if ((rd_T25 x9 x11).f1) = ((rd_T25 x0 0).f1) then (spec_IsStack.l0 k x0 x9 x10 (wrap64 (x11 + 1))) else (some false)) else (some false)) else (none)) else (some false))) else (none)) else (none)) else (some true)
def spec_IsStack.f (k : Nat) (l0 : List (S25)) : Option (Bool) := (spec_l1In.f (l0.length : Int) 1 4).bind fun t132 => (if t132 = true then (spec_IsStack.l0 k l0 l0 (l0.length : Int) 0) else (some false))
theorem spec_IsStack.mono_l : ∀ k, (∀ y0 y1 y2 y3, LeO (spec_IsStack.l0 k y0 y1 y2 y3) (spec_IsStack.l0 (k + 1) y0 y1 y2 y3))
 | 0 => fun _ _ _ _ r h => by simp [spec_IsStack.l0] at h
 | k + 1 => by
  have ih0 := spec_IsStack.mono_l k
  ·intro y0 y1 y2 y3
   unfold spec_IsStack.l0
   repeat' first
   | (with_reducible exact ih0 _ _ _ _)
   | (with_reducible exact spec_IsPlate.mono _ _ _ _)
   | (with_reducible exact LeO.refl _)
   | (with_reducible exact LeO.none _)
   | (with_reducible refine LeO.ite ?_ ?_)
   | (with_reducible refine LeO.bind ?_ (fun _ => ?_))
   | exact ih0 _ _ _ _
   | exact spec_IsPlate.mono _ _ _ _
   | exact LeO.none _
   | refine LeO.ite ?_ ?_
   | refine LeO.bind ?_ (fun _ => ?_)
theorem spec_IsStack.mono : ∀ a0 k, LeO (spec_IsStack.f k a0) (spec_IsStack.f (k + 1) a0) := by
 intro a0 k
 have ih0 := spec_IsStack.mono_l k
 unfold spec_IsStack.f
 repeat' first
   | (with_reducible exact ih0 _ _ _ _)
   | (with_reducible exact spec_IsPlate.mono _ _ _ _)
   | (with_reducible exact LeO.refl _)
   | (with_reducible exact LeO.none _)
   | (with_reducible refine LeO.ite ?_ ?_)
   | (with_reducible refine LeO.bind ?_ (fun _ => ?_))
   | exact ih0 _ _ _ _
   | exact spec_IsPlate.mono _ _ _ _
   | exact LeO.none _
   | refine LeO.ite ?_ ?_
   | refine LeO.bind ?_ (fun _ => ?_)
def spec_IsStack.T6 : Bool × List (List Nat × List Nat) := (true, [([], []), ([0], [0]), ([1], [1]), ([2, 1], [2]), ([3], [3]), ([4, 3], [3, 4]), ([3], [3]), ([6, 3], [3, 6]), ([7, 3], [3, 7]), ([8, 3], [3, 8]), ([5, 9, 3], [3, 5, 9]), ([3, 10], [3, 10]), ([11, 3], [11]), ([12], [12]), ([13, 12], [12, 13]), ([12], [12]), ([15, 12], [12, 15]), ([16, 12], [12, 16]), ([17, 12], [12, 17]), ([14, 18, 12], [12, 14, 18]), ([12, 19], [12, 19])])
def spec_IsStack.B6 : List Nat := [0, 1, 3, 7, 15, 31, 15, 79, 207, 463, 1023, 2047, 4095, 8191, 16383, 8191, 40959, 106495, 237567, 524287, 1048575]
theorem spec_IsStack.tab6 : rtab .any (opsOf Try.f91 6) = spec_IsStack.T6 := by kernel_rfl
theorem spec_IsStack.bits6 : waitsOk spec_IsStack.T6.2 spec_IsStack.B6 = true := by kernel_rfl
set_option maxHeartbeats 8000000 in
set_option maxRecDepth 100000 in
theorem spec_IsStack.calls (k : Nat) (A0 : Option Addr) (c0 : Nat) (l0 : List (S25)) (r : Bool) (w : World) (hr0 : Kd.C k25 w A0 l0.length l0) (hc0 : l0.length ≤ c0) (h : spec_IsStack.f k l0 = some r) :
  Calls Try.prog 91 #[.slice A0 l0.length c0] w fun e w' => e = .returned (.bool r) ∧ Below w.heap.size w w' := by
 have hu25 := Try.underlying25
 have HR0 := z0d hr0
 have HC0 := z0d hc0
 clear hr0 hc0
 have HB := z0d (Below.refl w.heap.size w)
 have H : ((spec_l1In.f (l0.length : Int) 1 4).bind fun t132 => (if t132 = true then (spec_IsStack.l0 k l0 l0 (l0.length : Int) 0) else (some false))) = some r := h
 clear h
 replace H := Option.bind_eq_some_iff.mp H
 obtain ⟨t132, A20, H⟩ := H
 replace H : (if t132 = true then (spec_IsStack.l0 k l0 l0 (l0.length : Int) 0) else (some false)) = some r := H
 have A2 := z0d A20
 clear A20
 by_cases c3 : t132 = true
 ·subst c3
  have H1 : (spec_IsStack.l0 k l0 l0 (l0.length : Int) 0) = some r := by rw [if_pos rfl] at H; first | exact H | (simp only [if_true] at H ⊢; exact H)
  clear H
  have H := H1
  clear H1
  have H' := z0d H
  clear H
  go_enter Try.func91, Try.ntmps91
  go_wp2_with (first | ((with_reducible refine gate_callee (f := 72) rfl ?_); refine goesL_ (some 7) rfl rfl Try.func72 (by kernel_rfl) rfl #[.int .i64 (l0.length : Int), .int .i64 1, .int .i64 4] rfl (by (try simp only [List.map_toArray, List.map_cons, List.map_nil]); first | done | rfl | (simp only [List.length_drop, List.length_take]; rfl)) ?_; (with_reducible refine (spec_l1In.calls (l0.length : Int) 1 4 true _ A2.out).mono ?_); rintro e w' ⟨rfl, ⟨nd, rfl⟩⟩; refine ⟨_, rfl, ?_⟩))
  go_loopg [11] k (fun kq v11 w' => ∃ (x11_1 : Int), v11 = .int .i64 x11_1 ∧ Aside0 (spec_IsStack.l0 kq l0 l0 (l0.length : Int) x11_1 = some r) ∧ Aside0 (kq ≤ k) ∧ Aside0 (Below w.heap.size w w'))
  case atStart => exact ⟨(0), (by first | rfl | (simp; done) | (simp [*]; done)), H', ⟨Nat.le_refl _⟩, ⟨by repeat (first | (with_reducible first | exact HB.out | apply z4d | apply z5d | apply z6d) | exact HB.out)⟩⟩
  case round =>
   clear H'
   try clear p2
   try clear c3
   obtain ⟨x11_1, rfl, HA, HK1, HB⟩ := hrel
   cases gk with
   | zero => exact absurd HA.out (by simp [spec_IsStack.l0])
   | succ k1 =>
    have H := HA.out
    clear HA
    simp only [spec_IsStack.l0] at H
    by_cases c4 : x11_1 < (l0.length : Int)
    ·rw [if_pos c4] at H
     have c4b0 : decide (x11_1 < (l0.length : Int)) = true := decide_eq_true c4
     clear c4
     by_cases c5 : 0 ≤ x11_1
     ·rw [if_pos c5] at H
      have c5b0 : decide (0 ≤ x11_1) = true := decide_eq_true c5
      clear c5
      by_cases c6 : x11_1 < (l0.length : Int)
      ·rw [if_pos c6] at H
       have c6b0 : decide (x11_1 < (l0.length : Int)) = true := decide_eq_true c6
       clear c6
       replace H := Option.bind_eq_some_iff.mp H
       obtain ⟨t135, A70, H⟩ := H
       replace H : (if t135 = true then (if 0 < (l0.length : Int) then (if ((rd_T25 l0 x11_1).f0) = ((rd_T25 l0 0).f0) then (if ((rd_T25 l0 x11_1).f1) = ((rd_T25 l0 0).f1) then (spec_IsStack.l0 k1 l0 l0 (l0.length : Int) (wrap64 (x11_1 + 1))) else (some false)) else (some false)) else (none)) else (some false)) = some r := H
       have A7 := z0d A70
       clear A70
       by_cases c8 : t135 = true
       ·subst c8
        have H1 : (if 0 < (l0.length : Int) then (if ((rd_T25 l0 x11_1).f0) = ((rd_T25 l0 0).f0) then (if ((rd_T25 l0 x11_1).f1) = ((rd_T25 l0 0).f1) then (spec_IsStack.l0 k1 l0 l0 (l0.length : Int) (wrap64 (x11_1 + 1))) else (some false)) else (some false)) else (none)) = some r := by rw [if_pos rfl] at H; first | exact H | (simp only [if_true] at H ⊢; exact H)
        clear H
        have H := H1
        clear H1
        by_cases c9 : 0 < (l0.length : Int)
        ·rw [if_pos c9] at H
         have c9b0 : decide (0 < (l0.length : Int)) = true := decide_eq_true c9
         have c9b1 : decide (0 < l0.length) = true := decide_eq_true (by omega)
         clear c9
         by_cases c10 : ((rd_T25 l0 x11_1).f0) = ((rd_T25 l0 0).f0)
         ·rw [if_pos c10] at H
          have c10b0 : (((rd_T25 l0 x11_1).f0) == ((rd_T25 l0 0).f0)) = true := beq_iff_eq.mpr c10
          have c10b1 : (((rd_T25 l0 x11_1).f0) != ((rd_T25 l0 0).f0)) = false := bne_eq_false_iff_eq.mpr c10
          clear c10
          by_cases c11 : ((rd_T25 l0 x11_1).f1) = ((rd_T25 l0 0).f1)
          ·rw [if_pos c11] at H
           have c11b0 : (((rd_T25 l0 x11_1).f1) == ((rd_T25 l0 0).f1)) = true := beq_iff_eq.mpr c11
           have c11b1 : (((rd_T25 l0 x11_1).f1) != ((rd_T25 l0 0).f1)) = false := bne_eq_false_iff_eq.mpr c11
           clear c11
           have H' := z0d H
           clear H
           have p133 : 0 ≤ (x11_1 : Int) := of_decide_eq_true (by first | (with_reducible assumption) | assumption)
           have q133 : x11_1 < (l0.length : Int) := of_decide_eq_true (by first | (with_reducible assumption) | assumption)
           obtain ⟨ad133, A133_2, c133_2, e133, hx133_0, hx133_1, hx133_2, hl133_2, hi133_2⟩ := at_T25 HR0.out x11_1 p133 q133
           cases e133
           replace hx133_0 := (HB.out.cell (World.block_lt_of_cell? w _ hx133_0)).trans hx133_0
           replace hx133_1 := (HB.out.cell (World.block_lt_of_cell? w _ hx133_1)).trans hx133_1
           replace hx133_2 := (HB.out.cell (World.block_lt_of_cell? w _ hx133_2)).trans hx133_2
           have HR133_2 := z0d hi133_2
           have HC133_2 := z0d hl133_2
           clear hi133_2 hl133_2
           replace p133 := eq_true p133
           replace q133 := eq_true q133
           try go_wp2_with (first | ((with_reducible refine gate_dst (N := 4) rfl ?_); refine box_event ?hg (N := 4) ?hd (cs := #[.int .i64 0, .int .i64 0, .slice none 0 0]) (t := 25) ?hr ?_; (case hd => rfl); (case hg => rfl); (case hr => first | (go_simp; done) | (go_simp; rfl)); intro gb134 hg w12 hbox hb; have n0_ := z0d (below_step (by repeat (first | (with_reducible first | exact HB.out | apply z4d | apply z5d | apply z6d) | exact HB.out)) hb); have n1_ := z0d (hbox); have n2_ := z0d ((by rw [hg]; exact (below_size (by repeat (first | (with_reducible first | exact HB.out | apply z4d | apply z5d | apply z6d) | exact HB.out))) : w.heap.size ≤ gb134)); have n3_ := z0d ((by rw [hg]; exact (below_size (by repeat (first | (with_reducible first | exact HB.out | apply z4d | apply z5d | apply z6d) | exact HB.out))) : w.heap.size ≤ gb134)); clear HB; have HB := n0_; have BK134 := n1_; have GW134 := n2_; have GE134 := n3_; clear n0_ n1_ n2_ n3_; clear hb hbox hg; have hcz13_0 : w12.cell? ⟨gb134, 0, none⟩ = some (.int .i64 0) := (x3d BK134.out 0).trans rfl; have hcz13_1 : w12.cell? ⟨gb134, 1, none⟩ = some (.int .i64 0) := (x3d BK134.out 1).trans rfl; have hcz13_2 : w12.cell? ⟨gb134, 2, none⟩ = some (.slice none 0 0) := (x3d BK134.out 2).trans rfl; have hfz13_0 := x2d BK134.out 0; have hfz13_1 := x2d BK134.out 1; have hfz13_2 := x2d BK134.out 2))
           have n0_ : Aside0 ((((w12.setCell ⟨gb134, 0, none⟩ (.int .i64 ((rd_T25 l0 x11_1).f0))).setCell ⟨gb134, 1, none⟩ (.int .i64 ((rd_T25 l0 x11_1).f1))).setCell ⟨gb134, 2, none⟩ (.slice A133_2 ((rd_T25 l0 x11_1).f2).length c133_2)).heap[gb134]? = some (.cells #[.int .i64 ((rd_T25 l0 x11_1).f0), .int .i64 ((rd_T25 l0 x11_1).f1), .slice A133_2 ((rd_T25 l0 x11_1).f2).length c133_2] 25 (0, 0))) := ⟨by (with_reducible repeat (first | refine z1d ?_ _ | refine z3d ?_ | refine z2d ?_ _)); refine blk_put (cs := #[.int .i64 ((rd_T25 l0 x11_1).f0), .int .i64 ((rd_T25 l0 x11_1).f1), .slice none 0 0]) ?_ 2 _ rfl; (with_reducible repeat (first | refine z1d ?_ _ | refine z3d ?_ | refine z2d ?_ _)); refine blk_put (cs := #[.int .i64 ((rd_T25 l0 x11_1).f0), .int .i64 0, .slice none 0 0]) ?_ 1 _ rfl; (with_reducible repeat (first | refine z1d ?_ _ | refine z3d ?_ | refine z2d ?_ _)); refine blk_put (cs := #[.int .i64 0, .int .i64 0, .slice none 0 0]) ?_ 0 _ rfl; (with_reducible repeat (first | refine z1d ?_ _ | refine z3d ?_ | refine z2d ?_ _)); exact BK134.out⟩
           have n1_ : Aside0 (Below w.heap.size w (((w12.setCell ⟨gb134, 0, none⟩ (.int .i64 ((rd_T25 l0 x11_1).f0))).setCell ⟨gb134, 1, none⟩ (.int .i64 ((rd_T25 l0 x11_1).f1))).setCell ⟨gb134, 2, none⟩ (.slice A133_2 ((rd_T25 l0 x11_1).f2).length c133_2))) := ⟨by repeat (first | (with_reducible first | exact HB.out | apply z4d | apply z5d | apply z6d | refine z7d ?_ GE134.out) | exact HB.out)⟩
           (try clear BK134)
           (try clear HB)
           generalize (((w12.setCell ⟨gb134, 0, none⟩ (.int .i64 ((rd_T25 l0 x11_1).f0))).setCell ⟨gb134, 1, none⟩ (.int .i64 ((rd_T25 l0 x11_1).f1))).setCell ⟨gb134, 2, none⟩ (.slice A133_2 ((rd_T25 l0 x11_1).f2).length c133_2)) = w14 at n0_ n1_ ⊢
           have BK134 := n0_
           have HB := n1_
           clear n0_ n1_
           have n0_ := z0d (z3d BK134.out)
           have n1_ := z0d (z6d HB.out)
           clear BK134
           clear HB
           have BK134 := n0_
           have HB := n1_
           clear n0_ n1_
           have p136 : 0 ≤ (0 : Int) := (by omega)
           have q136 : 0 < (l0.length : Int) := of_decide_eq_true (by first | (with_reducible assumption) | assumption)
           obtain ⟨ad136, A136_2, c136_2, e136, hx136_0, hx136_1, hx136_2, hl136_2, hi136_2⟩ := at_T25 HR0.out 0 p136 q136
           have hw136_2 := hx136_2
           (try rw [show ((0 : Int)).toNat = 0 from rfl] at hw136_2)
           (try rw [show 0 * 3 = 0 from rfl] at hw136_2)
           (try rw [Addr.add_zero'] at hw136_2)
           have hw136_1 := hx136_1
           (try rw [show ((0 : Int)).toNat = 0 from rfl] at hw136_1)
           (try rw [show 0 * 3 = 0 from rfl] at hw136_1)
           (try rw [Addr.add_zero'] at hw136_1)
           have hw136_0 := hx136_0
           (try rw [show ((0 : Int)).toNat = 0 from rfl] at hw136_0)
           (try rw [show 0 * 3 = 0 from rfl] at hw136_0)
           (try rw [Addr.add_zero'] at hw136_0)
           obtain rfl : ad133 = ad136 := (by injection e136)
           have qi136 : (0 < l0.length) = True := eq_true (by omega)
           (try rw [show ((0 : Int)).toNat = 0 from rfl] at hx136_0)
           (try rw [show 0 * 3 = 0 from rfl] at hx136_0)
           (try rw [Addr.add_zero'] at hx136_0)
           (try rw [show ((0 : Int)).toNat = 0 from rfl] at hx136_1)
           (try rw [show 0 * 3 = 0 from rfl] at hx136_1)
           (try rw [Addr.add_zero'] at hx136_1)
           (try rw [show ((0 : Int)).toNat = 0 from rfl] at hx136_2)
           (try rw [show 0 * 3 = 0 from rfl] at hx136_2)
           (try rw [Addr.add_zero'] at hx136_2)
           replace hx136_0 := (HB.out.cell (World.block_lt_of_cell? w _ hx136_0)).trans hx136_0
           replace hx136_1 := (HB.out.cell (World.block_lt_of_cell? w _ hx136_1)).trans hx136_1
           replace hx136_2 := (HB.out.cell (World.block_lt_of_cell? w _ hx136_2)).trans hx136_2
           have HR136_2 := z0d hi136_2
           have HC136_2 := z0d hl136_2
           clear hi136_2 hl136_2
           replace p136 := eq_true p136
           replace q136 := eq_true q136
           have p137 : 0 ≤ (0 : Int) := (by omega)
           have q137 : 0 < (l0.length : Int) := of_decide_eq_true (by first | (with_reducible assumption) | assumption)
           obtain ⟨ad137, A137_2, c137_2, e137, hx137_0, hx137_1, hx137_2, hl137_2, hi137_2⟩ := at_T25 HR0.out 0 p137 q137
           have hw137_2 := hx137_2
           (try rw [show ((0 : Int)).toNat = 0 from rfl] at hw137_2)
           (try rw [show 0 * 3 = 0 from rfl] at hw137_2)
           (try rw [Addr.add_zero'] at hw137_2)
           have hw137_1 := hx137_1
           (try rw [show ((0 : Int)).toNat = 0 from rfl] at hw137_1)
           (try rw [show 0 * 3 = 0 from rfl] at hw137_1)
           (try rw [Addr.add_zero'] at hw137_1)
           have hw137_0 := hx137_0
           (try rw [show ((0 : Int)).toNat = 0 from rfl] at hw137_0)
           (try rw [show 0 * 3 = 0 from rfl] at hw137_0)
           (try rw [Addr.add_zero'] at hw137_0)
           obtain rfl : ad133 = ad137 := (by injection e137)
           have qi137 : (0 < l0.length) = True := eq_true (by omega)
           (try rw [show ((0 : Int)).toNat = 0 from rfl] at hx137_0)
           (try rw [show 0 * 3 = 0 from rfl] at hx137_0)
           (try rw [Addr.add_zero'] at hx137_0)
           (try rw [show ((0 : Int)).toNat = 0 from rfl] at hx137_1)
           (try rw [show 0 * 3 = 0 from rfl] at hx137_1)
           (try rw [Addr.add_zero'] at hx137_1)
           (try rw [show ((0 : Int)).toNat = 0 from rfl] at hx137_2)
           (try rw [show 0 * 3 = 0 from rfl] at hx137_2)
           (try rw [Addr.add_zero'] at hx137_2)
           replace hx137_0 := (HB.out.cell (World.block_lt_of_cell? w _ hx137_0)).trans hx137_0
           replace hx137_1 := (HB.out.cell (World.block_lt_of_cell? w _ hx137_1)).trans hx137_1
           replace hx137_2 := (HB.out.cell (World.block_lt_of_cell? w _ hx137_2)).trans hx137_2
           have HR137_2 := z0d hi137_2
           have HC137_2 := z0d hl137_2
           clear hi137_2 hl137_2
           replace p137 := eq_true p137
           replace q137 := eq_true q137
           have ea_ := Option.some.inj (hx136_2.symm.trans hx137_2)
           injection ea_ with ea_ en_ ec_
           subst ea_
           subst ec_
           clear en_
           refine start_ (n := 21) (S := fun w' => w'.cell? ⟨gb134, 0, none⟩ = some (.int .i64 ((rd_T25 l0 x11_1).f0)) ∧ w'.cell? ⟨gb134, 1, none⟩ = some (.int .i64 ((rd_T25 l0 x11_1).f1)) ∧ w'.cell? ⟨gb134, 2, none⟩ = some (.slice A133_2 ((rd_T25 l0 x11_1).f2).length c133_2) ∧ w'.cell? ad133 = some (.int .i64 ((rd_T25 l0 0).f0)) ∧ w'.cell? ⟨ad133.block, ad133.off + 1, none⟩ = some (.int .i64 ((rd_T25 l0 0).f1)) ∧ w'.cell? ⟨ad133.block, ad133.off + 2, none⟩ = some (.slice A136_2 ((rd_T25 l0 0).f2).length c136_2) ∧ w'.cell? ad133 = some (.int .i64 ((rd_T25 l0 0).f0)) ∧ w'.cell? ⟨ad133.block, ad133.off + 1, none⟩ = some (.int .i64 ((rd_T25 l0 0).f1)) ∧ w'.cell? ⟨ad133.block, ad133.off + 2, none⟩ = some (.slice A136_2 ((rd_T25 l0 0).f2).length c136_2)) (ds := []) (bsd_ 21 0) (by kernel_rfl) rfl rfl ⟨(x3d BK134.out 0).trans rfl, (x3d BK134.out 1).trans rfl, (x3d BK134.out 2).trans rfl, ((HB.out.cell (World.block_lt_of_cell? w _ hw136_0)).trans hw136_0), ((HB.out.cell (World.block_lt_of_cell? w _ hw136_1)).trans hw136_1), ((HB.out.cell (World.block_lt_of_cell? w _ hw136_2)).trans hw136_2), ((HB.out.cell (World.block_lt_of_cell? w _ hw137_0)).trans hw137_0), ((HB.out.cell (World.block_lt_of_cell? w _ hw137_1)).trans hw137_1), ((HB.out.cell (World.block_lt_of_cell? w _ hw137_2)).trans hw137_2)⟩ (fun hHeld => ?_); refine with_tabW spec_IsStack.tab6 spec_IsStack.bits6 (fun HT_ HW_ => ?_)
           generalize w14.drew = w15 at BK134 HB HR136_2 HR137_2 hx136_0 hx136_1 hx136_2 hx137_0 hx137_1 hx137_2 hHeld ⊢
           refine take_ (i := 0) (N := some 15) (v := ?_) (a' := ?_) (bsd_ 21 1) rfl rfl (take_ofW HT_.out HW_.out (by kernel_rfl)) (fun _ _ _ h => h) (Or.inl ⟨by rfl, ?_⟩) hHeld ?_ ?_
           rotate_left
           ·rintro w' ⟨s0, s1, s2, s3, s4, s5, s6, s7, s8⟩
            go_simp
            with_reducible rfl
           rotate_left
           ·simp only [Act.put, s1d_, s2d_, s3d_, i64_w, i32_w]
            rfl
           refine one_ (i := 1) (N := some 16) (bsd_ 21 3) rfl rfl (one_of HT_.out (by kernel_rfl)) (by decide) (fun K hK => ?_)
           refine goes_ Try.func87 (by kernel_rfl) rfl #[.agg #[.int .i64 ((rd_T25 l0 x11_1).f0), .int .i64 ((rd_T25 l0 x11_1).f1), .slice A133_2 ((rd_T25 l0 x11_1).f2).length c133_2]] (by rfl) rfl rfl (by (try simp only [List.map_toArray, List.map_cons, List.map_nil]); first | done | rfl | (simp only [List.length_drop, List.length_take]; rfl)) ?_
           with_reducible refine (spec_IsPlate.calls k1 ((rd_T25 l0 x11_1).f0) ((rd_T25 l0 x11_1).f1) _ _ ((rd_T25 l0 x11_1).f2) true _ ?side1 ?side2 A7.out).mono ?_
           (case side1 => repeat (first | exact HR133_2.out | exact (Kd.C_below HR133_2.out HB.out) | (with_reducible refine Kd.C_alloc ?_ _) | (with_reducible refine Kd.C_drewN ?_ _) | (with_reducible refine Kd.C_drew ?_)))
           (case side2 => exact HC133_2.out)
           rintro e w16 ⟨rfl, hb⟩
           refine ⟨_, rfl, ?_⟩
           have n0_ := z0d (blk_below (g := gb134) (o := .cells #[.int .i64 ((rd_T25 l0 x11_1).f0), .int .i64 ((rd_T25 l0 x11_1).f1), .slice A133_2 ((rd_T25 l0 x11_1).f2).length c133_2] 25 (0, 0)) (by (with_reducible repeat (first | refine z1d ?_ _ | refine z3d ?_ | refine z2d ?_ _)); exact BK134.out) hb)
           have n1_ := z0d (below_step (by repeat (first | (with_reducible first | exact HB.out | apply z4d | apply z5d | apply z6d | refine z7d ?_ GE134.out) | exact HB.out)) hb)
           clear BK134
           clear HB
           have BK134 := n0_
           have HB := n1_
           clear n0_ n1_
           (try clear hb)
           (try clear hb2)
           (try clear hk)
           (try clear hi)
           refine hK.out _ _ ⟨(x3d BK134.out 0).trans rfl, (x3d BK134.out 1).trans rfl, (x3d BK134.out 2).trans rfl, ((HB.out.cell (World.block_lt_of_cell? w _ hw136_0)).trans hw136_0), ((HB.out.cell (World.block_lt_of_cell? w _ hw136_1)).trans hw136_1), ((HB.out.cell (World.block_lt_of_cell? w _ hw136_2)).trans hw136_2), ((HB.out.cell (World.block_lt_of_cell? w _ hw137_0)).trans hw137_0), ((HB.out.cell (World.block_lt_of_cell? w _ hw137_1)).trans hw137_1), ((HB.out.cell (World.block_lt_of_cell? w _ hw137_2)).trans hw137_2)⟩ (fun hHeld => ?_)
           clear hK K
           refine norm_ (a' := ?_) ?_ ?_
           rotate_left
           ·show Act.put _ (some 16) _ = _
            simp only [Act.put, s1d_, s2d_, s3d_, i64_w, i32_w]
            rfl
           refine pure_ (i := 2) (N := some 17) (v := ?_) (a' := ?_) (bsd_ 21 7) rfl rfl (any_of HT_.out (by kernel_rfl)) (fun _ _ _ h => h) (Or.inl ⟨by rfl, ?_⟩) ?_ ?_
           rotate_left
           ·intro w'
            go_simp
            with_reducible rfl
           rotate_left
           ·simp only [Act.put, s1d_, s2d_, s3d_, i64_w, i32_w]
            rfl
           refine pure_ (i := 3) (N := some 18) (v := ?_) (a' := ?_) (bsd_ 21 15) rfl rfl (any_of HT_.out (by kernel_rfl)) (fun _ _ _ h => h) (Or.inl ⟨by rfl, ?_⟩) ?_ ?_
           rotate_left
           ·intro w'
            go_simp
            with_reducible rfl
           rotate_left
           ·simp only [Act.put, s1d_, s2d_, s3d_, i64_w, i32_w]
            rfl
           refine pure_ (i := 4) (N := some 19) (v := ?_) (a' := ?_) (bsd_ 21 31) rfl rfl (any_of HT_.out (by kernel_rfl)) (fun _ _ _ h => h) (Or.inl ⟨by rfl, ?_⟩) ?_ ?_
           rotate_left
           ·intro w'
            go_simp
            with_reducible rfl
           rotate_left
           ·simp only [Act.put, s1d_, s2d_, s3d_, i64_w, i32_w]
            rfl
           refine pure_ (i := 6) (N := some 21) (v := ?_) (a' := ?_) (bsd_ 21 95) rfl rfl (any_of HT_.out (by kernel_rfl)) (fun _ _ _ h => h) (Or.inl ⟨by rfl, ?_⟩) ?_ ?_
           rotate_left
           ·intro w'
            go_simp
            with_reducible rfl
           rotate_left
           ·simp only [Act.put, s1d_, s2d_, s3d_, i64_w, i32_w]
            rfl
           refine pure_ (i := 7) (N := some 22) (v := ?_) (a' := ?_) (bsd_ 21 223) rfl rfl (any_of HT_.out (by kernel_rfl)) (fun _ _ _ h => h) (Or.inl ⟨by rfl, ?_⟩) ?_ ?_
           rotate_left
           ·intro w'
            go_simp
            with_reducible rfl
           rotate_left
           ·simp only [Act.put, s1d_, s2d_, s3d_, i64_w, i32_w]
            rfl
           refine pure_ (i := 8) (N := some 23) (v := ?_) (a' := ?_) (bsd_ 21 479) rfl rfl (any_of HT_.out (by kernel_rfl)) (fun _ _ _ h => h) (Or.inl ⟨by rfl, ?_⟩) ?_ ?_
           rotate_left
           ·intro w'
            go_simp
            with_reducible rfl
           rotate_left
           ·simp only [Act.put, s1d_, s2d_, s3d_, i64_w, i32_w]
            rfl
           refine take_ (i := 5) (N := some 20) (v := ?_) (a' := ?_) (bsd_ 21 511) rfl rfl (take_ofW HT_.out HW_.out (by kernel_rfl)) (fun _ _ _ h => h) (Or.inl ⟨by rfl, ?_⟩) hHeld ?_ ?_
           rotate_left
           ·rintro w' ⟨s0, s1, s2, s3, s4, s5, s6, s7, s8⟩
            go_simp
            with_reducible rfl
           rotate_left
           ·simp only [Act.put, s1d_, s2d_, s3d_, i64_w, i32_w]
            rfl
           refine take_ (i := 9) (N := some 24) (v := ?_) (a' := ?_) (bsd_ 21 1023) rfl rfl (take_ofW HT_.out HW_.out (by kernel_rfl)) (fun _ _ _ h => h) (Or.inl ⟨by rfl, ?_⟩) hHeld ?_ ?_
           rotate_left
           ·rintro w' ⟨s0, s1, s2, s3, s4, s5, s6, s7, s8⟩
            go_simp
            with_reducible rfl
           rotate_left
           ·simp only [Act.put, s1d_, s2d_, s3d_, i64_w, i32_w]
            rfl
           refine pure_ (i := 10) (N := some 25) (v := ?_) (a' := ?_) (bsd_ 21 2047) rfl rfl (any_of HT_.out (by kernel_rfl)) (fun _ _ _ h => h) (Or.inl ⟨by rfl, ?_⟩) ?_ ?_
           rotate_left
           ·intro w'
            go_simp
            with_reducible rfl
           rotate_left
           ·simp only [Act.put, s1d_, s2d_, s3d_, i64_w, i32_w]
            rfl
           refine pure_ (i := 11) (N := some 26) (v := ?_) (a' := ?_) (bsd_ 21 4095) rfl rfl (any_of HT_.out (by kernel_rfl)) (fun _ _ _ h => h) (Or.inl ⟨by rfl, ?_⟩) ?_ ?_
           rotate_left
           ·intro w'
            go_simp
            with_reducible rfl
           rotate_left
           ·simp only [Act.put, s1d_, s2d_, s3d_, i64_w, i32_w]
            rfl
           refine pure_ (i := 12) (N := some 27) (v := ?_) (a' := ?_) (bsd_ 21 8191) rfl rfl (any_of HT_.out (by kernel_rfl)) (fun _ _ _ h => h) (Or.inl ⟨by rfl, ?_⟩) ?_ ?_
           rotate_left
           ·intro w'
            go_simp
            with_reducible rfl
           rotate_left
           ·simp only [Act.put, s1d_, s2d_, s3d_, i64_w, i32_w]
            rfl
           refine pure_ (i := 13) (N := some 28) (v := ?_) (a' := ?_) (bsd_ 21 16383) rfl rfl (any_of HT_.out (by kernel_rfl)) (fun _ _ _ h => h) (Or.inl ⟨by rfl, ?_⟩) ?_ ?_
           rotate_left
           ·intro w'
            go_simp
            with_reducible rfl
           rotate_left
           ·simp only [Act.put, s1d_, s2d_, s3d_, i64_w, i32_w]
            rfl
           refine pure_ (i := 15) (N := some 30) (v := ?_) (a' := ?_) (bsd_ 21 49151) rfl rfl (any_of HT_.out (by kernel_rfl)) (fun _ _ _ h => h) (Or.inl ⟨by rfl, ?_⟩) ?_ ?_
           rotate_left
           ·intro w'
            go_simp
            with_reducible rfl
           rotate_left
           ·simp only [Act.put, s1d_, s2d_, s3d_, i64_w, i32_w]
            rfl
           refine pure_ (i := 16) (N := some 31) (v := ?_) (a' := ?_) (bsd_ 21 114687) rfl rfl (any_of HT_.out (by kernel_rfl)) (fun _ _ _ h => h) (Or.inl ⟨by rfl, ?_⟩) ?_ ?_
           rotate_left
           ·intro w'
            go_simp
            with_reducible rfl
           rotate_left
           ·simp only [Act.put, s1d_, s2d_, s3d_, i64_w, i32_w]
            rfl
           refine pure_ (i := 17) (N := some 32) (v := ?_) (a' := ?_) (bsd_ 21 245759) rfl rfl (any_of HT_.out (by kernel_rfl)) (fun _ _ _ h => h) (Or.inl ⟨by rfl, ?_⟩) ?_ ?_
           rotate_left
           ·intro w'
            go_simp
            with_reducible rfl
           rotate_left
           ·simp only [Act.put, s1d_, s2d_, s3d_, i64_w, i32_w]
            rfl
           refine take_ (i := 14) (N := some 29) (v := ?_) (a' := ?_) (bsd_ 21 262143) rfl rfl (take_ofW HT_.out HW_.out (by kernel_rfl)) (fun _ _ _ h => h) (Or.inl ⟨by rfl, ?_⟩) hHeld ?_ ?_
           rotate_left
           ·rintro w' ⟨s0, s1, s2, s3, s4, s5, s6, s7, s8⟩
            go_simp
            with_reducible rfl
           rotate_left
           ·simp only [Act.put, s1d_, s2d_, s3d_, i64_w, i32_w]
            rfl
           refine take_ (i := 18) (N := some 33) (v := ?_) (a' := ?_) (bsd_ 21 524287) rfl rfl (take_ofW HT_.out HW_.out (by kernel_rfl)) (fun _ _ _ h => h) (Or.inl ⟨by rfl, ?_⟩) hHeld ?_ ?_
           rotate_left
           ·rintro w' ⟨s0, s1, s2, s3, s4, s5, s6, s7, s8⟩
            go_simp
            with_reducible rfl
           rotate_left
           ·simp only [Act.put, s1d_, s2d_, s3d_, i64_w, i32_w]
            rfl
           refine pure_ (i := 19) (N := some 34) (v := ?_) (a' := ?_) (bsd_ 21 1048575) rfl rfl (any_of HT_.out (by kernel_rfl)) (fun _ _ _ h => h) (Or.inl ⟨by rfl, ?_⟩) ?_ ?_
           rotate_left
           ·intro w'
            go_simp
            with_reducible rfl
           rotate_left
           ·simp only [Act.put, s1d_, s2d_, s3d_, i64_w, i32_w]
            rfl
           refine pure_ (i := 20) (N := some 35) (v := ?_) (a' := ?_) (bsd_ 21 2097151) rfl rfl (any_of HT_.out (by kernel_rfl)) (fun _ _ _ h => h) (Or.inl ⟨by rfl, ?_⟩) ?_ ?_
           rotate_left
           ·intro w'
            go_simp
            with_reducible rfl
           rotate_left
           ·simp only [Act.put, s1d_, s2d_, s3d_, i64_w, i32_w]
            rfl
           refine done_ (done_of HT_.out (by kernel_rfl)) ?_
           try go_wp2
           go_roundg k1
           case measure => have := HK1.out; omega
           case rel => exact ⟨(wrap64 (x11_1 + 1)), (by first | rfl | (simp; done) | (simp [*]; done)), H', ⟨by have := HK1.out; omega⟩, ⟨by repeat (first | (with_reducible first | exact HB.out | apply z4d | apply z5d | apply z6d | refine z7d ?_ GE134.out) | exact HB.out)⟩⟩
          ·rw [if_neg c11] at H
           have c11b0 : (((rd_T25 l0 x11_1).f1) == ((rd_T25 l0 0).f1)) = false := beq_eq_false_iff_ne.mpr c11
           have c11b1 : (((rd_T25 l0 x11_1).f1) != ((rd_T25 l0 0).f1)) = true := bne_iff_ne.mpr c11
           obtain rfl := Option.some.inj H
           have p133 : 0 ≤ (x11_1 : Int) := of_decide_eq_true (by first | (with_reducible assumption) | assumption)
           have q133 : x11_1 < (l0.length : Int) := of_decide_eq_true (by first | (with_reducible assumption) | assumption)
           obtain ⟨ad133, A133_2, c133_2, e133, hx133_0, hx133_1, hx133_2, hl133_2, hi133_2⟩ := at_T25 HR0.out x11_1 p133 q133
           cases e133
           replace hx133_0 := (HB.out.cell (World.block_lt_of_cell? w _ hx133_0)).trans hx133_0
           replace hx133_1 := (HB.out.cell (World.block_lt_of_cell? w _ hx133_1)).trans hx133_1
           replace hx133_2 := (HB.out.cell (World.block_lt_of_cell? w _ hx133_2)).trans hx133_2
           have HR133_2 := z0d hi133_2
           have HC133_2 := z0d hl133_2
           clear hi133_2 hl133_2
           replace p133 := eq_true p133
           replace q133 := eq_true q133
           try go_wp2_with (first | ((with_reducible refine gate_dst (N := 4) rfl ?_); refine box_event ?hg (N := 4) ?hd (cs := #[.int .i64 0, .int .i64 0, .slice none 0 0]) (t := 25) ?hr ?_; (case hd => rfl); (case hg => rfl); (case hr => first | (go_simp; done) | (go_simp; rfl)); intro gb134 hg w17 hbox hb; have n0_ := z0d (below_step (by repeat (first | (with_reducible first | exact HB.out | apply z4d | apply z5d | apply z6d) | exact HB.out)) hb); have n1_ := z0d (hbox); have n2_ := z0d ((by rw [hg]; exact (below_size (by repeat (first | (with_reducible first | exact HB.out | apply z4d | apply z5d | apply z6d) | exact HB.out))) : w.heap.size ≤ gb134)); have n3_ := z0d ((by rw [hg]; exact (below_size (by repeat (first | (with_reducible first | exact HB.out | apply z4d | apply z5d | apply z6d) | exact HB.out))) : w.heap.size ≤ gb134)); clear HB; have HB := n0_; have BK134 := n1_; have GW134 := n2_; have GE134 := n3_; clear n0_ n1_ n2_ n3_; clear hb hbox hg; have hcz18_0 : w17.cell? ⟨gb134, 0, none⟩ = some (.int .i64 0) := (x3d BK134.out 0).trans rfl; have hcz18_1 : w17.cell? ⟨gb134, 1, none⟩ = some (.int .i64 0) := (x3d BK134.out 1).trans rfl; have hcz18_2 : w17.cell? ⟨gb134, 2, none⟩ = some (.slice none 0 0) := (x3d BK134.out 2).trans rfl; have hfz18_0 := x2d BK134.out 0; have hfz18_1 := x2d BK134.out 1; have hfz18_2 := x2d BK134.out 2))
           have n0_ : Aside0 ((((w17.setCell ⟨gb134, 0, none⟩ (.int .i64 ((rd_T25 l0 x11_1).f0))).setCell ⟨gb134, 1, none⟩ (.int .i64 ((rd_T25 l0 x11_1).f1))).setCell ⟨gb134, 2, none⟩ (.slice A133_2 ((rd_T25 l0 x11_1).f2).length c133_2)).heap[gb134]? = some (.cells #[.int .i64 ((rd_T25 l0 x11_1).f0), .int .i64 ((rd_T25 l0 x11_1).f1), .slice A133_2 ((rd_T25 l0 x11_1).f2).length c133_2] 25 (0, 0))) := ⟨by (with_reducible repeat (first | refine z1d ?_ _ | refine z3d ?_ | refine z2d ?_ _)); refine blk_put (cs := #[.int .i64 ((rd_T25 l0 x11_1).f0), .int .i64 ((rd_T25 l0 x11_1).f1), .slice none 0 0]) ?_ 2 _ rfl; (with_reducible repeat (first | refine z1d ?_ _ | refine z3d ?_ | refine z2d ?_ _)); refine blk_put (cs := #[.int .i64 ((rd_T25 l0 x11_1).f0), .int .i64 0, .slice none 0 0]) ?_ 1 _ rfl; (with_reducible repeat (first | refine z1d ?_ _ | refine z3d ?_ | refine z2d ?_ _)); refine blk_put (cs := #[.int .i64 0, .int .i64 0, .slice none 0 0]) ?_ 0 _ rfl; (with_reducible repeat (first | refine z1d ?_ _ | refine z3d ?_ | refine z2d ?_ _)); exact BK134.out⟩
           have n1_ : Aside0 (Below w.heap.size w (((w17.setCell ⟨gb134, 0, none⟩ (.int .i64 ((rd_T25 l0 x11_1).f0))).setCell ⟨gb134, 1, none⟩ (.int .i64 ((rd_T25 l0 x11_1).f1))).setCell ⟨gb134, 2, none⟩ (.slice A133_2 ((rd_T25 l0 x11_1).f2).length c133_2))) := ⟨by repeat (first | (with_reducible first | exact HB.out | apply z4d | apply z5d | apply z6d | refine z7d ?_ GE134.out) | exact HB.out)⟩
           (try clear BK134)
           (try clear HB)
           generalize (((w17.setCell ⟨gb134, 0, none⟩ (.int .i64 ((rd_T25 l0 x11_1).f0))).setCell ⟨gb134, 1, none⟩ (.int .i64 ((rd_T25 l0 x11_1).f1))).setCell ⟨gb134, 2, none⟩ (.slice A133_2 ((rd_T25 l0 x11_1).f2).length c133_2)) = w19 at n0_ n1_ ⊢
           have BK134 := n0_
           have HB := n1_
           clear n0_ n1_
           have n0_ := z0d (z3d BK134.out)
           have n1_ := z0d (z6d HB.out)
           clear BK134
           clear HB
           have BK134 := n0_
           have HB := n1_
           clear n0_ n1_
           have p136 : 0 ≤ (0 : Int) := (by omega)
           have q136 : 0 < (l0.length : Int) := of_decide_eq_true (by first | (with_reducible assumption) | assumption)
           obtain ⟨ad136, A136_2, c136_2, e136, hx136_0, hx136_1, hx136_2, hl136_2, hi136_2⟩ := at_T25 HR0.out 0 p136 q136
           have hw136_2 := hx136_2
           (try rw [show ((0 : Int)).toNat = 0 from rfl] at hw136_2)
           (try rw [show 0 * 3 = 0 from rfl] at hw136_2)
           (try rw [Addr.add_zero'] at hw136_2)
           have hw136_1 := hx136_1
           (try rw [show ((0 : Int)).toNat = 0 from rfl] at hw136_1)
           (try rw [show 0 * 3 = 0 from rfl] at hw136_1)
           (try rw [Addr.add_zero'] at hw136_1)
           have hw136_0 := hx136_0
           (try rw [show ((0 : Int)).toNat = 0 from rfl] at hw136_0)
           (try rw [show 0 * 3 = 0 from rfl] at hw136_0)
           (try rw [Addr.add_zero'] at hw136_0)
           obtain rfl : ad133 = ad136 := (by injection e136)
           have qi136 : (0 < l0.length) = True := eq_true (by omega)
           (try rw [show ((0 : Int)).toNat = 0 from rfl] at hx136_0)
           (try rw [show 0 * 3 = 0 from rfl] at hx136_0)
           (try rw [Addr.add_zero'] at hx136_0)
           (try rw [show ((0 : Int)).toNat = 0 from rfl] at hx136_1)
           (try rw [show 0 * 3 = 0 from rfl] at hx136_1)
           (try rw [Addr.add_zero'] at hx136_1)
           (try rw [show ((0 : Int)).toNat = 0 from rfl] at hx136_2)
           (try rw [show 0 * 3 = 0 from rfl] at hx136_2)
           (try rw [Addr.add_zero'] at hx136_2)
           replace hx136_0 := (HB.out.cell (World.block_lt_of_cell? w _ hx136_0)).trans hx136_0
           replace hx136_1 := (HB.out.cell (World.block_lt_of_cell? w _ hx136_1)).trans hx136_1
           replace hx136_2 := (HB.out.cell (World.block_lt_of_cell? w _ hx136_2)).trans hx136_2
           have HR136_2 := z0d hi136_2
           have HC136_2 := z0d hl136_2
           clear hi136_2 hl136_2
           replace p136 := eq_true p136
           replace q136 := eq_true q136
           have p137 : 0 ≤ (0 : Int) := (by omega)
           have q137 : 0 < (l0.length : Int) := of_decide_eq_true (by first | (with_reducible assumption) | assumption)
           obtain ⟨ad137, A137_2, c137_2, e137, hx137_0, hx137_1, hx137_2, hl137_2, hi137_2⟩ := at_T25 HR0.out 0 p137 q137
           have hw137_2 := hx137_2
           (try rw [show ((0 : Int)).toNat = 0 from rfl] at hw137_2)
           (try rw [show 0 * 3 = 0 from rfl] at hw137_2)
           (try rw [Addr.add_zero'] at hw137_2)
           have hw137_1 := hx137_1
           (try rw [show ((0 : Int)).toNat = 0 from rfl] at hw137_1)
           (try rw [show 0 * 3 = 0 from rfl] at hw137_1)
           (try rw [Addr.add_zero'] at hw137_1)
           have hw137_0 := hx137_0
           (try rw [show ((0 : Int)).toNat = 0 from rfl] at hw137_0)
           (try rw [show 0 * 3 = 0 from rfl] at hw137_0)
           (try rw [Addr.add_zero'] at hw137_0)
           obtain rfl : ad133 = ad137 := (by injection e137)
           have qi137 : (0 < l0.length) = True := eq_true (by omega)
           (try rw [show ((0 : Int)).toNat = 0 from rfl] at hx137_0)
           (try rw [show 0 * 3 = 0 from rfl] at hx137_0)
           (try rw [Addr.add_zero'] at hx137_0)
           (try rw [show ((0 : Int)).toNat = 0 from rfl] at hx137_1)
           (try rw [show 0 * 3 = 0 from rfl] at hx137_1)
           (try rw [Addr.add_zero'] at hx137_1)
           (try rw [show ((0 : Int)).toNat = 0 from rfl] at hx137_2)
           (try rw [show 0 * 3 = 0 from rfl] at hx137_2)
           (try rw [Addr.add_zero'] at hx137_2)
           replace hx137_0 := (HB.out.cell (World.block_lt_of_cell? w _ hx137_0)).trans hx137_0
           replace hx137_1 := (HB.out.cell (World.block_lt_of_cell? w _ hx137_1)).trans hx137_1
           replace hx137_2 := (HB.out.cell (World.block_lt_of_cell? w _ hx137_2)).trans hx137_2
           have HR137_2 := z0d hi137_2
           have HC137_2 := z0d hl137_2
           clear hi137_2 hl137_2
           replace p137 := eq_true p137
           replace q137 := eq_true q137
           have ea_ := Option.some.inj (hx136_2.symm.trans hx137_2)
           injection ea_ with ea_ en_ ec_
           subst ea_
           subst ec_
           clear en_
           refine start_ (n := 21) (S := fun w' => w'.cell? ⟨gb134, 0, none⟩ = some (.int .i64 ((rd_T25 l0 x11_1).f0)) ∧ w'.cell? ⟨gb134, 1, none⟩ = some (.int .i64 ((rd_T25 l0 x11_1).f1)) ∧ w'.cell? ⟨gb134, 2, none⟩ = some (.slice A133_2 ((rd_T25 l0 x11_1).f2).length c133_2) ∧ w'.cell? ad133 = some (.int .i64 ((rd_T25 l0 0).f0)) ∧ w'.cell? ⟨ad133.block, ad133.off + 1, none⟩ = some (.int .i64 ((rd_T25 l0 0).f1)) ∧ w'.cell? ⟨ad133.block, ad133.off + 2, none⟩ = some (.slice A136_2 ((rd_T25 l0 0).f2).length c136_2) ∧ w'.cell? ad133 = some (.int .i64 ((rd_T25 l0 0).f0)) ∧ w'.cell? ⟨ad133.block, ad133.off + 1, none⟩ = some (.int .i64 ((rd_T25 l0 0).f1)) ∧ w'.cell? ⟨ad133.block, ad133.off + 2, none⟩ = some (.slice A136_2 ((rd_T25 l0 0).f2).length c136_2)) (ds := []) (bsd_ 21 0) (by kernel_rfl) rfl rfl ⟨(x3d BK134.out 0).trans rfl, (x3d BK134.out 1).trans rfl, (x3d BK134.out 2).trans rfl, ((HB.out.cell (World.block_lt_of_cell? w _ hw136_0)).trans hw136_0), ((HB.out.cell (World.block_lt_of_cell? w _ hw136_1)).trans hw136_1), ((HB.out.cell (World.block_lt_of_cell? w _ hw136_2)).trans hw136_2), ((HB.out.cell (World.block_lt_of_cell? w _ hw137_0)).trans hw137_0), ((HB.out.cell (World.block_lt_of_cell? w _ hw137_1)).trans hw137_1), ((HB.out.cell (World.block_lt_of_cell? w _ hw137_2)).trans hw137_2)⟩ (fun hHeld => ?_); refine with_tabW spec_IsStack.tab6 spec_IsStack.bits6 (fun HT_ HW_ => ?_)
           generalize w19.drew = w20 at BK134 HB HR136_2 HR137_2 hx136_0 hx136_1 hx136_2 hx137_0 hx137_1 hx137_2 hHeld ⊢
           refine take_ (i := 0) (N := some 15) (v := ?_) (a' := ?_) (bsd_ 21 1) rfl rfl (take_ofW HT_.out HW_.out (by kernel_rfl)) (fun _ _ _ h => h) (Or.inl ⟨by rfl, ?_⟩) hHeld ?_ ?_
           rotate_left
           ·rintro w' ⟨s0, s1, s2, s3, s4, s5, s6, s7, s8⟩
            go_simp
            with_reducible rfl
           rotate_left
           ·simp only [Act.put, s1d_, s2d_, s3d_, i64_w, i32_w]
            rfl
           refine one_ (i := 1) (N := some 16) (bsd_ 21 3) rfl rfl (one_of HT_.out (by kernel_rfl)) (by decide) (fun K hK => ?_)
           refine goes_ Try.func87 (by kernel_rfl) rfl #[.agg #[.int .i64 ((rd_T25 l0 x11_1).f0), .int .i64 ((rd_T25 l0 x11_1).f1), .slice A133_2 ((rd_T25 l0 x11_1).f2).length c133_2]] (by rfl) rfl rfl (by (try simp only [List.map_toArray, List.map_cons, List.map_nil]); first | done | rfl | (simp only [List.length_drop, List.length_take]; rfl)) ?_
           with_reducible refine (spec_IsPlate.calls k1 ((rd_T25 l0 x11_1).f0) ((rd_T25 l0 x11_1).f1) _ _ ((rd_T25 l0 x11_1).f2) true _ ?side1 ?side2 A7.out).mono ?_
           (case side1 => repeat (first | exact HR133_2.out | exact (Kd.C_below HR133_2.out HB.out) | (with_reducible refine Kd.C_alloc ?_ _) | (with_reducible refine Kd.C_drewN ?_ _) | (with_reducible refine Kd.C_drew ?_)))
           (case side2 => exact HC133_2.out)
           rintro e w21 ⟨rfl, hb⟩
           refine ⟨_, rfl, ?_⟩
           have n0_ := z0d (blk_below (g := gb134) (o := .cells #[.int .i64 ((rd_T25 l0 x11_1).f0), .int .i64 ((rd_T25 l0 x11_1).f1), .slice A133_2 ((rd_T25 l0 x11_1).f2).length c133_2] 25 (0, 0)) (by (with_reducible repeat (first | refine z1d ?_ _ | refine z3d ?_ | refine z2d ?_ _)); exact BK134.out) hb)
           have n1_ := z0d (below_step (by repeat (first | (with_reducible first | exact HB.out | apply z4d | apply z5d | apply z6d | refine z7d ?_ GE134.out) | exact HB.out)) hb)
           clear BK134
           clear HB
           have BK134 := n0_
           have HB := n1_
           clear n0_ n1_
           (try clear hb)
           (try clear hb2)
           (try clear hk)
           (try clear hi)
           refine hK.out _ _ ⟨(x3d BK134.out 0).trans rfl, (x3d BK134.out 1).trans rfl, (x3d BK134.out 2).trans rfl, ((HB.out.cell (World.block_lt_of_cell? w _ hw136_0)).trans hw136_0), ((HB.out.cell (World.block_lt_of_cell? w _ hw136_1)).trans hw136_1), ((HB.out.cell (World.block_lt_of_cell? w _ hw136_2)).trans hw136_2), ((HB.out.cell (World.block_lt_of_cell? w _ hw137_0)).trans hw137_0), ((HB.out.cell (World.block_lt_of_cell? w _ hw137_1)).trans hw137_1), ((HB.out.cell (World.block_lt_of_cell? w _ hw137_2)).trans hw137_2)⟩ (fun hHeld => ?_)
           clear hK K
           refine norm_ (a' := ?_) ?_ ?_
           rotate_left
           ·show Act.put _ (some 16) _ = _
            simp only [Act.put, s1d_, s2d_, s3d_, i64_w, i32_w]
            rfl
           refine pure_ (i := 2) (N := some 17) (v := ?_) (a' := ?_) (bsd_ 21 7) rfl rfl (any_of HT_.out (by kernel_rfl)) (fun _ _ _ h => h) (Or.inl ⟨by rfl, ?_⟩) ?_ ?_
           rotate_left
           ·intro w'
            go_simp
            with_reducible rfl
           rotate_left
           ·simp only [Act.put, s1d_, s2d_, s3d_, i64_w, i32_w]
            rfl
           refine pure_ (i := 3) (N := some 18) (v := ?_) (a' := ?_) (bsd_ 21 15) rfl rfl (any_of HT_.out (by kernel_rfl)) (fun _ _ _ h => h) (Or.inl ⟨by rfl, ?_⟩) ?_ ?_
           rotate_left
           ·intro w'
            go_simp
            with_reducible rfl
           rotate_left
           ·simp only [Act.put, s1d_, s2d_, s3d_, i64_w, i32_w]
            rfl
           refine pure_ (i := 4) (N := some 19) (v := ?_) (a' := ?_) (bsd_ 21 31) rfl rfl (any_of HT_.out (by kernel_rfl)) (fun _ _ _ h => h) (Or.inl ⟨by rfl, ?_⟩) ?_ ?_
           rotate_left
           ·intro w'
            go_simp
            with_reducible rfl
           rotate_left
           ·simp only [Act.put, s1d_, s2d_, s3d_, i64_w, i32_w]
            rfl
           refine pure_ (i := 6) (N := some 21) (v := ?_) (a' := ?_) (bsd_ 21 95) rfl rfl (any_of HT_.out (by kernel_rfl)) (fun _ _ _ h => h) (Or.inl ⟨by rfl, ?_⟩) ?_ ?_
           rotate_left
           ·intro w'
            go_simp
            with_reducible rfl
           rotate_left
           ·simp only [Act.put, s1d_, s2d_, s3d_, i64_w, i32_w]
            rfl
           refine pure_ (i := 7) (N := some 22) (v := ?_) (a' := ?_) (bsd_ 21 223) rfl rfl (any_of HT_.out (by kernel_rfl)) (fun _ _ _ h => h) (Or.inl ⟨by rfl, ?_⟩) ?_ ?_
           rotate_left
           ·intro w'
            go_simp
            with_reducible rfl
           rotate_left
           ·simp only [Act.put, s1d_, s2d_, s3d_, i64_w, i32_w]
            rfl
           refine pure_ (i := 8) (N := some 23) (v := ?_) (a' := ?_) (bsd_ 21 479) rfl rfl (any_of HT_.out (by kernel_rfl)) (fun _ _ _ h => h) (Or.inl ⟨by rfl, ?_⟩) ?_ ?_
           rotate_left
           ·intro w'
            go_simp
            with_reducible rfl
           rotate_left
           ·simp only [Act.put, s1d_, s2d_, s3d_, i64_w, i32_w]
            rfl
           refine take_ (i := 5) (N := some 20) (v := ?_) (a' := ?_) (bsd_ 21 511) rfl rfl (take_ofW HT_.out HW_.out (by kernel_rfl)) (fun _ _ _ h => h) (Or.inl ⟨by rfl, ?_⟩) hHeld ?_ ?_
           rotate_left
           ·rintro w' ⟨s0, s1, s2, s3, s4, s5, s6, s7, s8⟩
            go_simp
            with_reducible rfl
           rotate_left
           ·simp only [Act.put, s1d_, s2d_, s3d_, i64_w, i32_w]
            rfl
           refine take_ (i := 9) (N := some 24) (v := ?_) (a' := ?_) (bsd_ 21 1023) rfl rfl (take_ofW HT_.out HW_.out (by kernel_rfl)) (fun _ _ _ h => h) (Or.inl ⟨by rfl, ?_⟩) hHeld ?_ ?_
           rotate_left
           ·rintro w' ⟨s0, s1, s2, s3, s4, s5, s6, s7, s8⟩
            go_simp
            with_reducible rfl
           rotate_left
           ·simp only [Act.put, s1d_, s2d_, s3d_, i64_w, i32_w]
            rfl
           refine pure_ (i := 10) (N := some 25) (v := ?_) (a' := ?_) (bsd_ 21 2047) rfl rfl (any_of HT_.out (by kernel_rfl)) (fun _ _ _ h => h) (Or.inl ⟨by rfl, ?_⟩) ?_ ?_
           rotate_left
           ·intro w'
            go_simp
            with_reducible rfl
           rotate_left
           ·simp only [Act.put, s1d_, s2d_, s3d_, i64_w, i32_w]
            rfl
           refine pure_ (i := 11) (N := some 26) (v := ?_) (a' := ?_) (bsd_ 21 4095) rfl rfl (any_of HT_.out (by kernel_rfl)) (fun _ _ _ h => h) (Or.inl ⟨by rfl, ?_⟩) ?_ ?_
           rotate_left
           ·intro w'
            go_simp
            with_reducible rfl
           rotate_left
           ·simp only [Act.put, s1d_, s2d_, s3d_, i64_w, i32_w]
            rfl
           refine pure_ (i := 12) (N := some 27) (v := ?_) (a' := ?_) (bsd_ 21 8191) rfl rfl (any_of HT_.out (by kernel_rfl)) (fun _ _ _ h => h) (Or.inl ⟨by rfl, ?_⟩) ?_ ?_
           rotate_left
           ·intro w'
            go_simp
            with_reducible rfl
           rotate_left
           ·simp only [Act.put, s1d_, s2d_, s3d_, i64_w, i32_w]
            rfl
           refine pure_ (i := 13) (N := some 28) (v := ?_) (a' := ?_) (bsd_ 21 16383) rfl rfl (any_of HT_.out (by kernel_rfl)) (fun _ _ _ h => h) (Or.inl ⟨by rfl, ?_⟩) ?_ ?_
           rotate_left
           ·intro w'
            go_simp
            with_reducible rfl
           rotate_left
           ·simp only [Act.put, s1d_, s2d_, s3d_, i64_w, i32_w]
            rfl
           refine pure_ (i := 15) (N := some 30) (v := ?_) (a' := ?_) (bsd_ 21 49151) rfl rfl (any_of HT_.out (by kernel_rfl)) (fun _ _ _ h => h) (Or.inl ⟨by rfl, ?_⟩) ?_ ?_
           rotate_left
           ·intro w'
            go_simp
            with_reducible rfl
           rotate_left
           ·simp only [Act.put, s1d_, s2d_, s3d_, i64_w, i32_w]
            rfl
           refine pure_ (i := 16) (N := some 31) (v := ?_) (a' := ?_) (bsd_ 21 114687) rfl rfl (any_of HT_.out (by kernel_rfl)) (fun _ _ _ h => h) (Or.inl ⟨by rfl, ?_⟩) ?_ ?_
           rotate_left
           ·intro w'
            go_simp
            with_reducible rfl
           rotate_left
           ·simp only [Act.put, s1d_, s2d_, s3d_, i64_w, i32_w]
            rfl
           refine pure_ (i := 17) (N := some 32) (v := ?_) (a' := ?_) (bsd_ 21 245759) rfl rfl (any_of HT_.out (by kernel_rfl)) (fun _ _ _ h => h) (Or.inl ⟨by rfl, ?_⟩) ?_ ?_
           rotate_left
           ·intro w'
            go_simp
            with_reducible rfl
           rotate_left
           ·simp only [Act.put, s1d_, s2d_, s3d_, i64_w, i32_w]
            rfl
           refine take_ (i := 14) (N := some 29) (v := ?_) (a' := ?_) (bsd_ 21 262143) rfl rfl (take_ofW HT_.out HW_.out (by kernel_rfl)) (fun _ _ _ h => h) (Or.inl ⟨by rfl, ?_⟩) hHeld ?_ ?_
           rotate_left
           ·rintro w' ⟨s0, s1, s2, s3, s4, s5, s6, s7, s8⟩
            go_simp
            with_reducible rfl
           rotate_left
           ·simp only [Act.put, s1d_, s2d_, s3d_, i64_w, i32_w]
            rfl
           refine take_ (i := 18) (N := some 33) (v := ?_) (a' := ?_) (bsd_ 21 524287) rfl rfl (take_ofW HT_.out HW_.out (by kernel_rfl)) (fun _ _ _ h => h) (Or.inl ⟨by rfl, ?_⟩) hHeld ?_ ?_
           rotate_left
           ·rintro w' ⟨s0, s1, s2, s3, s4, s5, s6, s7, s8⟩
            go_simp
            with_reducible rfl
           rotate_left
           ·simp only [Act.put, s1d_, s2d_, s3d_, i64_w, i32_w]
            rfl
           refine pure_ (i := 19) (N := some 34) (v := ?_) (a' := ?_) (bsd_ 21 1048575) rfl rfl (any_of HT_.out (by kernel_rfl)) (fun _ _ _ h => h) (Or.inl ⟨by rfl, ?_⟩) ?_ ?_
           rotate_left
           ·intro w'
            go_simp
            with_reducible rfl
           rotate_left
           ·simp only [Act.put, s1d_, s2d_, s3d_, i64_w, i32_w]
            rfl
           refine pure_ (i := 20) (N := some 35) (v := ?_) (a' := ?_) (bsd_ 21 2097151) rfl rfl (any_of HT_.out (by kernel_rfl)) (fun _ _ _ h => h) (Or.inl ⟨by rfl, ?_⟩) ?_ ?_
           rotate_left
           ·intro w'
            go_simp
            with_reducible rfl
           rotate_left
           ·simp only [Act.put, s1d_, s2d_, s3d_, i64_w, i32_w]
            rfl
           refine done_ (done_of HT_.out (by kernel_rfl)) ?_
           try go_wp2
           go_ret
           exact ⟨by first | rfl | (simp [errW_none, errW_some] <;> rfl) | (simp [*, errW_none, errW_some] <;> rfl), by repeat (first | (with_reducible first | exact HB.out | apply z4d | apply z5d | apply z6d | refine z7d ?_ GE134.out) | exact HB.out)⟩
         ·rw [if_neg c10] at H
          have c10b0 : (((rd_T25 l0 x11_1).f0) == ((rd_T25 l0 0).f0)) = false := beq_eq_false_iff_ne.mpr c10
          have c10b1 : (((rd_T25 l0 x11_1).f0) != ((rd_T25 l0 0).f0)) = true := bne_iff_ne.mpr c10
          obtain rfl := Option.some.inj H
          have p133 : 0 ≤ (x11_1 : Int) := of_decide_eq_true (by first | (with_reducible assumption) | assumption)
          have q133 : x11_1 < (l0.length : Int) := of_decide_eq_true (by first | (with_reducible assumption) | assumption)
          obtain ⟨ad133, A133_2, c133_2, e133, hx133_0, hx133_1, hx133_2, hl133_2, hi133_2⟩ := at_T25 HR0.out x11_1 p133 q133
          cases e133
          replace hx133_0 := (HB.out.cell (World.block_lt_of_cell? w _ hx133_0)).trans hx133_0
          replace hx133_1 := (HB.out.cell (World.block_lt_of_cell? w _ hx133_1)).trans hx133_1
          replace hx133_2 := (HB.out.cell (World.block_lt_of_cell? w _ hx133_2)).trans hx133_2
          have HR133_2 := z0d hi133_2
          have HC133_2 := z0d hl133_2
          clear hi133_2 hl133_2
          replace p133 := eq_true p133
          replace q133 := eq_true q133
          try go_wp2_with (first | ((with_reducible refine gate_dst (N := 4) rfl ?_); refine box_event ?hg (N := 4) ?hd (cs := #[.int .i64 0, .int .i64 0, .slice none 0 0]) (t := 25) ?hr ?_; (case hd => rfl); (case hg => rfl); (case hr => first | (go_simp; done) | (go_simp; rfl)); intro gb134 hg w22 hbox hb; have n0_ := z0d (below_step (by repeat (first | (with_reducible first | exact HB.out | apply z4d | apply z5d | apply z6d) | exact HB.out)) hb); have n1_ := z0d (hbox); have n2_ := z0d ((by rw [hg]; exact (below_size (by repeat (first | (with_reducible first | exact HB.out | apply z4d | apply z5d | apply z6d) | exact HB.out))) : w.heap.size ≤ gb134)); have n3_ := z0d ((by rw [hg]; exact (below_size (by repeat (first | (with_reducible first | exact HB.out | apply z4d | apply z5d | apply z6d) | exact HB.out))) : w.heap.size ≤ gb134)); clear HB; have HB := n0_; have BK134 := n1_; have GW134 := n2_; have GE134 := n3_; clear n0_ n1_ n2_ n3_; clear hb hbox hg; have hcz23_0 : w22.cell? ⟨gb134, 0, none⟩ = some (.int .i64 0) := (x3d BK134.out 0).trans rfl; have hcz23_1 : w22.cell? ⟨gb134, 1, none⟩ = some (.int .i64 0) := (x3d BK134.out 1).trans rfl; have hcz23_2 : w22.cell? ⟨gb134, 2, none⟩ = some (.slice none 0 0) := (x3d BK134.out 2).trans rfl; have hfz23_0 := x2d BK134.out 0; have hfz23_1 := x2d BK134.out 1; have hfz23_2 := x2d BK134.out 2))
          have n0_ : Aside0 ((((w22.setCell ⟨gb134, 0, none⟩ (.int .i64 ((rd_T25 l0 x11_1).f0))).setCell ⟨gb134, 1, none⟩ (.int .i64 ((rd_T25 l0 x11_1).f1))).setCell ⟨gb134, 2, none⟩ (.slice A133_2 ((rd_T25 l0 x11_1).f2).length c133_2)).heap[gb134]? = some (.cells #[.int .i64 ((rd_T25 l0 x11_1).f0), .int .i64 ((rd_T25 l0 x11_1).f1), .slice A133_2 ((rd_T25 l0 x11_1).f2).length c133_2] 25 (0, 0))) := ⟨by (with_reducible repeat (first | refine z1d ?_ _ | refine z3d ?_ | refine z2d ?_ _)); refine blk_put (cs := #[.int .i64 ((rd_T25 l0 x11_1).f0), .int .i64 ((rd_T25 l0 x11_1).f1), .slice none 0 0]) ?_ 2 _ rfl; (with_reducible repeat (first | refine z1d ?_ _ | refine z3d ?_ | refine z2d ?_ _)); refine blk_put (cs := #[.int .i64 ((rd_T25 l0 x11_1).f0), .int .i64 0, .slice none 0 0]) ?_ 1 _ rfl; (with_reducible repeat (first | refine z1d ?_ _ | refine z3d ?_ | refine z2d ?_ _)); refine blk_put (cs := #[.int .i64 0, .int .i64 0, .slice none 0 0]) ?_ 0 _ rfl; (with_reducible repeat (first | refine z1d ?_ _ | refine z3d ?_ | refine z2d ?_ _)); exact BK134.out⟩
          have n1_ : Aside0 (Below w.heap.size w (((w22.setCell ⟨gb134, 0, none⟩ (.int .i64 ((rd_T25 l0 x11_1).f0))).setCell ⟨gb134, 1, none⟩ (.int .i64 ((rd_T25 l0 x11_1).f1))).setCell ⟨gb134, 2, none⟩ (.slice A133_2 ((rd_T25 l0 x11_1).f2).length c133_2))) := ⟨by repeat (first | (with_reducible first | exact HB.out | apply z4d | apply z5d | apply z6d | refine z7d ?_ GE134.out) | exact HB.out)⟩
          (try clear BK134)
          (try clear HB)
          generalize (((w22.setCell ⟨gb134, 0, none⟩ (.int .i64 ((rd_T25 l0 x11_1).f0))).setCell ⟨gb134, 1, none⟩ (.int .i64 ((rd_T25 l0 x11_1).f1))).setCell ⟨gb134, 2, none⟩ (.slice A133_2 ((rd_T25 l0 x11_1).f2).length c133_2)) = w24 at n0_ n1_ ⊢
          have BK134 := n0_
          have HB := n1_
          clear n0_ n1_
          have n0_ := z0d (z3d BK134.out)
          have n1_ := z0d (z6d HB.out)
          clear BK134
          clear HB
          have BK134 := n0_
          have HB := n1_
          clear n0_ n1_
          have p136 : 0 ≤ (0 : Int) := (by omega)
          have q136 : 0 < (l0.length : Int) := of_decide_eq_true (by first | (with_reducible assumption) | assumption)
          obtain ⟨ad136, A136_2, c136_2, e136, hx136_0, hx136_1, hx136_2, hl136_2, hi136_2⟩ := at_T25 HR0.out 0 p136 q136
          have hw136_2 := hx136_2
          (try rw [show ((0 : Int)).toNat = 0 from rfl] at hw136_2)
          (try rw [show 0 * 3 = 0 from rfl] at hw136_2)
          (try rw [Addr.add_zero'] at hw136_2)
          have hw136_1 := hx136_1
          (try rw [show ((0 : Int)).toNat = 0 from rfl] at hw136_1)
          (try rw [show 0 * 3 = 0 from rfl] at hw136_1)
          (try rw [Addr.add_zero'] at hw136_1)
          have hw136_0 := hx136_0
          (try rw [show ((0 : Int)).toNat = 0 from rfl] at hw136_0)
          (try rw [show 0 * 3 = 0 from rfl] at hw136_0)
          (try rw [Addr.add_zero'] at hw136_0)
          obtain rfl : ad133 = ad136 := (by injection e136)
          have qi136 : (0 < l0.length) = True := eq_true (by omega)
          (try rw [show ((0 : Int)).toNat = 0 from rfl] at hx136_0)
          (try rw [show 0 * 3 = 0 from rfl] at hx136_0)
          (try rw [Addr.add_zero'] at hx136_0)
          (try rw [show ((0 : Int)).toNat = 0 from rfl] at hx136_1)
          (try rw [show 0 * 3 = 0 from rfl] at hx136_1)
          (try rw [Addr.add_zero'] at hx136_1)
          (try rw [show ((0 : Int)).toNat = 0 from rfl] at hx136_2)
          (try rw [show 0 * 3 = 0 from rfl] at hx136_2)
          (try rw [Addr.add_zero'] at hx136_2)
          replace hx136_0 := (HB.out.cell (World.block_lt_of_cell? w _ hx136_0)).trans hx136_0
          replace hx136_1 := (HB.out.cell (World.block_lt_of_cell? w _ hx136_1)).trans hx136_1
          replace hx136_2 := (HB.out.cell (World.block_lt_of_cell? w _ hx136_2)).trans hx136_2
          have HR136_2 := z0d hi136_2
          have HC136_2 := z0d hl136_2
          clear hi136_2 hl136_2
          replace p136 := eq_true p136
          replace q136 := eq_true q136
          refine start_ (n := 21) (S := fun w' => w'.cell? ⟨gb134, 0, none⟩ = some (.int .i64 ((rd_T25 l0 x11_1).f0)) ∧ w'.cell? ⟨gb134, 1, none⟩ = some (.int .i64 ((rd_T25 l0 x11_1).f1)) ∧ w'.cell? ⟨gb134, 2, none⟩ = some (.slice A133_2 ((rd_T25 l0 x11_1).f2).length c133_2) ∧ w'.cell? ad133 = some (.int .i64 ((rd_T25 l0 0).f0)) ∧ w'.cell? ⟨ad133.block, ad133.off + 1, none⟩ = some (.int .i64 ((rd_T25 l0 0).f1)) ∧ w'.cell? ⟨ad133.block, ad133.off + 2, none⟩ = some (.slice A136_2 ((rd_T25 l0 0).f2).length c136_2)) (ds := []) (bsd_ 21 0) (by kernel_rfl) rfl rfl ⟨(x3d BK134.out 0).trans rfl, (x3d BK134.out 1).trans rfl, (x3d BK134.out 2).trans rfl, ((HB.out.cell (World.block_lt_of_cell? w _ hw136_0)).trans hw136_0), ((HB.out.cell (World.block_lt_of_cell? w _ hw136_1)).trans hw136_1), ((HB.out.cell (World.block_lt_of_cell? w _ hw136_2)).trans hw136_2)⟩ (fun hHeld => ?_); refine with_tabW spec_IsStack.tab6 spec_IsStack.bits6 (fun HT_ HW_ => ?_)
          generalize w24.drew = w25 at BK134 HB HR136_2 hx136_0 hx136_1 hx136_2 hHeld ⊢
          refine take_ (i := 0) (N := some 15) (v := ?_) (a' := ?_) (bsd_ 21 1) rfl rfl (take_ofW HT_.out HW_.out (by kernel_rfl)) (fun _ _ _ h => h) (Or.inl ⟨by rfl, ?_⟩) hHeld ?_ ?_
          rotate_left
          ·rintro w' ⟨s0, s1, s2, s3, s4, s5⟩
           go_simp
           with_reducible rfl
          rotate_left
          ·simp only [Act.put, s1d_, s2d_, s3d_, i64_w, i32_w]
           rfl
          refine one_ (i := 1) (N := some 16) (bsd_ 21 3) rfl rfl (one_of HT_.out (by kernel_rfl)) (by decide) (fun K hK => ?_)
          refine goes_ Try.func87 (by kernel_rfl) rfl #[.agg #[.int .i64 ((rd_T25 l0 x11_1).f0), .int .i64 ((rd_T25 l0 x11_1).f1), .slice A133_2 ((rd_T25 l0 x11_1).f2).length c133_2]] (by rfl) rfl rfl (by (try simp only [List.map_toArray, List.map_cons, List.map_nil]); first | done | rfl | (simp only [List.length_drop, List.length_take]; rfl)) ?_
          with_reducible refine (spec_IsPlate.calls k1 ((rd_T25 l0 x11_1).f0) ((rd_T25 l0 x11_1).f1) _ _ ((rd_T25 l0 x11_1).f2) true _ ?side1 ?side2 A7.out).mono ?_
          (case side1 => repeat (first | exact HR133_2.out | exact (Kd.C_below HR133_2.out HB.out) | (with_reducible refine Kd.C_alloc ?_ _) | (with_reducible refine Kd.C_drewN ?_ _) | (with_reducible refine Kd.C_drew ?_)))
          (case side2 => exact HC133_2.out)
          rintro e w26 ⟨rfl, hb⟩
          refine ⟨_, rfl, ?_⟩
          have n0_ := z0d (blk_below (g := gb134) (o := .cells #[.int .i64 ((rd_T25 l0 x11_1).f0), .int .i64 ((rd_T25 l0 x11_1).f1), .slice A133_2 ((rd_T25 l0 x11_1).f2).length c133_2] 25 (0, 0)) (by (with_reducible repeat (first | refine z1d ?_ _ | refine z3d ?_ | refine z2d ?_ _)); exact BK134.out) hb)
          have n1_ := z0d (below_step (by repeat (first | (with_reducible first | exact HB.out | apply z4d | apply z5d | apply z6d | refine z7d ?_ GE134.out) | exact HB.out)) hb)
          clear BK134
          clear HB
          have BK134 := n0_
          have HB := n1_
          clear n0_ n1_
          (try clear hb)
          (try clear hb2)
          (try clear hk)
          (try clear hi)
          refine hK.out _ _ ⟨(x3d BK134.out 0).trans rfl, (x3d BK134.out 1).trans rfl, (x3d BK134.out 2).trans rfl, ((HB.out.cell (World.block_lt_of_cell? w _ hw136_0)).trans hw136_0), ((HB.out.cell (World.block_lt_of_cell? w _ hw136_1)).trans hw136_1), ((HB.out.cell (World.block_lt_of_cell? w _ hw136_2)).trans hw136_2)⟩ (fun hHeld => ?_)
          clear hK K
          refine norm_ (a' := ?_) ?_ ?_
          rotate_left
          ·show Act.put _ (some 16) _ = _
           simp only [Act.put, s1d_, s2d_, s3d_, i64_w, i32_w]
           rfl
          refine pure_ (i := 2) (N := some 17) (v := ?_) (a' := ?_) (bsd_ 21 7) rfl rfl (any_of HT_.out (by kernel_rfl)) (fun _ _ _ h => h) (Or.inl ⟨by rfl, ?_⟩) ?_ ?_
          rotate_left
          ·intro w'
           go_simp
           with_reducible rfl
          rotate_left
          ·simp only [Act.put, s1d_, s2d_, s3d_, i64_w, i32_w]
           rfl
          refine pure_ (i := 3) (N := some 18) (v := ?_) (a' := ?_) (bsd_ 21 15) rfl rfl (any_of HT_.out (by kernel_rfl)) (fun _ _ _ h => h) (Or.inl ⟨by rfl, ?_⟩) ?_ ?_
          rotate_left
          ·intro w'
           go_simp
           with_reducible rfl
          rotate_left
          ·simp only [Act.put, s1d_, s2d_, s3d_, i64_w, i32_w]
           rfl
          refine pure_ (i := 4) (N := some 19) (v := ?_) (a' := ?_) (bsd_ 21 31) rfl rfl (any_of HT_.out (by kernel_rfl)) (fun _ _ _ h => h) (Or.inl ⟨by rfl, ?_⟩) ?_ ?_
          rotate_left
          ·intro w'
           go_simp
           with_reducible rfl
          rotate_left
          ·simp only [Act.put, s1d_, s2d_, s3d_, i64_w, i32_w]
           rfl
          refine pure_ (i := 6) (N := some 21) (v := ?_) (a' := ?_) (bsd_ 21 95) rfl rfl (any_of HT_.out (by kernel_rfl)) (fun _ _ _ h => h) (Or.inl ⟨by rfl, ?_⟩) ?_ ?_
          rotate_left
          ·intro w'
           go_simp
           with_reducible rfl
          rotate_left
          ·simp only [Act.put, s1d_, s2d_, s3d_, i64_w, i32_w]
           rfl
          refine pure_ (i := 7) (N := some 22) (v := ?_) (a' := ?_) (bsd_ 21 223) rfl rfl (any_of HT_.out (by kernel_rfl)) (fun _ _ _ h => h) (Or.inl ⟨by rfl, ?_⟩) ?_ ?_
          rotate_left
          ·intro w'
           go_simp
           with_reducible rfl
          rotate_left
          ·simp only [Act.put, s1d_, s2d_, s3d_, i64_w, i32_w]
           rfl
          refine pure_ (i := 8) (N := some 23) (v := ?_) (a' := ?_) (bsd_ 21 479) rfl rfl (any_of HT_.out (by kernel_rfl)) (fun _ _ _ h => h) (Or.inl ⟨by rfl, ?_⟩) ?_ ?_
          rotate_left
          ·intro w'
           go_simp
           with_reducible rfl
          rotate_left
          ·simp only [Act.put, s1d_, s2d_, s3d_, i64_w, i32_w]
           rfl
          refine take_ (i := 5) (N := some 20) (v := ?_) (a' := ?_) (bsd_ 21 511) rfl rfl (take_ofW HT_.out HW_.out (by kernel_rfl)) (fun _ _ _ h => h) (Or.inl ⟨by rfl, ?_⟩) hHeld ?_ ?_
          rotate_left
          ·rintro w' ⟨s0, s1, s2, s3, s4, s5⟩
           go_simp
           with_reducible rfl
          rotate_left
          ·simp only [Act.put, s1d_, s2d_, s3d_, i64_w, i32_w]
           rfl
          refine take_ (i := 9) (N := some 24) (v := ?_) (a' := ?_) (bsd_ 21 1023) rfl rfl (take_ofW HT_.out HW_.out (by kernel_rfl)) (fun _ _ _ h => h) (Or.inl ⟨by rfl, ?_⟩) hHeld ?_ ?_
          rotate_left
          ·rintro w' ⟨s0, s1, s2, s3, s4, s5⟩
           go_simp
           with_reducible rfl
          rotate_left
          ·simp only [Act.put, s1d_, s2d_, s3d_, i64_w, i32_w]
           rfl
          refine pure_ (i := 10) (N := some 25) (v := ?_) (a' := ?_) (bsd_ 21 2047) rfl rfl (any_of HT_.out (by kernel_rfl)) (fun _ _ _ h => h) (Or.inl ⟨by rfl, ?_⟩) ?_ ?_
          rotate_left
          ·intro w'
           go_simp
           with_reducible rfl
          rotate_left
          ·simp only [Act.put, s1d_, s2d_, s3d_, i64_w, i32_w]
           rfl
          refine pure_ (i := 11) (N := some 26) (v := ?_) (a' := ?_) (bsd_ 21 4095) rfl rfl (any_of HT_.out (by kernel_rfl)) (fun _ _ _ h => h) (Or.inl ⟨by rfl, ?_⟩) ?_ ?_
          rotate_left
          ·intro w'
           go_simp
           with_reducible rfl
          rotate_left
          ·simp only [Act.put, s1d_, s2d_, s3d_, i64_w, i32_w]
           rfl
          refine pure_ (i := 12) (N := some 27) (v := ?_) (a' := ?_) (bsd_ 21 8191) rfl rfl (any_of HT_.out (by kernel_rfl)) (fun _ _ _ h => h) (Or.inl ⟨by rfl, ?_⟩) ?_ ?_
          rotate_left
          ·intro w'
           go_simp
           with_reducible rfl
          rotate_left
          ·simp only [Act.put, s1d_, s2d_, s3d_, i64_w, i32_w]
           rfl
          refine pure_ (i := 13) (N := some 28) (v := undef) (a' := ?_) (bsd_ 21 16383) rfl rfl (any_of HT_.out (by kernel_rfl)) (fun _ _ _ h => h) (Or.inr ⟨by rfl, rfl⟩) ?_ ?_
          rotate_left
          ·simp only [Act.put, s1d_, s2d_, s3d_, i64_w, i32_w]
           rfl
          refine pure_ (i := 14) (N := some 29) (v := undef) (a' := ?_) (bsd_ 21 32767) rfl rfl (any_of HT_.out (by kernel_rfl)) (fun _ _ _ h => h) (Or.inr ⟨by rfl, rfl⟩) ?_ ?_
          rotate_left
          ·simp only [Act.put, s1d_, s2d_, s3d_, i64_w, i32_w]
           rfl
          refine pure_ (i := 15) (N := some 30) (v := undef) (a' := ?_) (bsd_ 21 65535) rfl rfl (any_of HT_.out (by kernel_rfl)) (fun _ _ _ h => h) (Or.inr ⟨by rfl, rfl⟩) ?_ ?_
          rotate_left
          ·simp only [Act.put, s1d_, s2d_, s3d_, i64_w, i32_w]
           rfl
          refine pure_ (i := 16) (N := some 31) (v := undef) (a' := ?_) (bsd_ 21 131071) rfl rfl (any_of HT_.out (by kernel_rfl)) (fun _ _ _ h => h) (Or.inr ⟨by rfl, rfl⟩) ?_ ?_
          rotate_left
          ·simp only [Act.put, s1d_, s2d_, s3d_, i64_w, i32_w]
           rfl
          refine pure_ (i := 17) (N := some 32) (v := undef) (a' := ?_) (bsd_ 21 262143) rfl rfl (any_of HT_.out (by kernel_rfl)) (fun _ _ _ h => h) (Or.inr ⟨by rfl, rfl⟩) ?_ ?_
          rotate_left
          ·simp only [Act.put, s1d_, s2d_, s3d_, i64_w, i32_w]
           rfl
          refine pure_ (i := 18) (N := some 33) (v := undef) (a' := ?_) (bsd_ 21 524287) rfl rfl (any_of HT_.out (by kernel_rfl)) (fun _ _ _ h => h) (Or.inr ⟨by rfl, rfl⟩) ?_ ?_
          rotate_left
          ·simp only [Act.put, s1d_, s2d_, s3d_, i64_w, i32_w]
           rfl
          refine pure_ (i := 19) (N := some 34) (v := undef) (a' := ?_) (bsd_ 21 1048575) rfl rfl (any_of HT_.out (by kernel_rfl)) (fun _ _ _ h => h) (Or.inr ⟨by rfl, rfl⟩) ?_ ?_
          rotate_left
          ·simp only [Act.put, s1d_, s2d_, s3d_, i64_w, i32_w]
           rfl
          refine pure_ (i := 20) (N := some 35) (v := ?_) (a' := ?_) (bsd_ 21 2097151) rfl rfl (any_of HT_.out (by kernel_rfl)) (fun _ _ _ h => h) (Or.inl ⟨by rfl, ?_⟩) ?_ ?_
          rotate_left
          ·intro w'
           go_simp
           with_reducible rfl
          rotate_left
          ·simp only [Act.put, s1d_, s2d_, s3d_, i64_w, i32_w]
           rfl
          refine done_ (done_of HT_.out (by kernel_rfl)) ?_
          try go_wp2
          go_ret
          exact ⟨by first | rfl | (simp [errW_none, errW_some] <;> rfl) | (simp [*, errW_none, errW_some] <;> rfl), by repeat (first | (with_reducible first | exact HB.out | apply z4d | apply z5d | apply z6d | refine z7d ?_ GE134.out) | exact HB.out)⟩
        ·rw [if_neg c9] at H
         exact absurd H (by simp)
       ·replace c8 := Bool.eq_false_iff.mpr c8
        subst c8
        have H1 : (some false) = some r := by rw [if_neg (show ¬ (false = true) by decide)] at H; first | exact H | (simp only [if_true] at H ⊢; exact H)
        clear H
        have H := H1
        clear H1
        obtain rfl := Option.some.inj H
        have p133 : 0 ≤ (x11_1 : Int) := of_decide_eq_true (by first | (with_reducible assumption) | assumption)
        have q133 : x11_1 < (l0.length : Int) := of_decide_eq_true (by first | (with_reducible assumption) | assumption)
        obtain ⟨ad133, A133_2, c133_2, e133, hx133_0, hx133_1, hx133_2, hl133_2, hi133_2⟩ := at_T25 HR0.out x11_1 p133 q133
        cases e133
        replace hx133_0 := (HB.out.cell (World.block_lt_of_cell? w _ hx133_0)).trans hx133_0
        replace hx133_1 := (HB.out.cell (World.block_lt_of_cell? w _ hx133_1)).trans hx133_1
        replace hx133_2 := (HB.out.cell (World.block_lt_of_cell? w _ hx133_2)).trans hx133_2
        have HR133_2 := z0d hi133_2
        have HC133_2 := z0d hl133_2
        clear hi133_2 hl133_2
        replace p133 := eq_true p133
        replace q133 := eq_true q133
        try go_wp2_with (first | ((with_reducible refine gate_dst (N := 4) rfl ?_); refine box_event ?hg (N := 4) ?hd (cs := #[.int .i64 0, .int .i64 0, .slice none 0 0]) (t := 25) ?hr ?_; (case hd => rfl); (case hg => rfl); (case hr => first | (go_simp; done) | (go_simp; rfl)); intro gb134 hg w27 hbox hb; have n0_ := z0d (below_step (by repeat (first | (with_reducible first | exact HB.out | apply z4d | apply z5d | apply z6d) | exact HB.out)) hb); have n1_ := z0d (hbox); have n2_ := z0d ((by rw [hg]; exact (below_size (by repeat (first | (with_reducible first | exact HB.out | apply z4d | apply z5d | apply z6d) | exact HB.out))) : w.heap.size ≤ gb134)); have n3_ := z0d ((by rw [hg]; exact (below_size (by repeat (first | (with_reducible first | exact HB.out | apply z4d | apply z5d | apply z6d) | exact HB.out))) : w.heap.size ≤ gb134)); clear HB; have HB := n0_; have BK134 := n1_; have GW134 := n2_; have GE134 := n3_; clear n0_ n1_ n2_ n3_; clear hb hbox hg; have hcz28_0 : w27.cell? ⟨gb134, 0, none⟩ = some (.int .i64 0) := (x3d BK134.out 0).trans rfl; have hcz28_1 : w27.cell? ⟨gb134, 1, none⟩ = some (.int .i64 0) := (x3d BK134.out 1).trans rfl; have hcz28_2 : w27.cell? ⟨gb134, 2, none⟩ = some (.slice none 0 0) := (x3d BK134.out 2).trans rfl; have hfz28_0 := x2d BK134.out 0; have hfz28_1 := x2d BK134.out 1; have hfz28_2 := x2d BK134.out 2))
        have n0_ : Aside0 ((((w27.setCell ⟨gb134, 0, none⟩ (.int .i64 ((rd_T25 l0 x11_1).f0))).setCell ⟨gb134, 1, none⟩ (.int .i64 ((rd_T25 l0 x11_1).f1))).setCell ⟨gb134, 2, none⟩ (.slice A133_2 ((rd_T25 l0 x11_1).f2).length c133_2)).heap[gb134]? = some (.cells #[.int .i64 ((rd_T25 l0 x11_1).f0), .int .i64 ((rd_T25 l0 x11_1).f1), .slice A133_2 ((rd_T25 l0 x11_1).f2).length c133_2] 25 (0, 0))) := ⟨by (with_reducible repeat (first | refine z1d ?_ _ | refine z3d ?_ | refine z2d ?_ _)); refine blk_put (cs := #[.int .i64 ((rd_T25 l0 x11_1).f0), .int .i64 ((rd_T25 l0 x11_1).f1), .slice none 0 0]) ?_ 2 _ rfl; (with_reducible repeat (first | refine z1d ?_ _ | refine z3d ?_ | refine z2d ?_ _)); refine blk_put (cs := #[.int .i64 ((rd_T25 l0 x11_1).f0), .int .i64 0, .slice none 0 0]) ?_ 1 _ rfl; (with_reducible repeat (first | refine z1d ?_ _ | refine z3d ?_ | refine z2d ?_ _)); refine blk_put (cs := #[.int .i64 0, .int .i64 0, .slice none 0 0]) ?_ 0 _ rfl; (with_reducible repeat (first | refine z1d ?_ _ | refine z3d ?_ | refine z2d ?_ _)); exact BK134.out⟩
        have n1_ : Aside0 (Below w.heap.size w (((w27.setCell ⟨gb134, 0, none⟩ (.int .i64 ((rd_T25 l0 x11_1).f0))).setCell ⟨gb134, 1, none⟩ (.int .i64 ((rd_T25 l0 x11_1).f1))).setCell ⟨gb134, 2, none⟩ (.slice A133_2 ((rd_T25 l0 x11_1).f2).length c133_2))) := ⟨by repeat (first | (with_reducible first | exact HB.out | apply z4d | apply z5d | apply z6d | refine z7d ?_ GE134.out) | exact HB.out)⟩
        (try clear BK134)
        (try clear HB)
        generalize (((w27.setCell ⟨gb134, 0, none⟩ (.int .i64 ((rd_T25 l0 x11_1).f0))).setCell ⟨gb134, 1, none⟩ (.int .i64 ((rd_T25 l0 x11_1).f1))).setCell ⟨gb134, 2, none⟩ (.slice A133_2 ((rd_T25 l0 x11_1).f2).length c133_2)) = w29 at n0_ n1_ ⊢
        have BK134 := n0_
        have HB := n1_
        clear n0_ n1_
        have n0_ := z0d (z3d BK134.out)
        have n1_ := z0d (z6d HB.out)
        clear BK134
        clear HB
        have BK134 := n0_
        have HB := n1_
        clear n0_ n1_
        refine start_ (n := 21) (S := fun w' => w'.cell? ⟨gb134, 0, none⟩ = some (.int .i64 ((rd_T25 l0 x11_1).f0)) ∧ w'.cell? ⟨gb134, 1, none⟩ = some (.int .i64 ((rd_T25 l0 x11_1).f1)) ∧ w'.cell? ⟨gb134, 2, none⟩ = some (.slice A133_2 ((rd_T25 l0 x11_1).f2).length c133_2)) (ds := []) (bsd_ 21 0) (by kernel_rfl) rfl rfl ⟨(x3d BK134.out 0).trans rfl, (x3d BK134.out 1).trans rfl, (x3d BK134.out 2).trans rfl⟩ (fun hHeld => ?_); refine with_tabW spec_IsStack.tab6 spec_IsStack.bits6 (fun HT_ HW_ => ?_)
        generalize w29.drew = w30 at BK134 HB hHeld ⊢
        refine take_ (i := 0) (N := some 15) (v := ?_) (a' := ?_) (bsd_ 21 1) rfl rfl (take_ofW HT_.out HW_.out (by kernel_rfl)) (fun _ _ _ h => h) (Or.inl ⟨by rfl, ?_⟩) hHeld ?_ ?_
        rotate_left
        ·rintro w' ⟨s0, s1, s2⟩
         go_simp
         with_reducible rfl
        rotate_left
        ·simp only [Act.put, s1d_, s2d_, s3d_, i64_w, i32_w]
         rfl
        refine one_ (i := 1) (N := some 16) (bsd_ 21 3) rfl rfl (one_of HT_.out (by kernel_rfl)) (by decide) (fun K hK => ?_)
        refine goes_ Try.func87 (by kernel_rfl) rfl #[.agg #[.int .i64 ((rd_T25 l0 x11_1).f0), .int .i64 ((rd_T25 l0 x11_1).f1), .slice A133_2 ((rd_T25 l0 x11_1).f2).length c133_2]] (by rfl) rfl rfl (by (try simp only [List.map_toArray, List.map_cons, List.map_nil]); first | done | rfl | (simp only [List.length_drop, List.length_take]; rfl)) ?_
        with_reducible refine (spec_IsPlate.calls k1 ((rd_T25 l0 x11_1).f0) ((rd_T25 l0 x11_1).f1) _ _ ((rd_T25 l0 x11_1).f2) false _ ?side1 ?side2 A7.out).mono ?_
        (case side1 => repeat (first | exact HR133_2.out | exact (Kd.C_below HR133_2.out HB.out) | (with_reducible refine Kd.C_alloc ?_ _) | (with_reducible refine Kd.C_drewN ?_ _) | (with_reducible refine Kd.C_drew ?_)))
        (case side2 => exact HC133_2.out)
        rintro e w31 ⟨rfl, hb⟩
        refine ⟨_, rfl, ?_⟩
        have n0_ := z0d (blk_below (g := gb134) (o := .cells #[.int .i64 ((rd_T25 l0 x11_1).f0), .int .i64 ((rd_T25 l0 x11_1).f1), .slice A133_2 ((rd_T25 l0 x11_1).f2).length c133_2] 25 (0, 0)) (by (with_reducible repeat (first | refine z1d ?_ _ | refine z3d ?_ | refine z2d ?_ _)); exact BK134.out) hb)
        have n1_ := z0d (below_step (by repeat (first | (with_reducible first | exact HB.out | apply z4d | apply z5d | apply z6d | refine z7d ?_ GE134.out) | exact HB.out)) hb)
        clear BK134
        clear HB
        have BK134 := n0_
        have HB := n1_
        clear n0_ n1_
        (try clear hb)
        (try clear hb2)
        (try clear hk)
        (try clear hi)
        refine hK.out _ _ ⟨(x3d BK134.out 0).trans rfl, (x3d BK134.out 1).trans rfl, (x3d BK134.out 2).trans rfl⟩ (fun hHeld => ?_)
        clear hK K
        refine norm_ (a' := ?_) ?_ ?_
        rotate_left
        ·show Act.put _ (some 16) _ = _
         simp only [Act.put, s1d_, s2d_, s3d_, i64_w, i32_w]
         rfl
        refine pure_ (i := 2) (N := some 17) (v := ?_) (a' := ?_) (bsd_ 21 7) rfl rfl (any_of HT_.out (by kernel_rfl)) (fun _ _ _ h => h) (Or.inl ⟨by rfl, ?_⟩) ?_ ?_
        rotate_left
        ·intro w'
         go_simp
         with_reducible rfl
        rotate_left
        ·simp only [Act.put, s1d_, s2d_, s3d_, i64_w, i32_w]
         rfl
        refine pure_ (i := 3) (N := some 18) (v := ?_) (a' := ?_) (bsd_ 21 15) rfl rfl (any_of HT_.out (by kernel_rfl)) (fun _ _ _ h => h) (Or.inl ⟨by rfl, ?_⟩) ?_ ?_
        rotate_left
        ·intro w'
         go_simp
         with_reducible rfl
        rotate_left
        ·simp only [Act.put, s1d_, s2d_, s3d_, i64_w, i32_w]
         rfl
        refine pure_ (i := 4) (N := some 19) (v := undef) (a' := ?_) (bsd_ 21 31) rfl rfl (any_of HT_.out (by kernel_rfl)) (fun _ _ _ h => h) (Or.inr ⟨by rfl, rfl⟩) ?_ ?_
        rotate_left
        ·simp only [Act.put, s1d_, s2d_, s3d_, i64_w, i32_w]
         rfl
        refine pure_ (i := 5) (N := some 20) (v := undef) (a' := ?_) (bsd_ 21 63) rfl rfl (any_of HT_.out (by kernel_rfl)) (fun _ _ _ h => h) (Or.inr ⟨by rfl, rfl⟩) ?_ ?_
        rotate_left
        ·simp only [Act.put, s1d_, s2d_, s3d_, i64_w, i32_w]
         rfl
        refine pure_ (i := 6) (N := some 21) (v := undef) (a' := ?_) (bsd_ 21 127) rfl rfl (any_of HT_.out (by kernel_rfl)) (fun _ _ _ h => h) (Or.inr ⟨by rfl, rfl⟩) ?_ ?_
        rotate_left
        ·simp only [Act.put, s1d_, s2d_, s3d_, i64_w, i32_w]
         rfl
        refine pure_ (i := 7) (N := some 22) (v := undef) (a' := ?_) (bsd_ 21 255) rfl rfl (any_of HT_.out (by kernel_rfl)) (fun _ _ _ h => h) (Or.inr ⟨by rfl, rfl⟩) ?_ ?_
        rotate_left
        ·simp only [Act.put, s1d_, s2d_, s3d_, i64_w, i32_w]
         rfl
        refine pure_ (i := 8) (N := some 23) (v := undef) (a' := ?_) (bsd_ 21 511) rfl rfl (any_of HT_.out (by kernel_rfl)) (fun _ _ _ h => h) (Or.inr ⟨by rfl, rfl⟩) ?_ ?_
        rotate_left
        ·simp only [Act.put, s1d_, s2d_, s3d_, i64_w, i32_w]
         rfl
        refine pure_ (i := 9) (N := some 24) (v := undef) (a' := ?_) (bsd_ 21 1023) rfl rfl (any_of HT_.out (by kernel_rfl)) (fun _ _ _ h => h) (Or.inr ⟨by rfl, rfl⟩) ?_ ?_
        rotate_left
        ·simp only [Act.put, s1d_, s2d_, s3d_, i64_w, i32_w]
         rfl
        refine pure_ (i := 10) (N := some 25) (v := undef) (a' := ?_) (bsd_ 21 2047) rfl rfl (any_of HT_.out (by kernel_rfl)) (fun _ _ _ h => h) (Or.inr ⟨by rfl, rfl⟩) ?_ ?_
        rotate_left
        ·simp only [Act.put, s1d_, s2d_, s3d_, i64_w, i32_w]
         rfl
        refine pure_ (i := 11) (N := some 26) (v := ?_) (a' := ?_) (bsd_ 21 4095) rfl rfl (any_of HT_.out (by kernel_rfl)) (fun _ _ _ h => h) (Or.inl ⟨by rfl, ?_⟩) ?_ ?_
        rotate_left
        ·intro w'
         go_simp
         with_reducible rfl
        rotate_left
        ·simp only [Act.put, s1d_, s2d_, s3d_, i64_w, i32_w]
         rfl
        refine pure_ (i := 12) (N := some 27) (v := ?_) (a' := ?_) (bsd_ 21 8191) rfl rfl (any_of HT_.out (by kernel_rfl)) (fun _ _ _ h => h) (Or.inl ⟨by rfl, ?_⟩) ?_ ?_
        rotate_left
        ·intro w'
         go_simp
         with_reducible rfl
        rotate_left
        ·simp only [Act.put, s1d_, s2d_, s3d_, i64_w, i32_w]
         rfl
        refine pure_ (i := 13) (N := some 28) (v := undef) (a' := ?_) (bsd_ 21 16383) rfl rfl (any_of HT_.out (by kernel_rfl)) (fun _ _ _ h => h) (Or.inr ⟨by rfl, rfl⟩) ?_ ?_
        rotate_left
        ·simp only [Act.put, s1d_, s2d_, s3d_, i64_w, i32_w]
         rfl
        refine pure_ (i := 14) (N := some 29) (v := undef) (a' := ?_) (bsd_ 21 32767) rfl rfl (any_of HT_.out (by kernel_rfl)) (fun _ _ _ h => h) (Or.inr ⟨by rfl, rfl⟩) ?_ ?_
        rotate_left
        ·simp only [Act.put, s1d_, s2d_, s3d_, i64_w, i32_w]
         rfl
        refine pure_ (i := 15) (N := some 30) (v := undef) (a' := ?_) (bsd_ 21 65535) rfl rfl (any_of HT_.out (by kernel_rfl)) (fun _ _ _ h => h) (Or.inr ⟨by rfl, rfl⟩) ?_ ?_
        rotate_left
        ·simp only [Act.put, s1d_, s2d_, s3d_, i64_w, i32_w]
         rfl
        refine pure_ (i := 16) (N := some 31) (v := undef) (a' := ?_) (bsd_ 21 131071) rfl rfl (any_of HT_.out (by kernel_rfl)) (fun _ _ _ h => h) (Or.inr ⟨by rfl, rfl⟩) ?_ ?_
        rotate_left
        ·simp only [Act.put, s1d_, s2d_, s3d_, i64_w, i32_w]
         rfl
        refine pure_ (i := 17) (N := some 32) (v := undef) (a' := ?_) (bsd_ 21 262143) rfl rfl (any_of HT_.out (by kernel_rfl)) (fun _ _ _ h => h) (Or.inr ⟨by rfl, rfl⟩) ?_ ?_
        rotate_left
        ·simp only [Act.put, s1d_, s2d_, s3d_, i64_w, i32_w]
         rfl
        refine pure_ (i := 18) (N := some 33) (v := undef) (a' := ?_) (bsd_ 21 524287) rfl rfl (any_of HT_.out (by kernel_rfl)) (fun _ _ _ h => h) (Or.inr ⟨by rfl, rfl⟩) ?_ ?_
        rotate_left
        ·simp only [Act.put, s1d_, s2d_, s3d_, i64_w, i32_w]
         rfl
        refine pure_ (i := 19) (N := some 34) (v := undef) (a' := ?_) (bsd_ 21 1048575) rfl rfl (any_of HT_.out (by kernel_rfl)) (fun _ _ _ h => h) (Or.inr ⟨by rfl, rfl⟩) ?_ ?_
        rotate_left
        ·simp only [Act.put, s1d_, s2d_, s3d_, i64_w, i32_w]
         rfl
        refine pure_ (i := 20) (N := some 35) (v := ?_) (a' := ?_) (bsd_ 21 2097151) rfl rfl (any_of HT_.out (by kernel_rfl)) (fun _ _ _ h => h) (Or.inl ⟨by rfl, ?_⟩) ?_ ?_
        rotate_left
        ·intro w'
         go_simp
         with_reducible rfl
        rotate_left
        ·simp only [Act.put, s1d_, s2d_, s3d_, i64_w, i32_w]
         rfl
        refine done_ (done_of HT_.out (by kernel_rfl)) ?_
        try go_wp2
        go_ret
        exact ⟨by first | rfl | (simp [errW_none, errW_some] <;> rfl) | (simp [*, errW_none, errW_some] <;> rfl), by repeat (first | (with_reducible first | exact HB.out | apply z4d | apply z5d | apply z6d | refine z7d ?_ GE134.out) | exact HB.out)⟩
      ·rw [if_neg c6] at H
       exact absurd H (by simp)
     ·rw [if_neg c5] at H
      exact absurd H (by simp)
    ·rw [if_neg c4] at H
     have c4b0 : decide (x11_1 < (l0.length : Int)) = false := decide_eq_false c4
     clear c4
     obtain rfl := Option.some.inj H
     go_wp2
     go_ret
     exact ⟨by first | rfl | (simp [errW_none, errW_some] <;> rfl) | (simp [*, errW_none, errW_some] <;> rfl), by repeat (first | (with_reducible first | exact HB.out | apply z4d | apply z5d | apply z6d) | exact HB.out)⟩
 ·replace c3 := Bool.eq_false_iff.mpr c3
  subst c3
  have H1 : (some false) = some r := by rw [if_neg (show ¬ (false = true) by decide)] at H; first | exact H | (simp only [if_true] at H ⊢; exact H)
  clear H
  have H := H1
  clear H1
  obtain rfl := Option.some.inj H
  go_enter Try.func91, Try.ntmps91
  go_wp2_with (first | ((with_reducible refine gate_callee (f := 72) rfl ?_); refine goesL_ (some 7) rfl rfl Try.func72 (by kernel_rfl) rfl #[.int .i64 (l0.length : Int), .int .i64 1, .int .i64 4] rfl (by (try simp only [List.map_toArray, List.map_cons, List.map_nil]); first | done | rfl | (simp only [List.length_drop, List.length_take]; rfl)) ?_; (with_reducible refine (spec_l1In.calls (l0.length : Int) 1 4 false _ A2.out).mono ?_); rintro e w' ⟨rfl, ⟨nd, rfl⟩⟩; refine ⟨_, rfl, ?_⟩))
  go_ret
  exact ⟨by first | rfl | (simp [errW_none, errW_some] <;> rfl) | (simp [*, errW_none, errW_some] <;> rfl), by repeat (first | (with_reducible first | exact HB.out | apply z4d | apply z5d | apply z6d) | exact HB.out)⟩

end Go.Proofs.Ytheihidfbalioaa.PFnExactDeskOk
