/- Machine side of laws FnExactDeskOk: written for this claim by the kit's print program under this session's wip/tools/mp_setup.py (with contracts of the session's own, wip/ext). -/
import Derived.Test.YtheihidfbalioaaPFnExactDeskOkx0
import Derived.Test.YtheihidfbalioaaPFnExactDeskOkx5
namespace Go.Proofs.Ytheihidfbalioaa.PFnExactDeskOk
open Go.RowKit Go.Proofs.YtheihidfbalioaaW.PrintWords Go.Proofs.YtheihidfbalioaaW.PrintLast Go.Proofs.YtheihidfbalioaaW.PrintMore
attribute [local go_sem] max2_int min2_int max_two min_two max_three min_three max_four min_four   -- for this text's walks alone
set_option linter.unusedVariables false
set_option linter.unusedSimpArgs false
-- squeezed: words under short names
set_option linter.defProp false in
def z0g := @Aside0.mk
set_option linter.defProp false in
def z1g := @blk_drewN
set_option linter.defProp false in
def z2g := @blk_alloc
set_option linter.defProp false in
def z3g := @blk_drew
set_option linter.defProp false in
def z4g := @below_alloc
set_option linter.defProp false in
def z5g := @pw_below_drewN
set_option linter.defProp false in
def z6g := @below_drew1
set_option linter.defProp false in
def z7g := @below_set
set_option linter.defProp false in
def x2g := @blk_frozen
set_option linter.defProp false in
def x3g := @blk_cell
def bsg_ (n m : Nat) : Array Bool := ((List.range n).map fun i => m.testBit i).toArray
theorem s1g_ {α : Type} (l : List α) (i : Nat) (a : α) : l.toArray.setIfInBounds i a = (l.set i a).toArray := List.setIfInBounds_toArray l i a
theorem s2g_ {α : Type} (a b : α) (l : List α) : (a :: l).set 0 b = b :: l := rfl
theorem s3g_ {α : Type} (a b : α) (n : Nat) (l : List α) : (a :: l).set (n + 1) b = a :: l.set n b := rfl

/-! ### impl_IsStack: function 37 -/
mutual
def impl_IsStack.j0 : Nat → List (S25) → Bool → Option (Bool)
 | 0, _, _ => none
 | k + 1, x0, x12 => if x12 = true then (some false) else (impl_IsStack.l0 k x0 x0 (x0.length : Int) 0)
def impl_IsStack.l0 : Nat → List (S25) → List (S25) → Int → Int → Option (Bool)
 | 0, _, _, _, _ => none
 | k + 1, x0, x13, x14, x15 => if x15 < x14 then (if 0 ≤ x15 then (if x15 < (x13.length : Int) then ((impl_IsPlate.f ((rd_T25 x13 x15).f0) ((rd_T25 x13 x15).f1) ((rd_T25 x13 x15).f2)).bind fun t199 => (if t199 = true then (if 0 < (x0.length : Int) then ((impl_alike.f ((rd_T25 x13 x15).f0) ((rd_T25 x13 x15).f1) ((rd_T25 x13 x15).f2) ((rd_T25 x0 0).f0) ((rd_T25 x0 0).f1) ((rd_T25 x0 0).f2)).bind fun t201 => (if t201 = true then (impl_IsStack.l0 k x0 x13 x14 (wrap64 (x15 + 1))) else (some false))) else (none)) else (some false))) else (none)) else (none)) else (some true)
end
def impl_IsStack.f (k : Nat) (l0 : List (S25)) : Option (Bool) := if (l0.length : Int) < 1 then (impl_IsStack.j0 k l0 true) else (impl_IsStack.j0 k l0 (decide ((l0.length : Int) > 4)))
theorem impl_IsStack.mono_l : ∀ k, (∀ y0 y1, LeO (impl_IsStack.j0 k y0 y1) (impl_IsStack.j0 (k + 1) y0 y1)) ∧ (∀ y0 y1 y2 y3, LeO (impl_IsStack.l0 k y0 y1 y2 y3) (impl_IsStack.l0 (k + 1) y0 y1 y2 y3))
 | 0 => ⟨fun _ _ r h => by simp [impl_IsStack.j0] at h, fun _ _ _ _ r h => by simp [impl_IsStack.l0] at h⟩
 | k + 1 => by
  obtain ⟨ih0, ih1⟩ := impl_IsStack.mono_l k
  refine ⟨?_, ?_⟩
  ·intro y0 y1
   unfold impl_IsStack.j0
   repeat' first
   | (with_reducible exact ih0 _ _)
   | (with_reducible exact ih1 _ _ _ _)
   | (with_reducible exact LeO.refl _)
   | (with_reducible exact LeO.none _)
   | (with_reducible refine LeO.ite ?_ ?_)
   | (with_reducible refine LeO.bind ?_ (fun _ => ?_))
   | exact ih0 _ _
   | exact ih1 _ _ _ _
   | exact LeO.none _
   | refine LeO.ite ?_ ?_
   | refine LeO.bind ?_ (fun _ => ?_)
  ·intro y0 y1 y2 y3
   unfold impl_IsStack.l0
   repeat' first
   | (with_reducible exact ih0 _ _)
   | (with_reducible exact ih1 _ _ _ _)
   | (with_reducible exact LeO.refl _)
   | (with_reducible exact LeO.none _)
   | (with_reducible refine LeO.ite ?_ ?_)
   | (with_reducible refine LeO.bind ?_ (fun _ => ?_))
   | exact ih0 _ _
   | exact ih1 _ _ _ _
   | exact LeO.none _
   | refine LeO.ite ?_ ?_
   | refine LeO.bind ?_ (fun _ => ?_)
theorem impl_IsStack.mono : ∀ a0 k, LeO (impl_IsStack.f k a0) (impl_IsStack.f (k + 1) a0) := by
 intro a0 k
 obtain ⟨ih0, ih1⟩ := impl_IsStack.mono_l k
 unfold impl_IsStack.f
 repeat' first
   | (with_reducible exact ih0 _ _)
   | (with_reducible exact ih1 _ _ _ _)
   | (with_reducible exact LeO.refl _)
   | (with_reducible exact LeO.none _)
   | (with_reducible refine LeO.ite ?_ ?_)
   | (with_reducible refine LeO.bind ?_ (fun _ => ?_))
   | exact ih0 _ _
   | exact ih1 _ _ _ _
   | exact LeO.none _
   | refine LeO.ite ?_ ?_
   | refine LeO.bind ?_ (fun _ => ?_)
def impl_IsStack.T6 : Bool × List (List Nat × List Nat) := (true, [([], []), ([0], [0]), ([1], [1]), ([2, 1], [2]), ([3], [3]), ([3], [3]), ([5, 3], [3, 5]), ([6, 3], [3, 6]), ([4, 7, 3, 3], [3, 4, 7]), ([8, 3], [3, 8]), ([3, 9], [3, 9])])
def impl_IsStack.B6 : List Nat := [0, 1, 3, 7, 15, 15, 47, 111, 255, 511, 1023]
theorem impl_IsStack.tab6 : rtab .any (opsOf Try.f37 6) = impl_IsStack.T6 := by kernel_rfl
theorem impl_IsStack.bits6 : waitsOk impl_IsStack.T6.2 impl_IsStack.B6 = true := by kernel_rfl
set_option maxHeartbeats 8000000 in
set_option maxRecDepth 100000 in
theorem impl_IsStack.calls (k : Nat) (A0 : Option Addr) (c0 : Nat) (l0 : List (S25)) (r : Bool) (w : World) (hr0 : Kd.C k25 w A0 l0.length l0) (hc0 : l0.length ≤ c0) (h : impl_IsStack.f k l0 = some r) :
  Calls Try.prog 37 #[.slice A0 l0.length c0] w fun e w' => e = .returned (.bool r) ∧ Below w.heap.size w w' := by
 have hu25 := Try.underlying25
 have HR0 := z0g hr0
 have HC0 := z0g hc0
 clear hr0 hc0
 have HB := z0g (Below.refl w.heap.size w)
 have H : (if (l0.length : Int) < 1 then (impl_IsStack.j0 k l0 true) else (impl_IsStack.j0 k l0 (decide ((l0.length : Int) > 4)))) = some r := h
 clear h
 have HC2 := z0g H
 clear H
 go_enter Try.func37, Try.ntmps37
 go_upto_region 1 with (fail)
 go_cut [12] (fun v12 wc => ∃ (kq : Nat) (x12_1 : Bool), v12 = .bool x12_1 ∧ Aside0 (impl_IsStack.j0 kq l0 x12_1 = some r) ∧ Aside0 (kq ≤ k) ∧ Aside0 (Below w.heap.size w wc))
 case first =>
  have H := HC2.out
  clear HC2
  by_cases c3 : (l0.length : Int) < 1
  ·rw [if_pos c3] at H
   have c3b0 : decide ((l0.length : Int) < 1) = true := decide_eq_true c3
   have c3b1 : decide (l0.length < 1) = true := decide_eq_true (by omega)
   clear c3
   (first | rw [c3b0] | (simp only [i64_w, i32_w]; rw [c3b0]) | skip)
   have H' := z0g H
   clear H
   go_wp2
   go_meet
   case rel => exact ⟨_, (true), (by first | rfl | (simp; done) | (simp [*]; done)), H', ⟨by first | omega | exact Nat.le_refl _⟩, ⟨by repeat (first | (with_reducible first | exact HB.out | apply z4g | apply z5g | apply z6g) | exact HB.out)⟩⟩
  ·rw [if_neg c3] at H
   have c3b0 : decide ((l0.length : Int) < 1) = false := decide_eq_false c3
   have c3b1 : decide (l0.length < 1) = false := decide_eq_false (by omega)
   clear c3
   (first | rw [c3b0] | (simp only [i64_w, i32_w]; rw [c3b0]) | skip)
   have H' := z0g H
   clear H
   go_wp2
   go_meet
   case rel => exact ⟨_, (decide ((l0.length : Int) > 4)), (by first | rfl | (simp; done) | (simp [*]; done)), H', ⟨by first | omega | exact Nat.le_refl _⟩, ⟨by repeat (first | (with_reducible first | exact HB.out | apply z4g | apply z5g | apply z6g) | exact HB.out)⟩⟩
 case rest =>
  clear HC2
  try clear p2
  try clear c3
  try clear c3b0
  try clear c3b1
  obtain ⟨kq, x12_1, rfl, HA, HJ1, HB⟩ := hcut
  cases kq with
  | zero => exact absurd HA.out (by simp [impl_IsStack.j0])
  | succ kj1 =>
   have H := HA.out
   clear HA
   simp only [impl_IsStack.j0] at H
   by_cases c4 : x12_1 = true
   ·subst c4
    have H1 : (some false) = some r := by rw [if_pos rfl] at H; first | exact H | (simp only [if_true] at H ⊢; exact H)
    clear H
    have H := H1
    clear H1
    obtain rfl := Option.some.inj H
    go_wp2
    go_ret
    exact ⟨by first | rfl | (simp [errW_none, errW_some] <;> rfl) | (simp [*, errW_none, errW_some] <;> rfl), by repeat (first | (with_reducible first | exact HB.out | apply z4g | apply z5g | apply z6g) | exact HB.out)⟩
   ·replace c4 := Bool.eq_false_iff.mpr c4
    subst c4
    have H1 : (impl_IsStack.l0 kj1 l0 l0 (l0.length : Int) 0) = some r := by rw [if_neg (show ¬ (false = true) by decide)] at H; first | exact H | (simp only [if_true] at H ⊢; exact H)
    clear H
    have H := H1
    clear H1
    have H' := z0g H
    clear H
    go_wp2
    go_loopg [15] kj1 (fun kq v15 w' => ∃ (x15_2 : Int), v15 = .int .i64 x15_2 ∧ Aside0 (impl_IsStack.l0 kq l0 l0 (l0.length : Int) x15_2 = some r) ∧ Aside0 (kq ≤ kj1) ∧ Aside0 (Below w.heap.size w w'))
    case atStart => exact ⟨(0), (by first | rfl | (simp; done) | (simp [*]; done)), H', ⟨Nat.le_refl _⟩, ⟨by repeat (first | (with_reducible first | exact HB.out | apply z4g | apply z5g | apply z6g) | exact HB.out)⟩⟩
    case round =>
     clear H'
     try clear p2
     try clear c3
     try clear c3b0
     try clear c3b1
     try clear c4
     try clear p2
     obtain ⟨x15_2, rfl, HA, HK2, HB⟩ := hrel
     cases gk with
     | zero => exact absurd HA.out (by simp [impl_IsStack.l0])
     | succ k2 =>
      have H := HA.out
      clear HA
      simp only [impl_IsStack.l0] at H
      by_cases c5 : x15_2 < (l0.length : Int)
      ·rw [if_pos c5] at H
       have c5b0 : decide (x15_2 < (l0.length : Int)) = true := decide_eq_true c5
       clear c5
       by_cases c6 : 0 ≤ x15_2
       ·rw [if_pos c6] at H
        have c6b0 : decide (0 ≤ x15_2) = true := decide_eq_true c6
        clear c6
        by_cases c7 : x15_2 < (l0.length : Int)
        ·rw [if_pos c7] at H
         have c7b0 : decide (x15_2 < (l0.length : Int)) = true := decide_eq_true c7
         clear c7
         replace H := Option.bind_eq_some_iff.mp H
         obtain ⟨t199, A80, H⟩ := H
         replace H : (if t199 = true then (if 0 < (l0.length : Int) then ((impl_alike.f ((rd_T25 l0 x15_2).f0) ((rd_T25 l0 x15_2).f1) ((rd_T25 l0 x15_2).f2) ((rd_T25 l0 0).f0) ((rd_T25 l0 0).f1) ((rd_T25 l0 0).f2)).bind fun t201 => (if t201 = true then (impl_IsStack.l0 k2 l0 l0 (l0.length : Int) (wrap64 (x15_2 + 1))) else (some false))) else (none)) else (some false)) = some r := H
         have A8 := z0g A80
         clear A80
         by_cases c9 : t199 = true
         ·subst c9
          have H1 : (if 0 < (l0.length : Int) then ((impl_alike.f ((rd_T25 l0 x15_2).f0) ((rd_T25 l0 x15_2).f1) ((rd_T25 l0 x15_2).f2) ((rd_T25 l0 0).f0) ((rd_T25 l0 0).f1) ((rd_T25 l0 0).f2)).bind fun t201 => (if t201 = true then (impl_IsStack.l0 k2 l0 l0 (l0.length : Int) (wrap64 (x15_2 + 1))) else (some false))) else (none)) = some r := by rw [if_pos rfl] at H; first | exact H | (simp only [if_true] at H ⊢; exact H)
          clear H
          have H := H1
          clear H1
          by_cases c10 : 0 < (l0.length : Int)
          ·rw [if_pos c10] at H
           have c10b0 : decide (0 < (l0.length : Int)) = true := decide_eq_true c10
           have c10b1 : decide (0 < l0.length) = true := decide_eq_true (by omega)
           clear c10
           replace H := Option.bind_eq_some_iff.mp H
           obtain ⟨t201, A110, H⟩ := H
           replace H : (if t201 = true then (impl_IsStack.l0 k2 l0 l0 (l0.length : Int) (wrap64 (x15_2 + 1))) else (some false)) = some r := H
           have A11 := z0g A110
           clear A110
           by_cases c12 : t201 = true
           ·subst c12
            have H1 : (impl_IsStack.l0 k2 l0 l0 (l0.length : Int) (wrap64 (x15_2 + 1))) = some r := by rw [if_pos rfl] at H; first | exact H | (simp only [if_true] at H ⊢; exact H)
            clear H
            have H := H1
            clear H1
            have H' := z0g H
            clear H
            have p197 : 0 ≤ (x15_2 : Int) := of_decide_eq_true (by first | (with_reducible assumption) | assumption)
            have q197 : x15_2 < (l0.length : Int) := of_decide_eq_true (by first | (with_reducible assumption) | assumption)
            obtain ⟨ad197, A197_2, c197_2, e197, hx197_0, hx197_1, hx197_2, hl197_2, hi197_2⟩ := at_T25 HR0.out x15_2 p197 q197
            cases e197
            replace hx197_0 := (HB.out.cell (World.block_lt_of_cell? w _ hx197_0)).trans hx197_0
            replace hx197_1 := (HB.out.cell (World.block_lt_of_cell? w _ hx197_1)).trans hx197_1
            replace hx197_2 := (HB.out.cell (World.block_lt_of_cell? w _ hx197_2)).trans hx197_2
            have HR197_2 := z0g hi197_2
            have HC197_2 := z0g hl197_2
            clear hi197_2 hl197_2
            replace p197 := eq_true p197
            replace q197 := eq_true q197
            try go_wp2_with (first | ((with_reducible refine gate_dst (N := 4) rfl ?_); (try (refine gate_guard (by rfl) ?_; dsimp only)); refine box_event ?hg (N := 4) ?hd (cs := #[.int .i64 0, .int .i64 0, .slice none 0 0]) (t := 25) ?hr ?_; (case hd => rfl); (case hg => rfl); (case hr => first | (go_simp; done) | (go_simp; rfl)); intro gb198 hg w13 hbox hb; have n0_ := z0g (below_step (by repeat (first | (with_reducible first | exact HB.out | apply z4g | apply z5g | apply z6g) | exact HB.out)) hb); have n1_ := z0g (hbox); have n2_ := z0g ((by rw [hg]; exact (below_size (by repeat (first | (with_reducible first | exact HB.out | apply z4g | apply z5g | apply z6g) | exact HB.out))) : w.heap.size ≤ gb198)); have n3_ := z0g ((by rw [hg]; exact (below_size (by repeat (first | (with_reducible first | exact HB.out | apply z4g | apply z5g | apply z6g) | exact HB.out))) : w.heap.size ≤ gb198)); clear HB; have HB := n0_; have BK198 := n1_; have GW198 := n2_; have GE198 := n3_; clear n0_ n1_ n2_ n3_; clear hb hbox hg; have hcz14_0 : w13.cell? ⟨gb198, 0, none⟩ = some (.int .i64 0) := (x3g BK198.out 0).trans rfl; have hcz14_1 : w13.cell? ⟨gb198, 1, none⟩ = some (.int .i64 0) := (x3g BK198.out 1).trans rfl; have hcz14_2 : w13.cell? ⟨gb198, 2, none⟩ = some (.slice none 0 0) := (x3g BK198.out 2).trans rfl; have hfz14_0 := x2g BK198.out 0; have hfz14_1 := x2g BK198.out 1; have hfz14_2 := x2g BK198.out 2))
            have n0_ : Aside0 ((((w13.setCell ⟨gb198, 0, none⟩ (.int .i64 ((rd_T25 l0 x15_2).f0))).setCell ⟨gb198, 1, none⟩ (.int .i64 ((rd_T25 l0 x15_2).f1))).setCell ⟨gb198, 2, none⟩ (.slice A197_2 ((rd_T25 l0 x15_2).f2).length c197_2)).heap[gb198]? = some (.cells #[.int .i64 ((rd_T25 l0 x15_2).f0), .int .i64 ((rd_T25 l0 x15_2).f1), .slice A197_2 ((rd_T25 l0 x15_2).f2).length c197_2] 25 (0, 0))) := ⟨by (with_reducible repeat (first | refine z1g ?_ _ | refine z3g ?_ | refine z2g ?_ _)); refine blk_put (cs := #[.int .i64 ((rd_T25 l0 x15_2).f0), .int .i64 ((rd_T25 l0 x15_2).f1), .slice none 0 0]) ?_ 2 _ rfl; (with_reducible repeat (first | refine z1g ?_ _ | refine z3g ?_ | refine z2g ?_ _)); refine blk_put (cs := #[.int .i64 ((rd_T25 l0 x15_2).f0), .int .i64 0, .slice none 0 0]) ?_ 1 _ rfl; (with_reducible repeat (first | refine z1g ?_ _ | refine z3g ?_ | refine z2g ?_ _)); refine blk_put (cs := #[.int .i64 0, .int .i64 0, .slice none 0 0]) ?_ 0 _ rfl; (with_reducible repeat (first | refine z1g ?_ _ | refine z3g ?_ | refine z2g ?_ _)); exact BK198.out⟩
            have n1_ : Aside0 (Below w.heap.size w (((w13.setCell ⟨gb198, 0, none⟩ (.int .i64 ((rd_T25 l0 x15_2).f0))).setCell ⟨gb198, 1, none⟩ (.int .i64 ((rd_T25 l0 x15_2).f1))).setCell ⟨gb198, 2, none⟩ (.slice A197_2 ((rd_T25 l0 x15_2).f2).length c197_2))) := ⟨by repeat (first | (with_reducible first | exact HB.out | apply z4g | apply z5g | apply z6g | refine z7g ?_ GE198.out) | exact HB.out)⟩
            (try clear BK198)
            (try clear HB)
            generalize (((w13.setCell ⟨gb198, 0, none⟩ (.int .i64 ((rd_T25 l0 x15_2).f0))).setCell ⟨gb198, 1, none⟩ (.int .i64 ((rd_T25 l0 x15_2).f1))).setCell ⟨gb198, 2, none⟩ (.slice A197_2 ((rd_T25 l0 x15_2).f2).length c197_2)) = w15 at n0_ n1_ ⊢
            have BK198 := n0_
            have HB := n1_
            clear n0_ n1_
            have n0_ := z0g (z3g BK198.out)
            have n1_ := z0g (z6g HB.out)
            clear BK198
            clear HB
            have BK198 := n0_
            have HB := n1_
            clear n0_ n1_
            have p200 : 0 ≤ (0 : Int) := (by omega)
            have q200 : 0 < (l0.length : Int) := of_decide_eq_true (by first | (with_reducible assumption) | assumption)
            obtain ⟨ad200, A200_2, c200_2, e200, hx200_0, hx200_1, hx200_2, hl200_2, hi200_2⟩ := at_T25 HR0.out 0 p200 q200
            have hw200_2 := hx200_2
            (try rw [show ((0 : Int)).toNat = 0 from rfl] at hw200_2)
            (try rw [show 0 * 3 = 0 from rfl] at hw200_2)
            (try rw [Addr.add_zero'] at hw200_2)
            have hw200_1 := hx200_1
            (try rw [show ((0 : Int)).toNat = 0 from rfl] at hw200_1)
            (try rw [show 0 * 3 = 0 from rfl] at hw200_1)
            (try rw [Addr.add_zero'] at hw200_1)
            have hw200_0 := hx200_0
            (try rw [show ((0 : Int)).toNat = 0 from rfl] at hw200_0)
            (try rw [show 0 * 3 = 0 from rfl] at hw200_0)
            (try rw [Addr.add_zero'] at hw200_0)
            obtain rfl : ad197 = ad200 := (by injection e200)
            have qi200 : (0 < l0.length) = True := eq_true (by omega)
            (try rw [show ((0 : Int)).toNat = 0 from rfl] at hx200_0)
            (try rw [show 0 * 3 = 0 from rfl] at hx200_0)
            (try rw [Addr.add_zero'] at hx200_0)
            (try rw [show ((0 : Int)).toNat = 0 from rfl] at hx200_1)
            (try rw [show 0 * 3 = 0 from rfl] at hx200_1)
            (try rw [Addr.add_zero'] at hx200_1)
            (try rw [show ((0 : Int)).toNat = 0 from rfl] at hx200_2)
            (try rw [show 0 * 3 = 0 from rfl] at hx200_2)
            (try rw [Addr.add_zero'] at hx200_2)
            replace hx200_0 := (HB.out.cell (World.block_lt_of_cell? w _ hx200_0)).trans hx200_0
            replace hx200_1 := (HB.out.cell (World.block_lt_of_cell? w _ hx200_1)).trans hx200_1
            replace hx200_2 := (HB.out.cell (World.block_lt_of_cell? w _ hx200_2)).trans hx200_2
            have HR200_2 := z0g hi200_2
            have HC200_2 := z0g hl200_2
            clear hi200_2 hl200_2
            replace p200 := eq_true p200
            replace q200 := eq_true q200
            refine start_ (n := 11) (S := fun w' => w'.cell? ⟨gb198, 0, none⟩ = some (.int .i64 ((rd_T25 l0 x15_2).f0)) ∧ w'.cell? ⟨gb198, 1, none⟩ = some (.int .i64 ((rd_T25 l0 x15_2).f1)) ∧ w'.cell? ⟨gb198, 2, none⟩ = some (.slice A197_2 ((rd_T25 l0 x15_2).f2).length c197_2) ∧ w'.cell? ad197 = some (.int .i64 ((rd_T25 l0 0).f0)) ∧ w'.cell? ⟨ad197.block, ad197.off + 1, none⟩ = some (.int .i64 ((rd_T25 l0 0).f1)) ∧ w'.cell? ⟨ad197.block, ad197.off + 2, none⟩ = some (.slice A200_2 ((rd_T25 l0 0).f2).length c200_2)) (ds := []) (bsg_ 11 0) (by kernel_rfl) rfl rfl ⟨(x3g BK198.out 0).trans rfl, (x3g BK198.out 1).trans rfl, (x3g BK198.out 2).trans rfl, ((HB.out.cell (World.block_lt_of_cell? w _ hw200_0)).trans hw200_0), ((HB.out.cell (World.block_lt_of_cell? w _ hw200_1)).trans hw200_1), ((HB.out.cell (World.block_lt_of_cell? w _ hw200_2)).trans hw200_2)⟩ (fun hHeld => ?_); refine with_tabW impl_IsStack.tab6 impl_IsStack.bits6 (fun HT_ HW_ => ?_)
            generalize w15.drew = w16 at BK198 HB HR200_2 hx200_0 hx200_1 hx200_2 hHeld ⊢
            refine take_ (i := 0) (N := some 19) (v := ?_) (a' := ?_) (bsg_ 11 1) rfl rfl (take_ofW HT_.out HW_.out (by kernel_rfl)) (fun _ _ _ h => h) (Or.inl ⟨by rfl, ?_⟩) hHeld ?_ ?_
            rotate_left
            ·rintro w' ⟨s0, s1, s2, s3, s4, s5⟩
             go_simp
             with_reducible rfl
            rotate_left
            ·simp only [Act.put, s1g_, s2g_, s3g_, i64_w, i32_w]
             rfl
            refine one_ (i := 1) (N := some 20) (bsg_ 11 3) rfl rfl (one_of HT_.out (by kernel_rfl)) (by decide) (fun K hK => ?_)
            refine goes_ Try.func21 (by kernel_rfl) rfl #[.agg #[.int .i64 ((rd_T25 l0 x15_2).f0), .int .i64 ((rd_T25 l0 x15_2).f1), .slice A197_2 ((rd_T25 l0 x15_2).f2).length c197_2]] (by rfl) rfl rfl (by (try simp only [List.map_toArray, List.map_cons, List.map_nil]); first | done | rfl | (simp only [List.length_drop, List.length_take]; rfl)) ?_
            with_reducible refine (impl_IsPlate.calls ((rd_T25 l0 x15_2).f0) ((rd_T25 l0 x15_2).f1) _ _ ((rd_T25 l0 x15_2).f2) true _ ?side1 ?side2 A8.out).mono ?_
            (case side1 => repeat (first | exact HR197_2.out | exact (Kd.C_below HR197_2.out HB.out) | (with_reducible refine Kd.C_alloc ?_ _) | (with_reducible refine Kd.C_drewN ?_ _) | (with_reducible refine Kd.C_drew ?_)))
            (case side2 => exact HC197_2.out)
            rintro e w17 ⟨rfl, hb⟩
            refine ⟨_, rfl, ?_⟩
            have n0_ := z0g (blk_below (g := gb198) (o := .cells #[.int .i64 ((rd_T25 l0 x15_2).f0), .int .i64 ((rd_T25 l0 x15_2).f1), .slice A197_2 ((rd_T25 l0 x15_2).f2).length c197_2] 25 (0, 0)) (by (with_reducible repeat (first | refine z1g ?_ _ | refine z3g ?_ | refine z2g ?_ _)); exact BK198.out) hb)
            have n1_ := z0g (below_step (by repeat (first | (with_reducible first | exact HB.out | apply z4g | apply z5g | apply z6g | refine z7g ?_ GE198.out) | exact HB.out)) hb)
            clear BK198
            clear HB
            have BK198 := n0_
            have HB := n1_
            clear n0_ n1_
            (try clear hb)
            (try clear hb2)
            (try clear hk)
            (try clear hi)
            refine hK.out _ _ ⟨(x3g BK198.out 0).trans rfl, (x3g BK198.out 1).trans rfl, (x3g BK198.out 2).trans rfl, ((HB.out.cell (World.block_lt_of_cell? w _ hw200_0)).trans hw200_0), ((HB.out.cell (World.block_lt_of_cell? w _ hw200_1)).trans hw200_1), ((HB.out.cell (World.block_lt_of_cell? w _ hw200_2)).trans hw200_2)⟩ (fun hHeld => ?_)
            clear hK K
            refine norm_ (a' := ?_) ?_ ?_
            rotate_left
            ·show Act.put _ (some 20) _ = _
             simp only [Act.put, s1g_, s2g_, s3g_, i64_w, i32_w]
             rfl
            refine pure_ (i := 2) (N := some 21) (v := ?_) (a' := ?_) (bsg_ 11 7) rfl rfl (any_of HT_.out (by kernel_rfl)) (fun _ _ _ h => h) (Or.inl ⟨by rfl, ?_⟩) ?_ ?_
            rotate_left
            ·intro w'
             go_simp
             with_reducible rfl
            rotate_left
            ·simp only [Act.put, s1g_, s2g_, s3g_, i64_w, i32_w]
             rfl
            refine pure_ (i := 3) (N := some 22) (v := ?_) (a' := ?_) (bsg_ 11 15) rfl rfl (any_of HT_.out (by kernel_rfl)) (fun _ _ _ h => h) (Or.inl ⟨by rfl, ?_⟩) ?_ ?_
            rotate_left
            ·intro w'
             go_simp
             with_reducible rfl
            rotate_left
            ·simp only [Act.put, s1g_, s2g_, s3g_, i64_w, i32_w]
             rfl
            refine pure_ (i := 5) (N := some 24) (v := ?_) (a' := ?_) (bsg_ 11 47) rfl rfl (any_of HT_.out (by kernel_rfl)) (fun _ _ _ h => h) (Or.inl ⟨by rfl, ?_⟩) ?_ ?_
            rotate_left
            ·intro w'
             go_simp
             with_reducible rfl
            rotate_left
            ·simp only [Act.put, s1g_, s2g_, s3g_, i64_w, i32_w]
             rfl
            refine pure_ (i := 6) (N := some 25) (v := ?_) (a' := ?_) (bsg_ 11 111) rfl rfl (any_of HT_.out (by kernel_rfl)) (fun _ _ _ h => h) (Or.inl ⟨by rfl, ?_⟩) ?_ ?_
            rotate_left
            ·intro w'
             go_simp
             with_reducible rfl
            rotate_left
            ·simp only [Act.put, s1g_, s2g_, s3g_, i64_w, i32_w]
             rfl
            refine take_ (i := 4) (N := some 23) (v := ?_) (a' := ?_) (bsg_ 11 127) rfl rfl (take_ofW HT_.out HW_.out (by kernel_rfl)) (fun _ _ _ h => h) (Or.inl ⟨by rfl, ?_⟩) hHeld ?_ ?_
            rotate_left
            ·rintro w' ⟨s0, s1, s2, s3, s4, s5⟩
             go_simp
             with_reducible rfl
            rotate_left
            ·simp only [Act.put, s1g_, s2g_, s3g_, i64_w, i32_w]
             rfl
            refine take_ (i := 7) (N := some 26) (v := ?_) (a' := ?_) (bsg_ 11 255) rfl rfl (take_ofW HT_.out HW_.out (by kernel_rfl)) (fun _ _ _ h => h) (Or.inl ⟨by rfl, ?_⟩) hHeld ?_ ?_
            rotate_left
            ·rintro w' ⟨s0, s1, s2, s3, s4, s5⟩
             go_simp
             with_reducible rfl
            rotate_left
            ·simp only [Act.put, s1g_, s2g_, s3g_, i64_w, i32_w]
             rfl
            refine one_ (i := 8) (N := some 27) (bsg_ 11 511) rfl rfl (one_of HT_.out (by kernel_rfl)) (by decide) (fun K hK => ?_)
            refine goes_ Try.func80 (by kernel_rfl) rfl #[.agg #[.int .i64 ((rd_T25 l0 x15_2).f0), .int .i64 ((rd_T25 l0 x15_2).f1), .slice A197_2 ((rd_T25 l0 x15_2).f2).length c197_2], .agg #[.int .i64 ((rd_T25 l0 0).f0), .int .i64 ((rd_T25 l0 0).f1), .slice A200_2 ((rd_T25 l0 0).f2).length c200_2]] (by rfl) rfl rfl (by (try simp only [List.map_toArray, List.map_cons, List.map_nil]); first | done | rfl | (simp only [List.length_drop, List.length_take]; rfl)) ?_
            with_reducible refine (impl_alike.calls ((rd_T25 l0 x15_2).f0) ((rd_T25 l0 x15_2).f1) _ _ ((rd_T25 l0 x15_2).f2) ((rd_T25 l0 0).f0) ((rd_T25 l0 0).f1) _ _ ((rd_T25 l0 0).f2) true _ ?side1 ?side2 ?side3 ?side4 A11.out).mono ?_
            (case side1 => repeat (first | exact HR197_2.out | exact (Kd.C_below HR197_2.out HB.out) | (with_reducible refine Kd.C_alloc ?_ _) | (with_reducible refine Kd.C_drewN ?_ _) | (with_reducible refine Kd.C_drew ?_)))
            (case side2 => exact HC197_2.out)
            (case side3 => repeat (first | exact HR200_2.out | exact (Kd.C_below HR200_2.out HB.out) | (with_reducible refine Kd.C_alloc ?_ _) | (with_reducible refine Kd.C_drewN ?_ _) | (with_reducible refine Kd.C_drew ?_)))
            (case side4 => exact HC200_2.out)
            rintro e w18 ⟨rfl, hb⟩
            refine ⟨_, rfl, ?_⟩
            have n0_ := z0g (blk_below (g := gb198) (o := .cells #[.int .i64 ((rd_T25 l0 x15_2).f0), .int .i64 ((rd_T25 l0 x15_2).f1), .slice A197_2 ((rd_T25 l0 x15_2).f2).length c197_2] 25 (0, 0)) (by (with_reducible repeat (first | refine z1g ?_ _ | refine z3g ?_ | refine z2g ?_ _)); exact BK198.out) hb)
            have n1_ := z0g (below_step (by repeat (first | (with_reducible first | exact HB.out | apply z4g | apply z5g | apply z6g | refine z7g ?_ GE198.out) | exact HB.out)) hb)
            clear BK198
            clear HB
            have BK198 := n0_
            have HB := n1_
            clear n0_ n1_
            (try clear hb)
            (try clear hb2)
            (try clear hk)
            (try clear hi)
            refine hK.out _ _ ⟨(x3g BK198.out 0).trans rfl, (x3g BK198.out 1).trans rfl, (x3g BK198.out 2).trans rfl, ((HB.out.cell (World.block_lt_of_cell? w _ hw200_0)).trans hw200_0), ((HB.out.cell (World.block_lt_of_cell? w _ hw200_1)).trans hw200_1), ((HB.out.cell (World.block_lt_of_cell? w _ hw200_2)).trans hw200_2)⟩ (fun hHeld => ?_)
            clear hK K
            refine norm_ (a' := ?_) ?_ ?_
            rotate_left
            ·show Act.put _ (some 27) _ = _
             simp only [Act.put, s1g_, s2g_, s3g_, i64_w, i32_w]
             rfl
            refine pure_ (i := 9) (N := some 28) (v := ?_) (a' := ?_) (bsg_ 11 1023) rfl rfl (any_of HT_.out (by kernel_rfl)) (fun _ _ _ h => h) (Or.inl ⟨by rfl, ?_⟩) ?_ ?_
            rotate_left
            ·intro w'
             go_simp
             with_reducible rfl
            rotate_left
            ·simp only [Act.put, s1g_, s2g_, s3g_, i64_w, i32_w]
             rfl
            refine pure_ (i := 10) (N := some 29) (v := ?_) (a' := ?_) (bsg_ 11 2047) rfl rfl (any_of HT_.out (by kernel_rfl)) (fun _ _ _ h => h) (Or.inl ⟨by rfl, ?_⟩) ?_ ?_
            rotate_left
            ·intro w'
             go_simp
             with_reducible rfl
            rotate_left
            ·simp only [Act.put, s1g_, s2g_, s3g_, i64_w, i32_w]
             rfl
            refine done_ (done_of HT_.out (by kernel_rfl)) ?_
            try go_wp2
            go_roundg k2
            case measure => have := HJ1.out; have := HK2.out; omega
            case rel => exact ⟨(wrap64 (x15_2 + 1)), (by first | rfl | (simp; done) | (simp [*]; done)), H', ⟨by have := HJ1.out; have := HK2.out; omega⟩, ⟨by repeat (first | (with_reducible first | exact HB.out | apply z4g | apply z5g | apply z6g | refine z7g ?_ GE198.out) | exact HB.out)⟩⟩
           ·replace c12 := Bool.eq_false_iff.mpr c12
            subst c12
            have H1 : (some false) = some r := by rw [if_neg (show ¬ (false = true) by decide)] at H; first | exact H | (simp only [if_true] at H ⊢; exact H)
            clear H
            have H := H1
            clear H1
            obtain rfl := Option.some.inj H
            have p197 : 0 ≤ (x15_2 : Int) := of_decide_eq_true (by first | (with_reducible assumption) | assumption)
            have q197 : x15_2 < (l0.length : Int) := of_decide_eq_true (by first | (with_reducible assumption) | assumption)
            obtain ⟨ad197, A197_2, c197_2, e197, hx197_0, hx197_1, hx197_2, hl197_2, hi197_2⟩ := at_T25 HR0.out x15_2 p197 q197
            cases e197
            replace hx197_0 := (HB.out.cell (World.block_lt_of_cell? w _ hx197_0)).trans hx197_0
            replace hx197_1 := (HB.out.cell (World.block_lt_of_cell? w _ hx197_1)).trans hx197_1
            replace hx197_2 := (HB.out.cell (World.block_lt_of_cell? w _ hx197_2)).trans hx197_2
            have HR197_2 := z0g hi197_2
            have HC197_2 := z0g hl197_2
            clear hi197_2 hl197_2
            replace p197 := eq_true p197
            replace q197 := eq_true q197
            try go_wp2_with (first | ((with_reducible refine gate_dst (N := 4) rfl ?_); (try (refine gate_guard (by rfl) ?_; dsimp only)); refine box_event ?hg (N := 4) ?hd (cs := #[.int .i64 0, .int .i64 0, .slice none 0 0]) (t := 25) ?hr ?_; (case hd => rfl); (case hg => rfl); (case hr => first | (go_simp; done) | (go_simp; rfl)); intro gb198 hg w19 hbox hb; have n0_ := z0g (below_step (by repeat (first | (with_reducible first | exact HB.out | apply z4g | apply z5g | apply z6g) | exact HB.out)) hb); have n1_ := z0g (hbox); have n2_ := z0g ((by rw [hg]; exact (below_size (by repeat (first | (with_reducible first | exact HB.out | apply z4g | apply z5g | apply z6g) | exact HB.out))) : w.heap.size ≤ gb198)); have n3_ := z0g ((by rw [hg]; exact (below_size (by repeat (first | (with_reducible first | exact HB.out | apply z4g | apply z5g | apply z6g) | exact HB.out))) : w.heap.size ≤ gb198)); clear HB; have HB := n0_; have BK198 := n1_; have GW198 := n2_; have GE198 := n3_; clear n0_ n1_ n2_ n3_; clear hb hbox hg; have hcz20_0 : w19.cell? ⟨gb198, 0, none⟩ = some (.int .i64 0) := (x3g BK198.out 0).trans rfl; have hcz20_1 : w19.cell? ⟨gb198, 1, none⟩ = some (.int .i64 0) := (x3g BK198.out 1).trans rfl; have hcz20_2 : w19.cell? ⟨gb198, 2, none⟩ = some (.slice none 0 0) := (x3g BK198.out 2).trans rfl; have hfz20_0 := x2g BK198.out 0; have hfz20_1 := x2g BK198.out 1; have hfz20_2 := x2g BK198.out 2))
            have n0_ : Aside0 ((((w19.setCell ⟨gb198, 0, none⟩ (.int .i64 ((rd_T25 l0 x15_2).f0))).setCell ⟨gb198, 1, none⟩ (.int .i64 ((rd_T25 l0 x15_2).f1))).setCell ⟨gb198, 2, none⟩ (.slice A197_2 ((rd_T25 l0 x15_2).f2).length c197_2)).heap[gb198]? = some (.cells #[.int .i64 ((rd_T25 l0 x15_2).f0), .int .i64 ((rd_T25 l0 x15_2).f1), .slice A197_2 ((rd_T25 l0 x15_2).f2).length c197_2] 25 (0, 0))) := ⟨by (with_reducible repeat (first | refine z1g ?_ _ | refine z3g ?_ | refine z2g ?_ _)); refine blk_put (cs := #[.int .i64 ((rd_T25 l0 x15_2).f0), .int .i64 ((rd_T25 l0 x15_2).f1), .slice none 0 0]) ?_ 2 _ rfl; (with_reducible repeat (first | refine z1g ?_ _ | refine z3g ?_ | refine z2g ?_ _)); refine blk_put (cs := #[.int .i64 ((rd_T25 l0 x15_2).f0), .int .i64 0, .slice none 0 0]) ?_ 1 _ rfl; (with_reducible repeat (first | refine z1g ?_ _ | refine z3g ?_ | refine z2g ?_ _)); refine blk_put (cs := #[.int .i64 0, .int .i64 0, .slice none 0 0]) ?_ 0 _ rfl; (with_reducible repeat (first | refine z1g ?_ _ | refine z3g ?_ | refine z2g ?_ _)); exact BK198.out⟩
            have n1_ : Aside0 (Below w.heap.size w (((w19.setCell ⟨gb198, 0, none⟩ (.int .i64 ((rd_T25 l0 x15_2).f0))).setCell ⟨gb198, 1, none⟩ (.int .i64 ((rd_T25 l0 x15_2).f1))).setCell ⟨gb198, 2, none⟩ (.slice A197_2 ((rd_T25 l0 x15_2).f2).length c197_2))) := ⟨by repeat (first | (with_reducible first | exact HB.out | apply z4g | apply z5g | apply z6g | refine z7g ?_ GE198.out) | exact HB.out)⟩
            (try clear BK198)
            (try clear HB)
            generalize (((w19.setCell ⟨gb198, 0, none⟩ (.int .i64 ((rd_T25 l0 x15_2).f0))).setCell ⟨gb198, 1, none⟩ (.int .i64 ((rd_T25 l0 x15_2).f1))).setCell ⟨gb198, 2, none⟩ (.slice A197_2 ((rd_T25 l0 x15_2).f2).length c197_2)) = w21 at n0_ n1_ ⊢
            have BK198 := n0_
            have HB := n1_
            clear n0_ n1_
            have n0_ := z0g (z3g BK198.out)
            have n1_ := z0g (z6g HB.out)
            clear BK198
            clear HB
            have BK198 := n0_
            have HB := n1_
            clear n0_ n1_
            have p200 : 0 ≤ (0 : Int) := (by omega)
            have q200 : 0 < (l0.length : Int) := of_decide_eq_true (by first | (with_reducible assumption) | assumption)
            obtain ⟨ad200, A200_2, c200_2, e200, hx200_0, hx200_1, hx200_2, hl200_2, hi200_2⟩ := at_T25 HR0.out 0 p200 q200
            have hw200_2 := hx200_2
            (try rw [show ((0 : Int)).toNat = 0 from rfl] at hw200_2)
            (try rw [show 0 * 3 = 0 from rfl] at hw200_2)
            (try rw [Addr.add_zero'] at hw200_2)
            have hw200_1 := hx200_1
            (try rw [show ((0 : Int)).toNat = 0 from rfl] at hw200_1)
            (try rw [show 0 * 3 = 0 from rfl] at hw200_1)
            (try rw [Addr.add_zero'] at hw200_1)
            have hw200_0 := hx200_0
            (try rw [show ((0 : Int)).toNat = 0 from rfl] at hw200_0)
            (try rw [show 0 * 3 = 0 from rfl] at hw200_0)
            (try rw [Addr.add_zero'] at hw200_0)
            obtain rfl : ad197 = ad200 := (by injection e200)
            have qi200 : (0 < l0.length) = True := eq_true (by omega)
            (try rw [show ((0 : Int)).toNat = 0 from rfl] at hx200_0)
            (try rw [show 0 * 3 = 0 from rfl] at hx200_0)
            (try rw [Addr.add_zero'] at hx200_0)
            (try rw [show ((0 : Int)).toNat = 0 from rfl] at hx200_1)
            (try rw [show 0 * 3 = 0 from rfl] at hx200_1)
            (try rw [Addr.add_zero'] at hx200_1)
            (try rw [show ((0 : Int)).toNat = 0 from rfl] at hx200_2)
            (try rw [show 0 * 3 = 0 from rfl] at hx200_2)
            (try rw [Addr.add_zero'] at hx200_2)
            replace hx200_0 := (HB.out.cell (World.block_lt_of_cell? w _ hx200_0)).trans hx200_0
            replace hx200_1 := (HB.out.cell (World.block_lt_of_cell? w _ hx200_1)).trans hx200_1
            replace hx200_2 := (HB.out.cell (World.block_lt_of_cell? w _ hx200_2)).trans hx200_2
            have HR200_2 := z0g hi200_2
            have HC200_2 := z0g hl200_2
            clear hi200_2 hl200_2
            replace p200 := eq_true p200
            replace q200 := eq_true q200
            refine start_ (n := 11) (S := fun w' => w'.cell? ⟨gb198, 0, none⟩ = some (.int .i64 ((rd_T25 l0 x15_2).f0)) ∧ w'.cell? ⟨gb198, 1, none⟩ = some (.int .i64 ((rd_T25 l0 x15_2).f1)) ∧ w'.cell? ⟨gb198, 2, none⟩ = some (.slice A197_2 ((rd_T25 l0 x15_2).f2).length c197_2) ∧ w'.cell? ad197 = some (.int .i64 ((rd_T25 l0 0).f0)) ∧ w'.cell? ⟨ad197.block, ad197.off + 1, none⟩ = some (.int .i64 ((rd_T25 l0 0).f1)) ∧ w'.cell? ⟨ad197.block, ad197.off + 2, none⟩ = some (.slice A200_2 ((rd_T25 l0 0).f2).length c200_2)) (ds := []) (bsg_ 11 0) (by kernel_rfl) rfl rfl ⟨(x3g BK198.out 0).trans rfl, (x3g BK198.out 1).trans rfl, (x3g BK198.out 2).trans rfl, ((HB.out.cell (World.block_lt_of_cell? w _ hw200_0)).trans hw200_0), ((HB.out.cell (World.block_lt_of_cell? w _ hw200_1)).trans hw200_1), ((HB.out.cell (World.block_lt_of_cell? w _ hw200_2)).trans hw200_2)⟩ (fun hHeld => ?_); refine with_tabW impl_IsStack.tab6 impl_IsStack.bits6 (fun HT_ HW_ => ?_)
            generalize w21.drew = w22 at BK198 HB HR200_2 hx200_0 hx200_1 hx200_2 hHeld ⊢
            refine take_ (i := 0) (N := some 19) (v := ?_) (a' := ?_) (bsg_ 11 1) rfl rfl (take_ofW HT_.out HW_.out (by kernel_rfl)) (fun _ _ _ h => h) (Or.inl ⟨by rfl, ?_⟩) hHeld ?_ ?_
            rotate_left
            ·rintro w' ⟨s0, s1, s2, s3, s4, s5⟩
             go_simp
             with_reducible rfl
            rotate_left
            ·simp only [Act.put, s1g_, s2g_, s3g_, i64_w, i32_w]
             rfl
            refine one_ (i := 1) (N := some 20) (bsg_ 11 3) rfl rfl (one_of HT_.out (by kernel_rfl)) (by decide) (fun K hK => ?_)
            refine goes_ Try.func21 (by kernel_rfl) rfl #[.agg #[.int .i64 ((rd_T25 l0 x15_2).f0), .int .i64 ((rd_T25 l0 x15_2).f1), .slice A197_2 ((rd_T25 l0 x15_2).f2).length c197_2]] (by rfl) rfl rfl (by (try simp only [List.map_toArray, List.map_cons, List.map_nil]); first | done | rfl | (simp only [List.length_drop, List.length_take]; rfl)) ?_
            with_reducible refine (impl_IsPlate.calls ((rd_T25 l0 x15_2).f0) ((rd_T25 l0 x15_2).f1) _ _ ((rd_T25 l0 x15_2).f2) true _ ?side1 ?side2 A8.out).mono ?_
            (case side1 => repeat (first | exact HR197_2.out | exact (Kd.C_below HR197_2.out HB.out) | (with_reducible refine Kd.C_alloc ?_ _) | (with_reducible refine Kd.C_drewN ?_ _) | (with_reducible refine Kd.C_drew ?_)))
            (case side2 => exact HC197_2.out)
            rintro e w23 ⟨rfl, hb⟩
            refine ⟨_, rfl, ?_⟩
            have n0_ := z0g (blk_below (g := gb198) (o := .cells #[.int .i64 ((rd_T25 l0 x15_2).f0), .int .i64 ((rd_T25 l0 x15_2).f1), .slice A197_2 ((rd_T25 l0 x15_2).f2).length c197_2] 25 (0, 0)) (by (with_reducible repeat (first | refine z1g ?_ _ | refine z3g ?_ | refine z2g ?_ _)); exact BK198.out) hb)
            have n1_ := z0g (below_step (by repeat (first | (with_reducible first | exact HB.out | apply z4g | apply z5g | apply z6g | refine z7g ?_ GE198.out) | exact HB.out)) hb)
            clear BK198
            clear HB
            have BK198 := n0_
            have HB := n1_
            clear n0_ n1_
            (try clear hb)
            (try clear hb2)
            (try clear hk)
            (try clear hi)
            refine hK.out _ _ ⟨(x3g BK198.out 0).trans rfl, (x3g BK198.out 1).trans rfl, (x3g BK198.out 2).trans rfl, ((HB.out.cell (World.block_lt_of_cell? w _ hw200_0)).trans hw200_0), ((HB.out.cell (World.block_lt_of_cell? w _ hw200_1)).trans hw200_1), ((HB.out.cell (World.block_lt_of_cell? w _ hw200_2)).trans hw200_2)⟩ (fun hHeld => ?_)
            clear hK K
            refine norm_ (a' := ?_) ?_ ?_
            rotate_left
            ·show Act.put _ (some 20) _ = _
             simp only [Act.put, s1g_, s2g_, s3g_, i64_w, i32_w]
             rfl
            refine pure_ (i := 2) (N := some 21) (v := ?_) (a' := ?_) (bsg_ 11 7) rfl rfl (any_of HT_.out (by kernel_rfl)) (fun _ _ _ h => h) (Or.inl ⟨by rfl, ?_⟩) ?_ ?_
            rotate_left
            ·intro w'
             go_simp
             with_reducible rfl
            rotate_left
            ·simp only [Act.put, s1g_, s2g_, s3g_, i64_w, i32_w]
             rfl
            refine pure_ (i := 3) (N := some 22) (v := ?_) (a' := ?_) (bsg_ 11 15) rfl rfl (any_of HT_.out (by kernel_rfl)) (fun _ _ _ h => h) (Or.inl ⟨by rfl, ?_⟩) ?_ ?_
            rotate_left
            ·intro w'
             go_simp
             with_reducible rfl
            rotate_left
            ·simp only [Act.put, s1g_, s2g_, s3g_, i64_w, i32_w]
             rfl
            refine pure_ (i := 5) (N := some 24) (v := ?_) (a' := ?_) (bsg_ 11 47) rfl rfl (any_of HT_.out (by kernel_rfl)) (fun _ _ _ h => h) (Or.inl ⟨by rfl, ?_⟩) ?_ ?_
            rotate_left
            ·intro w'
             go_simp
             with_reducible rfl
            rotate_left
            ·simp only [Act.put, s1g_, s2g_, s3g_, i64_w, i32_w]
             rfl
            refine pure_ (i := 6) (N := some 25) (v := ?_) (a' := ?_) (bsg_ 11 111) rfl rfl (any_of HT_.out (by kernel_rfl)) (fun _ _ _ h => h) (Or.inl ⟨by rfl, ?_⟩) ?_ ?_
            rotate_left
            ·intro w'
             go_simp
             with_reducible rfl
            rotate_left
            ·simp only [Act.put, s1g_, s2g_, s3g_, i64_w, i32_w]
             rfl
            refine take_ (i := 4) (N := some 23) (v := ?_) (a' := ?_) (bsg_ 11 127) rfl rfl (take_ofW HT_.out HW_.out (by kernel_rfl)) (fun _ _ _ h => h) (Or.inl ⟨by rfl, ?_⟩) hHeld ?_ ?_
            rotate_left
            ·rintro w' ⟨s0, s1, s2, s3, s4, s5⟩
             go_simp
             with_reducible rfl
            rotate_left
            ·simp only [Act.put, s1g_, s2g_, s3g_, i64_w, i32_w]
             rfl
            refine take_ (i := 7) (N := some 26) (v := ?_) (a' := ?_) (bsg_ 11 255) rfl rfl (take_ofW HT_.out HW_.out (by kernel_rfl)) (fun _ _ _ h => h) (Or.inl ⟨by rfl, ?_⟩) hHeld ?_ ?_
            rotate_left
            ·rintro w' ⟨s0, s1, s2, s3, s4, s5⟩
             go_simp
             with_reducible rfl
            rotate_left
            ·simp only [Act.put, s1g_, s2g_, s3g_, i64_w, i32_w]
             rfl
            refine one_ (i := 8) (N := some 27) (bsg_ 11 511) rfl rfl (one_of HT_.out (by kernel_rfl)) (by decide) (fun K hK => ?_)
            refine goes_ Try.func80 (by kernel_rfl) rfl #[.agg #[.int .i64 ((rd_T25 l0 x15_2).f0), .int .i64 ((rd_T25 l0 x15_2).f1), .slice A197_2 ((rd_T25 l0 x15_2).f2).length c197_2], .agg #[.int .i64 ((rd_T25 l0 0).f0), .int .i64 ((rd_T25 l0 0).f1), .slice A200_2 ((rd_T25 l0 0).f2).length c200_2]] (by rfl) rfl rfl (by (try simp only [List.map_toArray, List.map_cons, List.map_nil]); first | done | rfl | (simp only [List.length_drop, List.length_take]; rfl)) ?_
            with_reducible refine (impl_alike.calls ((rd_T25 l0 x15_2).f0) ((rd_T25 l0 x15_2).f1) _ _ ((rd_T25 l0 x15_2).f2) ((rd_T25 l0 0).f0) ((rd_T25 l0 0).f1) _ _ ((rd_T25 l0 0).f2) false _ ?side1 ?side2 ?side3 ?side4 A11.out).mono ?_
            (case side1 => repeat (first | exact HR197_2.out | exact (Kd.C_below HR197_2.out HB.out) | (with_reducible refine Kd.C_alloc ?_ _) | (with_reducible refine Kd.C_drewN ?_ _) | (with_reducible refine Kd.C_drew ?_)))
            (case side2 => exact HC197_2.out)
            (case side3 => repeat (first | exact HR200_2.out | exact (Kd.C_below HR200_2.out HB.out) | (with_reducible refine Kd.C_alloc ?_ _) | (with_reducible refine Kd.C_drewN ?_ _) | (with_reducible refine Kd.C_drew ?_)))
            (case side4 => exact HC200_2.out)
            rintro e w24 ⟨rfl, hb⟩
            refine ⟨_, rfl, ?_⟩
            have n0_ := z0g (blk_below (g := gb198) (o := .cells #[.int .i64 ((rd_T25 l0 x15_2).f0), .int .i64 ((rd_T25 l0 x15_2).f1), .slice A197_2 ((rd_T25 l0 x15_2).f2).length c197_2] 25 (0, 0)) (by (with_reducible repeat (first | refine z1g ?_ _ | refine z3g ?_ | refine z2g ?_ _)); exact BK198.out) hb)
            have n1_ := z0g (below_step (by repeat (first | (with_reducible first | exact HB.out | apply z4g | apply z5g | apply z6g | refine z7g ?_ GE198.out) | exact HB.out)) hb)
            clear BK198
            clear HB
            have BK198 := n0_
            have HB := n1_
            clear n0_ n1_
            (try clear hb)
            (try clear hb2)
            (try clear hk)
            (try clear hi)
            refine hK.out _ _ ⟨(x3g BK198.out 0).trans rfl, (x3g BK198.out 1).trans rfl, (x3g BK198.out 2).trans rfl, ((HB.out.cell (World.block_lt_of_cell? w _ hw200_0)).trans hw200_0), ((HB.out.cell (World.block_lt_of_cell? w _ hw200_1)).trans hw200_1), ((HB.out.cell (World.block_lt_of_cell? w _ hw200_2)).trans hw200_2)⟩ (fun hHeld => ?_)
            clear hK K
            refine norm_ (a' := ?_) ?_ ?_
            rotate_left
            ·show Act.put _ (some 27) _ = _
             simp only [Act.put, s1g_, s2g_, s3g_, i64_w, i32_w]
             rfl
            refine pure_ (i := 9) (N := some 28) (v := ?_) (a' := ?_) (bsg_ 11 1023) rfl rfl (any_of HT_.out (by kernel_rfl)) (fun _ _ _ h => h) (Or.inl ⟨by rfl, ?_⟩) ?_ ?_
            rotate_left
            ·intro w'
             go_simp
             with_reducible rfl
            rotate_left
            ·simp only [Act.put, s1g_, s2g_, s3g_, i64_w, i32_w]
             rfl
            refine pure_ (i := 10) (N := some 29) (v := ?_) (a' := ?_) (bsg_ 11 2047) rfl rfl (any_of HT_.out (by kernel_rfl)) (fun _ _ _ h => h) (Or.inl ⟨by rfl, ?_⟩) ?_ ?_
            rotate_left
            ·intro w'
             go_simp
             with_reducible rfl
            rotate_left
            ·simp only [Act.put, s1g_, s2g_, s3g_, i64_w, i32_w]
             rfl
            refine done_ (done_of HT_.out (by kernel_rfl)) ?_
            try go_wp2
            go_ret
            exact ⟨by first | rfl | (simp [errW_none, errW_some] <;> rfl) | (simp [*, errW_none, errW_some] <;> rfl), by repeat (first | (with_reducible first | exact HB.out | apply z4g | apply z5g | apply z6g | refine z7g ?_ GE198.out) | exact HB.out)⟩
          ·rw [if_neg c10] at H
           exact absurd H (by simp)
         ·replace c9 := Bool.eq_false_iff.mpr c9
          subst c9
          have H1 : (some false) = some r := by rw [if_neg (show ¬ (false = true) by decide)] at H; first | exact H | (simp only [if_true] at H ⊢; exact H)
          clear H
          have H := H1
          clear H1
          obtain rfl := Option.some.inj H
          have p197 : 0 ≤ (x15_2 : Int) := of_decide_eq_true (by first | (with_reducible assumption) | assumption)
          have q197 : x15_2 < (l0.length : Int) := of_decide_eq_true (by first | (with_reducible assumption) | assumption)
          obtain ⟨ad197, A197_2, c197_2, e197, hx197_0, hx197_1, hx197_2, hl197_2, hi197_2⟩ := at_T25 HR0.out x15_2 p197 q197
          cases e197
          replace hx197_0 := (HB.out.cell (World.block_lt_of_cell? w _ hx197_0)).trans hx197_0
          replace hx197_1 := (HB.out.cell (World.block_lt_of_cell? w _ hx197_1)).trans hx197_1
          replace hx197_2 := (HB.out.cell (World.block_lt_of_cell? w _ hx197_2)).trans hx197_2
          have HR197_2 := z0g hi197_2
          have HC197_2 := z0g hl197_2
          clear hi197_2 hl197_2
          replace p197 := eq_true p197
          replace q197 := eq_true q197
          try go_wp2_with (first | ((with_reducible refine gate_dst (N := 4) rfl ?_); (try (refine gate_guard (by rfl) ?_; dsimp only)); refine box_event ?hg (N := 4) ?hd (cs := #[.int .i64 0, .int .i64 0, .slice none 0 0]) (t := 25) ?hr ?_; (case hd => rfl); (case hg => rfl); (case hr => first | (go_simp; done) | (go_simp; rfl)); intro gb198 hg w25 hbox hb; have n0_ := z0g (below_step (by repeat (first | (with_reducible first | exact HB.out | apply z4g | apply z5g | apply z6g) | exact HB.out)) hb); have n1_ := z0g (hbox); have n2_ := z0g ((by rw [hg]; exact (below_size (by repeat (first | (with_reducible first | exact HB.out | apply z4g | apply z5g | apply z6g) | exact HB.out))) : w.heap.size ≤ gb198)); have n3_ := z0g ((by rw [hg]; exact (below_size (by repeat (first | (with_reducible first | exact HB.out | apply z4g | apply z5g | apply z6g) | exact HB.out))) : w.heap.size ≤ gb198)); clear HB; have HB := n0_; have BK198 := n1_; have GW198 := n2_; have GE198 := n3_; clear n0_ n1_ n2_ n3_; clear hb hbox hg; have hcz26_0 : w25.cell? ⟨gb198, 0, none⟩ = some (.int .i64 0) := (x3g BK198.out 0).trans rfl; have hcz26_1 : w25.cell? ⟨gb198, 1, none⟩ = some (.int .i64 0) := (x3g BK198.out 1).trans rfl; have hcz26_2 : w25.cell? ⟨gb198, 2, none⟩ = some (.slice none 0 0) := (x3g BK198.out 2).trans rfl; have hfz26_0 := x2g BK198.out 0; have hfz26_1 := x2g BK198.out 1; have hfz26_2 := x2g BK198.out 2))
          have n0_ : Aside0 ((((w25.setCell ⟨gb198, 0, none⟩ (.int .i64 ((rd_T25 l0 x15_2).f0))).setCell ⟨gb198, 1, none⟩ (.int .i64 ((rd_T25 l0 x15_2).f1))).setCell ⟨gb198, 2, none⟩ (.slice A197_2 ((rd_T25 l0 x15_2).f2).length c197_2)).heap[gb198]? = some (.cells #[.int .i64 ((rd_T25 l0 x15_2).f0), .int .i64 ((rd_T25 l0 x15_2).f1), .slice A197_2 ((rd_T25 l0 x15_2).f2).length c197_2] 25 (0, 0))) := ⟨by (with_reducible repeat (first | refine z1g ?_ _ | refine z3g ?_ | refine z2g ?_ _)); refine blk_put (cs := #[.int .i64 ((rd_T25 l0 x15_2).f0), .int .i64 ((rd_T25 l0 x15_2).f1), .slice none 0 0]) ?_ 2 _ rfl; (with_reducible repeat (first | refine z1g ?_ _ | refine z3g ?_ | refine z2g ?_ _)); refine blk_put (cs := #[.int .i64 ((rd_T25 l0 x15_2).f0), .int .i64 0, .slice none 0 0]) ?_ 1 _ rfl; (with_reducible repeat (first | refine z1g ?_ _ | refine z3g ?_ | refine z2g ?_ _)); refine blk_put (cs := #[.int .i64 0, .int .i64 0, .slice none 0 0]) ?_ 0 _ rfl; (with_reducible repeat (first | refine z1g ?_ _ | refine z3g ?_ | refine z2g ?_ _)); exact BK198.out⟩
          have n1_ : Aside0 (Below w.heap.size w (((w25.setCell ⟨gb198, 0, none⟩ (.int .i64 ((rd_T25 l0 x15_2).f0))).setCell ⟨gb198, 1, none⟩ (.int .i64 ((rd_T25 l0 x15_2).f1))).setCell ⟨gb198, 2, none⟩ (.slice A197_2 ((rd_T25 l0 x15_2).f2).length c197_2))) := ⟨by repeat (first | (with_reducible first | exact HB.out | apply z4g | apply z5g | apply z6g | refine z7g ?_ GE198.out) | exact HB.out)⟩
          (try clear BK198)
          (try clear HB)
          generalize (((w25.setCell ⟨gb198, 0, none⟩ (.int .i64 ((rd_T25 l0 x15_2).f0))).setCell ⟨gb198, 1, none⟩ (.int .i64 ((rd_T25 l0 x15_2).f1))).setCell ⟨gb198, 2, none⟩ (.slice A197_2 ((rd_T25 l0 x15_2).f2).length c197_2)) = w27 at n0_ n1_ ⊢
          have BK198 := n0_
          have HB := n1_
          clear n0_ n1_
          have n0_ := z0g (z3g BK198.out)
          have n1_ := z0g (z6g HB.out)
          clear BK198
          clear HB
          have BK198 := n0_
          have HB := n1_
          clear n0_ n1_
          refine start_ (n := 11) (S := fun w' => w'.cell? ⟨gb198, 0, none⟩ = some (.int .i64 ((rd_T25 l0 x15_2).f0)) ∧ w'.cell? ⟨gb198, 1, none⟩ = some (.int .i64 ((rd_T25 l0 x15_2).f1)) ∧ w'.cell? ⟨gb198, 2, none⟩ = some (.slice A197_2 ((rd_T25 l0 x15_2).f2).length c197_2)) (ds := []) (bsg_ 11 0) (by kernel_rfl) rfl rfl ⟨(x3g BK198.out 0).trans rfl, (x3g BK198.out 1).trans rfl, (x3g BK198.out 2).trans rfl⟩ (fun hHeld => ?_); refine with_tabW impl_IsStack.tab6 impl_IsStack.bits6 (fun HT_ HW_ => ?_)
          generalize w27.drew = w28 at BK198 HB hHeld ⊢
          refine take_ (i := 0) (N := some 19) (v := ?_) (a' := ?_) (bsg_ 11 1) rfl rfl (take_ofW HT_.out HW_.out (by kernel_rfl)) (fun _ _ _ h => h) (Or.inl ⟨by rfl, ?_⟩) hHeld ?_ ?_
          rotate_left
          ·rintro w' ⟨s0, s1, s2⟩
           go_simp
           with_reducible rfl
          rotate_left
          ·simp only [Act.put, s1g_, s2g_, s3g_, i64_w, i32_w]
           rfl
          refine one_ (i := 1) (N := some 20) (bsg_ 11 3) rfl rfl (one_of HT_.out (by kernel_rfl)) (by decide) (fun K hK => ?_)
          refine goes_ Try.func21 (by kernel_rfl) rfl #[.agg #[.int .i64 ((rd_T25 l0 x15_2).f0), .int .i64 ((rd_T25 l0 x15_2).f1), .slice A197_2 ((rd_T25 l0 x15_2).f2).length c197_2]] (by rfl) rfl rfl (by (try simp only [List.map_toArray, List.map_cons, List.map_nil]); first | done | rfl | (simp only [List.length_drop, List.length_take]; rfl)) ?_
          with_reducible refine (impl_IsPlate.calls ((rd_T25 l0 x15_2).f0) ((rd_T25 l0 x15_2).f1) _ _ ((rd_T25 l0 x15_2).f2) false _ ?side1 ?side2 A8.out).mono ?_
          (case side1 => repeat (first | exact HR197_2.out | exact (Kd.C_below HR197_2.out HB.out) | (with_reducible refine Kd.C_alloc ?_ _) | (with_reducible refine Kd.C_drewN ?_ _) | (with_reducible refine Kd.C_drew ?_)))
          (case side2 => exact HC197_2.out)
          rintro e w29 ⟨rfl, hb⟩
          refine ⟨_, rfl, ?_⟩
          have n0_ := z0g (blk_below (g := gb198) (o := .cells #[.int .i64 ((rd_T25 l0 x15_2).f0), .int .i64 ((rd_T25 l0 x15_2).f1), .slice A197_2 ((rd_T25 l0 x15_2).f2).length c197_2] 25 (0, 0)) (by (with_reducible repeat (first | refine z1g ?_ _ | refine z3g ?_ | refine z2g ?_ _)); exact BK198.out) hb)
          have n1_ := z0g (below_step (by repeat (first | (with_reducible first | exact HB.out | apply z4g | apply z5g | apply z6g | refine z7g ?_ GE198.out) | exact HB.out)) hb)
          clear BK198
          clear HB
          have BK198 := n0_
          have HB := n1_
          clear n0_ n1_
          (try clear hb)
          (try clear hb2)
          (try clear hk)
          (try clear hi)
          refine hK.out _ _ ⟨(x3g BK198.out 0).trans rfl, (x3g BK198.out 1).trans rfl, (x3g BK198.out 2).trans rfl⟩ (fun hHeld => ?_)
          clear hK K
          refine norm_ (a' := ?_) ?_ ?_
          rotate_left
          ·show Act.put _ (some 20) _ = _
           simp only [Act.put, s1g_, s2g_, s3g_, i64_w, i32_w]
           rfl
          refine pure_ (i := 2) (N := some 21) (v := ?_) (a' := ?_) (bsg_ 11 7) rfl rfl (any_of HT_.out (by kernel_rfl)) (fun _ _ _ h => h) (Or.inl ⟨by rfl, ?_⟩) ?_ ?_
          rotate_left
          ·intro w'
           go_simp
           with_reducible rfl
          rotate_left
          ·simp only [Act.put, s1g_, s2g_, s3g_, i64_w, i32_w]
           rfl
          refine pure_ (i := 3) (N := some 22) (v := ?_) (a' := ?_) (bsg_ 11 15) rfl rfl (any_of HT_.out (by kernel_rfl)) (fun _ _ _ h => h) (Or.inl ⟨by rfl, ?_⟩) ?_ ?_
          rotate_left
          ·intro w'
           go_simp
           with_reducible rfl
          rotate_left
          ·simp only [Act.put, s1g_, s2g_, s3g_, i64_w, i32_w]
           rfl
          refine pure_ (i := 4) (N := some 23) (v := undef) (a' := ?_) (bsg_ 11 31) rfl rfl (any_of HT_.out (by kernel_rfl)) (fun _ _ _ h => h) (Or.inr ⟨by rfl, rfl⟩) ?_ ?_
          rotate_left
          ·simp only [Act.put, s1g_, s2g_, s3g_, i64_w, i32_w]
           rfl
          refine pure_ (i := 5) (N := some 24) (v := undef) (a' := ?_) (bsg_ 11 63) rfl rfl (any_of HT_.out (by kernel_rfl)) (fun _ _ _ h => h) (Or.inr ⟨by rfl, rfl⟩) ?_ ?_
          rotate_left
          ·simp only [Act.put, s1g_, s2g_, s3g_, i64_w, i32_w]
           rfl
          refine pure_ (i := 6) (N := some 25) (v := undef) (a' := ?_) (bsg_ 11 127) rfl rfl (any_of HT_.out (by kernel_rfl)) (fun _ _ _ h => h) (Or.inr ⟨by rfl, rfl⟩) ?_ ?_
          rotate_left
          ·simp only [Act.put, s1g_, s2g_, s3g_, i64_w, i32_w]
           rfl
          refine pure_ (i := 7) (N := some 26) (v := undef) (a' := ?_) (bsg_ 11 255) rfl rfl (any_of HT_.out (by kernel_rfl)) (fun _ _ _ h => h) (Or.inr ⟨by rfl, rfl⟩) ?_ ?_
          rotate_left
          ·simp only [Act.put, s1g_, s2g_, s3g_, i64_w, i32_w]
           rfl
          refine pure_ (i := 8) (N := some 27) (v := undef) (a' := ?_) (bsg_ 11 511) rfl rfl (any_of HT_.out (by kernel_rfl)) (fun _ _ _ h => h) (Or.inr ⟨by rfl, rfl⟩) ?_ ?_
          rotate_left
          ·simp only [Act.put, s1g_, s2g_, s3g_, i64_w, i32_w]
           rfl
          refine pure_ (i := 9) (N := some 28) (v := undef) (a' := ?_) (bsg_ 11 1023) rfl rfl (any_of HT_.out (by kernel_rfl)) (fun _ _ _ h => h) (Or.inr ⟨by rfl, rfl⟩) ?_ ?_
          rotate_left
          ·simp only [Act.put, s1g_, s2g_, s3g_, i64_w, i32_w]
           rfl
          refine pure_ (i := 10) (N := some 29) (v := ?_) (a' := ?_) (bsg_ 11 2047) rfl rfl (any_of HT_.out (by kernel_rfl)) (fun _ _ _ h => h) (Or.inl ⟨by rfl, ?_⟩) ?_ ?_
          rotate_left
          ·intro w'
           go_simp
           with_reducible rfl
          rotate_left
          ·simp only [Act.put, s1g_, s2g_, s3g_, i64_w, i32_w]
           rfl
          refine done_ (done_of HT_.out (by kernel_rfl)) ?_
          try go_wp2
          go_ret
          exact ⟨by first | rfl | (simp [errW_none, errW_some] <;> rfl) | (simp [*, errW_none, errW_some] <;> rfl), by repeat (first | (with_reducible first | exact HB.out | apply z4g | apply z5g | apply z6g | refine z7g ?_ GE198.out) | exact HB.out)⟩
        ·rw [if_neg c7] at H
         exact absurd H (by simp)
       ·rw [if_neg c6] at H
        exact absurd H (by simp)
      ·rw [if_neg c5] at H
       have c5b0 : decide (x15_2 < (l0.length : Int)) = false := decide_eq_false c5
       clear c5
       obtain rfl := Option.some.inj H
       go_wp2
       go_ret
       exact ⟨by first | rfl | (simp [errW_none, errW_some] <;> rfl) | (simp [*, errW_none, errW_some] <;> rfl), by repeat (first | (with_reducible first | exact HB.out | apply z4g | apply z5g | apply z6g) | exact HB.out)⟩

end Go.Proofs.Ytheihidfbalioaa.PFnExactDeskOk
