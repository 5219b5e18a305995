/- Machine side of laws FnDesk: written for this claim by the kit's print program under this session's wip/tools/mp_setup.py (with contracts of the session's own, wip/ext). -/
import Derived.Test.YtkcgnnepgebekaaGreatDoorPFnDeskx0
import Derived.Test.YtkcgnnepgebekaaGreatDoorPFnDeskx3
import Derived.Test.YtkcgnnepgebekaaGreatDoorPFnDeskx4
namespace Go.Proofs.YtkcgnnepgebekaaGreatDoor.PFnDesk
open Go.RowKit Go.Proofs.YtkcgnnepgebekaaGreatDoorW.PrintWords Go.Proofs.YtkcgnnepgebekaaGreatDoorW.PrintLast Go.Proofs.YtkcgnnepgebekaaGreatDoorW.PrintMore
attribute [local go_sem] max2_int min2_int max_two min_two max_three min_three max_four min_four   -- for this text's walks alone
set_option linter.unusedVariables false
set_option linter.unusedSimpArgs false
-- squeezed: words under short names
set_option linter.defProp false in
def z0g := @Aside0.mk
set_option linter.defProp false in
def x2g := @blk_frozen
set_option linter.defProp false in
def x3g := @blk_cell
def bsg_ (n m : Nat) : Array Bool := ((List.range n).map fun i => m.testBit i).toArray
theorem s1g_ {α : Type} (l : List α) (i : Nat) (a : α) : l.toArray.setIfInBounds i a = (l.set i a).toArray := List.setIfInBounds_toArray l i a
theorem s2g_ {α : Type} (a b : α) (l : List α) : (a :: l).set 0 b = b :: l := rfl
theorem s3g_ {α : Type} (a b : α) (n : Nat) (l : List α) : (a :: l).set (n + 1) b = a :: l.set n b := rfl

def impl_alike.f (a0_0 : Int) (a0_1 : Int) (l0_2 : List Int) (a1_0 : Int) (a1_1 : Int) (l1_2 : List Int) : Option (Bool) := (impl_IsPicture.f a0_0 a0_1 l0_2).bind fun t247 => (if t247 = true then ((impl_IsPicture.f a1_0 a1_1 l1_2).bind fun t248 => (if t248 = true then (if a0_0 = a1_0 then (some (a0_1 == a1_1)) else (none)) else (none))) else (none))
set_option maxHeartbeats 8000000 in
set_option maxRecDepth 100000 in
theorem impl_alike.calls (a0_0 : Int) (a0_1 : Int) (A0_2 : Option Addr) (c0_2 : Nat) (l0_2 : List Int) (a1_0 : Int) (a1_1 : Int) (A1_2 : Option Addr) (c1_2 : Nat) (l1_2 : List Int) (r : Bool) (w : World) (hr0_2 : Kd.C (Kd.int .i64) w A0_2 l0_2.length l0_2) (hc0_2 : l0_2.length ≤ c0_2) (hr1_2 : Kd.C (Kd.int .i64) w A1_2 l1_2.length l1_2) (hc1_2 : l1_2.length ≤ c1_2) (h : impl_alike.f a0_0 a0_1 l0_2 a1_0 a1_1 l1_2 = some r) :
  Calls Tryz.prog 53 #[.agg #[.int .i64 a0_0, .int .i64 a0_1, .slice A0_2 l0_2.length c0_2], .agg #[.int .i64 a1_0, .int .i64 a1_1, .slice A1_2 l1_2.length c1_2]] w fun e w' => e = .returned (.bool r) ∧ Below w.heap.size w w' := by
 have hu27 := Tryz.underlying27
 have HR0_2 := z0g hr0_2
 have HC0_2 := z0g hc0_2
 clear hr0_2 hc0_2
 have HR1_2 := z0g hr1_2
 have HC1_2 := z0g hc1_2
 clear hr1_2 hc1_2
 have HB := z0g (Below.refl w.heap.size w)
 have H := h
 unfold impl_alike.f at H
 clear h
 replace H := Option.bind_eq_some_iff.mp H
 obtain ⟨t247, A30, H⟩ := H
 (try dsimp only at H)
 have A3 := z0g A30
 clear A30
 by_cases c4 : t247 = true
 ·subst c4
  rw [if_pos rfl] at H
  replace H := Option.bind_eq_some_iff.mp H
  obtain ⟨t248, A50, H⟩ := H
  (try dsimp only at H)
  have A5 := z0g A50
  clear A50
  by_cases c6 : t248 = true
  ·subst c6
   rw [if_pos rfl] at H
   by_cases c7 : a0_0 = a1_0
   ·rw [if_pos c7] at H
    have c7b0 : (a0_0 == a1_0) = true := beq_iff_eq.mpr c7
    have c7b1 : (a0_0 != a1_0) = false := bne_eq_false_iff_eq.mpr c7
    clear c7
    obtain rfl := Option.some.inj H
    go_enter Tryz.func53, Tryz.ntmps53
    go_wp2_with (first | ((with_reducible refine gate_dst (N := 2) rfl ?_); refine box_event rfl (N := 2) rfl (cs := #[.int .i64 a0_0, .int .i64 a0_1, .slice A0_2 l0_2.length c0_2]) (t := 27) (by first | (go_simp; done) | (go_simp; rfl)) ?_; intro gb245 hg w8 hbox hb; have n_ := a4 (dU HB.out hb) (hbox) (gE hg HB.out) (gE hg HB.out); clear HB; obtain ⟨HB, BK245, GW245, GE245⟩ := n_; have gi_245 := GEc.mk GE245.out; clear hb hbox hg) | ((with_reducible refine gate_dst (N := 3) rfl ?_); refine box_event rfl (N := 3) rfl (cs := #[.int .i64 a1_0, .int .i64 a1_1, .slice A1_2 l1_2.length c1_2]) (t := 27) (by first | (go_simp; done) | (go_simp; rfl)) ?_; intro gb246 hg w9 hbox hb; have n_ := a7 (bU BK245.out hb) (dU HB.out hb) (hbox) (gE hg HB.out) (gE hg HB.out) (nL hg BK245.out) (nG hg BK245.out); clear BK245 HB; obtain ⟨BK245, HB, BK246, GW246, GE246, NB245_246, NB246_245⟩ := n_; have gi_246 := GEc.mk GE246.out; clear hb hbox hg; have hnb10 := NB245_246.out; have hnc10 := NB246_245.out; have hcz11_0 : w9.cell? ⟨gb245, 0, none⟩ = some (.int .i64 a0_0) := (x3g BK245.out 0).trans rfl; have hcz11_1 : w9.cell? ⟨gb245, 1, none⟩ = some (.int .i64 a0_1) := (x3g BK245.out 1).trans rfl; have hcz11_2 : w9.cell? ⟨gb245, 2, none⟩ = some (.slice A0_2 l0_2.length c0_2) := (x3g BK245.out 2).trans rfl; have hfz11_0 := x2g BK245.out 0; have hfz11_1 := x2g BK245.out 1; have hfz11_2 := x2g BK245.out 2) | ((with_reducible refine gate_callee (f := 17) rfl ?_); refine goesL_ (some 6) rfl rfl Tryz.func17 (by kernel_rfl) rfl #[.agg #[.int .i64 a0_0, .int .i64 a0_1, .slice A0_2 l0_2.length c0_2]] rfl (by (try simp only [List.map_toArray, List.map_cons, List.map_nil]); first | done | rfl | (simp only [List.length_drop, List.length_take]; rfl)) ?_; (with_reducible refine (impl_IsPicture.calls a0_0 a0_1 _ _ l0_2 true _ ?side1 ?side2 A3.out).mono ?_); (case side1 => repeat (first | exact HR0_2.out | exact (Kd.C_below HR0_2.out HB.out) | (with_reducible refine Kd.C_alloc ?_ _) | (with_reducible refine Kd.C_drewN ?_ _) | (with_reducible refine Kd.C_drew ?_))); (case side2 => exact HC0_2.out); rintro e w12 ⟨rfl, hb⟩; refine ⟨_, rfl, ?_⟩; have n_ := a3 (bU BK245.out hb) (bU BK246.out hb) (dU HB.out hb); clear BK245 BK246 HB; obtain ⟨BK245, BK246, HB⟩ := n_; (try clear hb); have hcz13_0 : w12.cell? ⟨gb246, 0, none⟩ = some (.int .i64 a1_0) := (x3g BK246.out 0).trans rfl; have hcz13_1 : w12.cell? ⟨gb246, 1, none⟩ = some (.int .i64 a1_1) := (x3g BK246.out 1).trans rfl; have hcz13_2 : w12.cell? ⟨gb246, 2, none⟩ = some (.slice A1_2 l1_2.length c1_2) := (x3g BK246.out 2).trans rfl; have hfz13_0 := x2g BK246.out 0; have hfz13_1 := x2g BK246.out 1; have hfz13_2 := x2g BK246.out 2) | (go_at_call 17; (with_reducible refine (impl_IsPicture.calls a1_0 a1_1 _ _ l1_2 true _ ?side1 ?side2 A5.out).mono ?_); (case side1 => repeat (first | exact HR1_2.out | exact (Kd.C_below HR1_2.out HB.out) | (with_reducible refine Kd.C_alloc ?_ _) | (with_reducible refine Kd.C_drewN ?_ _) | (with_reducible refine Kd.C_drew ?_))); (case side2 => exact HC1_2.out); rintro e w14 ⟨rfl, hb⟩; have n_ := a3 (bU BK245.out hb) (bU BK246.out hb) (dU HB.out hb); clear BK245 BK246 HB; obtain ⟨BK245, BK246, HB⟩ := n_; (try clear hb); have hcz15_0 : w14.cell? ⟨gb245, 0, none⟩ = some (.int .i64 a0_0) := (x3g BK245.out 0).trans rfl; have hcz15_1 : w14.cell? ⟨gb245, 1, none⟩ = some (.int .i64 a0_1) := (x3g BK245.out 1).trans rfl; have hcz15_2 : w14.cell? ⟨gb245, 2, none⟩ = some (.slice A0_2 l0_2.length c0_2) := (x3g BK245.out 2).trans rfl; have hfz15_0 := x2g BK245.out 0; have hfz15_1 := x2g BK245.out 1; have hfz15_2 := x2g BK245.out 2; have hcz16_0 : w14.cell? ⟨gb246, 0, none⟩ = some (.int .i64 a1_0) := (x3g BK246.out 0).trans rfl; have hcz16_1 : w14.cell? ⟨gb246, 1, none⟩ = some (.int .i64 a1_1) := (x3g BK246.out 1).trans rfl; have hcz16_2 : w14.cell? ⟨gb246, 2, none⟩ = some (.slice A1_2 l1_2.length c1_2) := (x3g BK246.out 2).trans rfl; have hfz16_0 := x2g BK246.out 0; have hfz16_1 := x2g BK246.out 1; have hfz16_2 := x2g BK246.out 2))
    go_ret
    exact ⟨by first | rfl | (simp [errW_none, errW_some] <;> rfl) | (simp [*, errW_none, errW_some] <;> rfl), dV HB.out⟩
   ·rw [if_neg c7] at H
    exact absurd H (by simp)
  ·replace c6 := Bool.eq_false_iff.mpr c6
   subst c6
   rw [if_neg (show ¬ (false = true) by decide)] at H
   exact absurd H (by simp)
 ·replace c4 := Bool.eq_false_iff.mpr c4
  subst c4
  rw [if_neg (show ¬ (false = true) by decide)] at H
  exact absurd H (by simp)

mutual
def impl_IsStack.j0 : Nat → List (S27) → Bool → Option (Bool)
 | 0, _, _ => none
 | k + 1, x0, x12 => if x12 = true then (none) else (impl_IsStack.l0 k x0 x0 (x0.length : Int) 0)
def impl_IsStack.l0 : Nat → List (S27) → List (S27) → Int → Int → Option (Bool)
 | 0, _, _, _, _ => none
 | k + 1, x0, x13, x14, x15 => if x15 < x14 then (if 0 ≤ x15 then (if x15 < (x13.length : Int) then ((impl_IsPlate.f ((rd_T27 x13 x15).f0) ((rd_T27 x13 x15).f1) ((rd_T27 x13 x15).f2)).bind fun t251 => (if t251 = true then (if 0 < (x0.length : Int) then ((impl_alike.f ((rd_T27 x13 x15).f0) ((rd_T27 x13 x15).f1) ((rd_T27 x13 x15).f2) ((rd_T27 x0 0).f0) ((rd_T27 x0 0).f1) ((rd_T27 x0 0).f2)).bind fun t253 => (if t253 = true then (impl_IsStack.l0 k x0 x13 x14 (wrap64 (x15 + 1))) else (none))) else (none)) else (none))) else (none)) else (none)) else (some true)
end
def impl_IsStack.f (k : Nat) (l0 : List (S27)) : Option (Bool) := if (l0.length : Int) < 1 then (impl_IsStack.j0 k l0 true) else (impl_IsStack.j0 k l0 (decide ((l0.length : Int) > 4)))
def impl_IsStack.T6 : Bool × List (List Nat × List Nat) := (true, [([], []), ([0], [0]), ([1], [1]), ([2, 1], [2]), ([3], [3]), ([3], [3]), ([5, 3], [3, 5]), ([6, 3], [3, 6]), ([4, 7, 3, 3], [3, 4, 7]), ([8, 3], [3, 8]), ([3, 9], [3, 9])])
def impl_IsStack.B6 : List Nat := [0, 1, 3, 7, 15, 15, 47, 111, 255, 511, 1023]
theorem impl_IsStack.tab6 : rtab .any (opsOf Tryz.f52 6) = impl_IsStack.T6 := by kernel_rfl
theorem impl_IsStack.bits6 : waitsOk impl_IsStack.T6.2 impl_IsStack.B6 = true := by kernel_rfl
set_option maxHeartbeats 8000000 in
set_option maxRecDepth 100000 in
theorem impl_IsStack.calls (k : Nat) (A0 : Option Addr) (c0 : Nat) (l0 : List (S27)) (r : Bool) (w : World) (hr0 : Kd.C k27 w A0 l0.length l0) (hc0 : l0.length ≤ c0) (h : impl_IsStack.f k l0 = some r) :
  Calls Tryz.prog 52 #[.slice A0 l0.length c0] w fun e w' => e = .returned (.bool r) ∧ Below w.heap.size w w' := by
 have hu27 := Tryz.underlying27
 have HR0 := z0g hr0
 have HC0 := z0g hc0
 clear hr0 hc0
 have HB := z0g (Below.refl w.heap.size w)
 have H := h
 unfold impl_IsStack.f at H
 clear h
 have HC2 := z0g H
 clear H
 go_enter Tryz.func52, Tryz.ntmps52
 go_upto_region 1 with (fail)
 go_cut [12] (fun v12 wc => ∃ (kq : Nat) (x12_1 : Bool), v12 = .bool x12_1 ∧ Aside0 (impl_IsStack.j0 kq l0 x12_1 = some r) ∧ Aside0 (kq ≤ k) ∧ Aside0 (Below w.heap.size w wc))
 case first =>
  have H := HC2.out
  clear HC2
  by_cases c3 : (l0.length : Int) < 1
  ·rw [if_pos c3] at H
   have c3b0 : decide ((l0.length : Int) < 1) = true := decide_eq_true c3
   have c3b1 : decide (l0.length < 1) = true := decide_eq_true (by omega)
   clear c3
   (first | rw [c3b0] | (simp only [i64_w, i32_w]; rw [c3b0]) | skip)
   have H' := z0g H
   clear H
   go_wp2
   go_meet
   case rel => exact ⟨_, (true), (by first | rfl | (simp; done) | (simp [*]; done)), H', ⟨by first | omega | exact Nat.le_refl _⟩, ⟨dV HB.out⟩⟩
  ·rw [if_neg c3] at H
   have c3b0 : decide ((l0.length : Int) < 1) = false := decide_eq_false c3
   have c3b1 : decide (l0.length < 1) = false := decide_eq_false (by omega)
   clear c3
   (first | rw [c3b0] | (simp only [i64_w, i32_w]; rw [c3b0]) | skip)
   have H' := z0g H
   clear H
   go_wp2
   go_meet
   case rel => exact ⟨_, (decide ((l0.length : Int) > 4)), (by first | rfl | (simp; done) | (simp [*]; done)), H', ⟨by first | omega | exact Nat.le_refl _⟩, ⟨dV HB.out⟩⟩
 case rest =>
  clear HC2
  try clear p2
  try clear c3
  try clear c3b0
  try clear c3b1
  obtain ⟨kq, x12_1, rfl, HA, HJ1, HB⟩ := hcut
  cases kq with
  | zero => exact absurd HA.out (by simp [impl_IsStack.j0])
  | succ kj1 =>
   have H := HA.out
   clear HA
   simp only [impl_IsStack.j0] at H
   by_cases c4 : x12_1 = true
   ·subst c4
    rw [if_pos rfl] at H
    exact absurd H (by simp)
   ·replace c4 := Bool.eq_false_iff.mpr c4
    subst c4
    rw [if_neg (show ¬ (false = true) by decide)] at H
    have H' := z0g H
    clear H
    go_wp2
    go_loopg [15] kj1 (fun kq v15 w' => ∃ (x15_2 : Int), v15 = .int .i64 x15_2 ∧ Aside0 (impl_IsStack.l0 kq l0 l0 (l0.length : Int) x15_2 = some r) ∧ Aside0 (kq ≤ kj1) ∧ Aside0 (Below w.heap.size w w'))
    case atStart => exact ⟨(0), (by first | rfl | (simp; done) | (simp [*]; done)), H', ⟨Nat.le_refl _⟩, ⟨dV HB.out⟩⟩
    case round =>
     clear H'
     try clear p2
     try clear c3
     try clear c3b0
     try clear c3b1
     try clear c4
     try clear p2
     obtain ⟨x15_2, rfl, HA, HK2, HB⟩ := hrel
     cases gk with
     | zero => exact absurd HA.out (by simp [impl_IsStack.l0])
     | succ k2 =>
      have H := HA.out
      clear HA
      simp only [impl_IsStack.l0] at H
      by_cases c5 : x15_2 < (l0.length : Int)
      ·rw [if_pos c5] at H
       have c5b0 : decide (x15_2 < (l0.length : Int)) = true := decide_eq_true c5
       clear c5
       by_cases c6 : 0 ≤ x15_2
       ·rw [if_pos c6] at H
        have c6b0 : decide (0 ≤ x15_2) = true := decide_eq_true c6
        clear c6
        by_cases c7 : x15_2 < (l0.length : Int)
        ·rw [if_pos c7] at H
         have c7b0 : decide (x15_2 < (l0.length : Int)) = true := decide_eq_true c7
         clear c7
         replace H := Option.bind_eq_some_iff.mp H
         obtain ⟨t251, A80, H⟩ := H
         (try dsimp only at H)
         have A8 := z0g A80
         clear A80
         by_cases c9 : t251 = true
         ·subst c9
          rw [if_pos rfl] at H
          by_cases c10 : 0 < (l0.length : Int)
          ·rw [if_pos c10] at H
           have c10b0 : decide (0 < (l0.length : Int)) = true := decide_eq_true c10
           have c10b1 : decide (0 < l0.length) = true := decide_eq_true (by omega)
           clear c10
           replace H := Option.bind_eq_some_iff.mp H
           obtain ⟨t253, A110, H⟩ := H
           (try dsimp only at H)
           have A11 := z0g A110
           clear A110
           by_cases c12 : t253 = true
           ·subst c12
            rw [if_pos rfl] at H
            have H' := z0g H
            clear H
            have p249 : 0 ≤ (x15_2 : Int) := of_decide_eq_true (by first | (with_reducible assumption) | assumption)
            have q249 : x15_2 < (l0.length : Int) := of_decide_eq_true (by first | (with_reducible assumption) | assumption)
            obtain ⟨ad249, A249_2, c249_2, e249, hx249_0, hx249_1, hx249_2, hl249_2, hi249_2⟩ := at_T27 HR0.out x15_2 p249 q249
            cases e249
            try replace hx249_0 := (HB.out.cell (World.block_lt_of_cell? w _ hx249_0)).trans hx249_0
            try replace hx249_1 := (HB.out.cell (World.block_lt_of_cell? w _ hx249_1)).trans hx249_1
            try replace hx249_2 := (HB.out.cell (World.block_lt_of_cell? w _ hx249_2)).trans hx249_2
            have HR249_2 := z0g hi249_2
            have HC249_2 := z0g hl249_2
            clear hi249_2 hl249_2
            replace p249 := eq_true p249
            replace q249 := eq_true q249
            try go_wp2_with (first | ((with_reducible refine gate_dst (N := 4) rfl ?_); (try (refine gate_guard (by rfl) ?_; dsimp only)); refine box_event rfl (N := 4) rfl (cs := #[.int .i64 0, .int .i64 0, .slice none 0 0]) (t := 27) (by first | (go_simp; done) | (go_simp; rfl)) ?_; intro gb250 hg w13 hbox hb; have n_ := a4 (dU HB.out hb) (hbox) (gE hg HB.out) (gE hg HB.out); clear HB; obtain ⟨HB, BK250, GW250, GE250⟩ := n_; have gi_250 := GEc.mk GE250.out; clear hb hbox hg; have hcz14_0 : w13.cell? ⟨gb250, 0, none⟩ = some (.int .i64 0) := (x3g BK250.out 0).trans rfl; have hcz14_1 : w13.cell? ⟨gb250, 1, none⟩ = some (.int .i64 0) := (x3g BK250.out 1).trans rfl; have hcz14_2 : w13.cell? ⟨gb250, 2, none⟩ = some (.slice none 0 0) := (x3g BK250.out 2).trans rfl; have hfz14_0 := x2g BK250.out 0; have hfz14_1 := x2g BK250.out 1; have hfz14_2 := x2g BK250.out 2))
            have n0_ : Aside0 ((((w13.setCell ⟨gb250, 0, none⟩ (.int .i64 ((rd_T27 l0 x15_2).f0))).setCell ⟨gb250, 1, none⟩ (.int .i64 ((rd_T27 l0 x15_2).f1))).setCell ⟨gb250, 2, none⟩ (.slice A249_2 ((rd_T27 l0 x15_2).f2).length c249_2)).heap[gb250]? = some (.cells #[.int .i64 ((rd_T27 l0 x15_2).f0), .int .i64 ((rd_T27 l0 x15_2).f1), .slice A249_2 ((rd_T27 l0 x15_2).f2).length c249_2] 27 (0, 0))) := ⟨by (with_reducible repeat (first | refine blk_drewN ?_ _ | refine blk_drew ?_ | refine blk_alloc ?_ _)); refine blk_put (cs := #[.int .i64 ((rd_T27 l0 x15_2).f0), .int .i64 ((rd_T27 l0 x15_2).f1), .slice none 0 0]) ?_ 2 _ rfl; (with_reducible repeat (first | refine blk_drewN ?_ _ | refine blk_drew ?_ | refine blk_alloc ?_ _)); refine blk_put (cs := #[.int .i64 ((rd_T27 l0 x15_2).f0), .int .i64 0, .slice none 0 0]) ?_ 1 _ rfl; (with_reducible repeat (first | refine blk_drewN ?_ _ | refine blk_drew ?_ | refine blk_alloc ?_ _)); refine blk_put (cs := #[.int .i64 0, .int .i64 0, .slice none 0 0]) ?_ 0 _ rfl; (with_reducible repeat (first | refine blk_drewN ?_ _ | refine blk_drew ?_ | refine blk_alloc ?_ _)); exact BK250.out⟩
            have n1_ : Aside0 (Below w.heap.size w (((w13.setCell ⟨gb250, 0, none⟩ (.int .i64 ((rd_T27 l0 x15_2).f0))).setCell ⟨gb250, 1, none⟩ (.int .i64 ((rd_T27 l0 x15_2).f1))).setCell ⟨gb250, 2, none⟩ (.slice A249_2 ((rd_T27 l0 x15_2).f2).length c249_2))) := ⟨dV HB.out⟩
            (try clear BK250)
            (try clear HB)
            generalize (((w13.setCell ⟨gb250, 0, none⟩ (.int .i64 ((rd_T27 l0 x15_2).f0))).setCell ⟨gb250, 1, none⟩ (.int .i64 ((rd_T27 l0 x15_2).f1))).setCell ⟨gb250, 2, none⟩ (.slice A249_2 ((rd_T27 l0 x15_2).f2).length c249_2)) = w15 at n0_ n1_ ⊢
            have BK250 := n0_
            have HB := n1_
            clear n0_ n1_
            have n_ := a2 (blk_drew BK250.out) (below_drew1 HB.out); clear BK250 HB; obtain ⟨BK250, HB⟩ := n_
            have p252 : 0 ≤ (0 : Int) := (by omega)
            have q252 : 0 < (l0.length : Int) := of_decide_eq_true (by first | (with_reducible assumption) | assumption)
            obtain ⟨ad252, A252_2, c252_2, e252, hx252_0, hx252_1, hx252_2, hl252_2, hi252_2⟩ := at_T27 HR0.out 0 p252 q252
            have hw252_2 := hx252_2
            (try rw [show ((0 : Int)).toNat = 0 from rfl] at hw252_2)
            (try rw [show 0 * 3 = 0 from rfl] at hw252_2)
            (try rw [Addr.add_zero'] at hw252_2)
            have hw252_1 := hx252_1
            (try rw [show ((0 : Int)).toNat = 0 from rfl] at hw252_1)
            (try rw [show 0 * 3 = 0 from rfl] at hw252_1)
            (try rw [Addr.add_zero'] at hw252_1)
            have hw252_0 := hx252_0
            (try rw [show ((0 : Int)).toNat = 0 from rfl] at hw252_0)
            (try rw [show 0 * 3 = 0 from rfl] at hw252_0)
            (try rw [Addr.add_zero'] at hw252_0)
            obtain rfl : ad249 = ad252 := (by injection e252)
            have qi252 : (0 < l0.length) = True := eq_true (by omega)
            (try rw [show ((0 : Int)).toNat = 0 from rfl] at hx252_0)
            (try rw [show 0 * 3 = 0 from rfl] at hx252_0)
            (try rw [Addr.add_zero'] at hx252_0)
            (try rw [show ((0 : Int)).toNat = 0 from rfl] at hx252_1)
            (try rw [show 0 * 3 = 0 from rfl] at hx252_1)
            (try rw [Addr.add_zero'] at hx252_1)
            (try rw [show ((0 : Int)).toNat = 0 from rfl] at hx252_2)
            (try rw [show 0 * 3 = 0 from rfl] at hx252_2)
            (try rw [Addr.add_zero'] at hx252_2)
            try replace hx252_0 := (HB.out.cell (World.block_lt_of_cell? w _ hx252_0)).trans hx252_0
            try replace hx252_1 := (HB.out.cell (World.block_lt_of_cell? w _ hx252_1)).trans hx252_1
            try replace hx252_2 := (HB.out.cell (World.block_lt_of_cell? w _ hx252_2)).trans hx252_2
            have HR252_2 := z0g hi252_2
            have HC252_2 := z0g hl252_2
            clear hi252_2 hl252_2
            replace p252 := eq_true p252
            replace q252 := eq_true q252
            refine start_ (n := 11) (S := fun w' => w'.cell? ⟨gb250, 0, none⟩ = some (.int .i64 ((rd_T27 l0 x15_2).f0)) ∧ w'.cell? ⟨gb250, 1, none⟩ = some (.int .i64 ((rd_T27 l0 x15_2).f1)) ∧ w'.cell? ⟨gb250, 2, none⟩ = some (.slice A249_2 ((rd_T27 l0 x15_2).f2).length c249_2) ∧ w'.cell? ad249 = some (.int .i64 ((rd_T27 l0 0).f0)) ∧ w'.cell? ⟨ad249.block, ad249.off + 1, none⟩ = some (.int .i64 ((rd_T27 l0 0).f1)) ∧ w'.cell? ⟨ad249.block, ad249.off + 2, none⟩ = some (.slice A252_2 ((rd_T27 l0 0).f2).length c252_2)) (ds := []) (bsg_ 11 0) (by kernel_rfl) rfl rfl ⟨(x3g BK250.out 0).trans rfl, (x3g BK250.out 1).trans rfl, (x3g BK250.out 2).trans rfl, ((HB.out.cell (World.block_lt_of_cell? w _ hw252_0)).trans hw252_0), ((HB.out.cell (World.block_lt_of_cell? w _ hw252_1)).trans hw252_1), ((HB.out.cell (World.block_lt_of_cell? w _ hw252_2)).trans hw252_2)⟩ (fun hHeld => ?_); refine with_tabW impl_IsStack.tab6 impl_IsStack.bits6 (fun HT_ HW_ => ?_)
            generalize w15.drew = w16 at BK250 HB HR252_2 hx252_0 hx252_1 hx252_2 hHeld ⊢
            refine take_ (i := 0) (N := some 19) (v := ?_) (a' := ?_) (bsg_ 11 1) rfl rfl (take_ofW HT_.out HW_.out (by kernel_rfl)) (fun _ _ _ h => h) (Or.inl ⟨by rfl, ?_⟩) hHeld ?_ ?_
            rotate_left
            ·rintro w' ⟨s0, s1, s2, s3, s4, s5⟩
             go_simp
             with_reducible rfl
            rotate_left
            ·simp only [Act.put, s1g_, s2g_, s3g_, i64_w, i32_w]
             rfl
            refine one_ (i := 1) (N := some 20) (bsg_ 11 3) rfl rfl (one_of HT_.out (by kernel_rfl)) (by decide) (fun K hK => ?_)
            refine goes_ Tryz.func24 (by kernel_rfl) rfl #[.agg #[.int .i64 ((rd_T27 l0 x15_2).f0), .int .i64 ((rd_T27 l0 x15_2).f1), .slice A249_2 ((rd_T27 l0 x15_2).f2).length c249_2]] (by rfl) rfl rfl (by (try simp only [List.map_toArray, List.map_cons, List.map_nil]); first | done | rfl | (simp only [List.length_drop, List.length_take]; rfl)) ?_
            with_reducible refine (impl_IsPlate.calls ((rd_T27 l0 x15_2).f0) ((rd_T27 l0 x15_2).f1) _ _ ((rd_T27 l0 x15_2).f2) true _ ?side1 ?side2 A8.out).mono ?_
            (case side1 => repeat (first | exact HR249_2.out | exact (Kd.C_below HR249_2.out HB.out) | (with_reducible refine Kd.C_alloc ?_ _) | (with_reducible refine Kd.C_drewN ?_ _) | (with_reducible refine Kd.C_drew ?_)))
            (case side2 => exact HC249_2.out)
            rintro e w17 ⟨rfl, hb⟩
            refine ⟨_, rfl, ?_⟩
            have n_ := a2 (bU BK250.out hb) (dU HB.out hb); clear BK250 HB; obtain ⟨BK250, HB⟩ := n_
            (try clear hb)
            refine hK.out _ _ ⟨(x3g BK250.out 0).trans rfl, (x3g BK250.out 1).trans rfl, (x3g BK250.out 2).trans rfl, ((HB.out.cell (World.block_lt_of_cell? w _ hw252_0)).trans hw252_0), ((HB.out.cell (World.block_lt_of_cell? w _ hw252_1)).trans hw252_1), ((HB.out.cell (World.block_lt_of_cell? w _ hw252_2)).trans hw252_2)⟩ (fun hHeld => ?_)
            clear hK K
            refine norm_ (a' := ?_) ?_ ?_
            rotate_left
            ·show Act.put _ (some 20) _ = _
             simp only [Act.put, s1g_, s2g_, s3g_, i64_w, i32_w]
             rfl
            refine pz 2 (some 21) ?_ (bsg_ 11 7) rfl rfl HT_.out (by kernel_rfl) (fun _ _ _ h => h) (Or.inl ⟨by rfl, ?_⟩) ?_ ?_ ?_
            rotate_left
            ·intro w'
             go_simp
             with_reducible rfl
            rotate_left
            ·simp only [Act.put, s1g_, s2g_, s3g_, i64_w, i32_w]
             rfl
            refine pz 3 (some 22) ?_ (bsg_ 11 15) rfl rfl HT_.out (by kernel_rfl) (fun _ _ _ h => h) (Or.inl ⟨by rfl, ?_⟩) ?_ ?_ ?_
            rotate_left
            ·intro w'
             go_simp
             with_reducible rfl
            rotate_left
            ·simp only [Act.put, s1g_, s2g_, s3g_, i64_w, i32_w]
             rfl
            refine pz 5 (some 24) ?_ (bsg_ 11 47) rfl rfl HT_.out (by kernel_rfl) (fun _ _ _ h => h) (Or.inl ⟨by rfl, ?_⟩) ?_ ?_ ?_
            rotate_left
            ·intro w'
             go_simp
             with_reducible rfl
            rotate_left
            ·simp only [Act.put, s1g_, s2g_, s3g_, i64_w, i32_w]
             rfl
            refine pz 6 (some 25) ?_ (bsg_ 11 111) rfl rfl HT_.out (by kernel_rfl) (fun _ _ _ h => h) (Or.inl ⟨by rfl, ?_⟩) ?_ ?_ ?_
            rotate_left
            ·intro w'
             go_simp
             with_reducible rfl
            rotate_left
            ·simp only [Act.put, s1g_, s2g_, s3g_, i64_w, i32_w]
             rfl
            refine take_ (i := 4) (N := some 23) (v := ?_) (a' := ?_) (bsg_ 11 127) rfl rfl (take_ofW HT_.out HW_.out (by kernel_rfl)) (fun _ _ _ h => h) (Or.inl ⟨by rfl, ?_⟩) hHeld ?_ ?_
            rotate_left
            ·rintro w' ⟨s0, s1, s2, s3, s4, s5⟩
             go_simp
             with_reducible rfl
            rotate_left
            ·simp only [Act.put, s1g_, s2g_, s3g_, i64_w, i32_w]
             rfl
            refine take_ (i := 7) (N := some 26) (v := ?_) (a' := ?_) (bsg_ 11 255) rfl rfl (take_ofW HT_.out HW_.out (by kernel_rfl)) (fun _ _ _ h => h) (Or.inl ⟨by rfl, ?_⟩) hHeld ?_ ?_
            rotate_left
            ·rintro w' ⟨s0, s1, s2, s3, s4, s5⟩
             go_simp
             with_reducible rfl
            rotate_left
            ·simp only [Act.put, s1g_, s2g_, s3g_, i64_w, i32_w]
             rfl
            refine one_ (i := 8) (N := some 27) (bsg_ 11 511) rfl rfl (one_of HT_.out (by kernel_rfl)) (by decide) (fun K hK => ?_)
            refine goes_ Tryz.func53 (by kernel_rfl) rfl #[.agg #[.int .i64 ((rd_T27 l0 x15_2).f0), .int .i64 ((rd_T27 l0 x15_2).f1), .slice A249_2 ((rd_T27 l0 x15_2).f2).length c249_2], .agg #[.int .i64 ((rd_T27 l0 0).f0), .int .i64 ((rd_T27 l0 0).f1), .slice A252_2 ((rd_T27 l0 0).f2).length c252_2]] (by rfl) rfl rfl (by (try simp only [List.map_toArray, List.map_cons, List.map_nil]); first | done | rfl | (simp only [List.length_drop, List.length_take]; rfl)) ?_
            with_reducible refine (impl_alike.calls ((rd_T27 l0 x15_2).f0) ((rd_T27 l0 x15_2).f1) _ _ ((rd_T27 l0 x15_2).f2) ((rd_T27 l0 0).f0) ((rd_T27 l0 0).f1) _ _ ((rd_T27 l0 0).f2) true _ ?side1 ?side2 ?side3 ?side4 A11.out).mono ?_
            (case side1 => repeat (first | exact HR249_2.out | exact (Kd.C_below HR249_2.out HB.out) | (with_reducible refine Kd.C_alloc ?_ _) | (with_reducible refine Kd.C_drewN ?_ _) | (with_reducible refine Kd.C_drew ?_)))
            (case side2 => exact HC249_2.out)
            (case side3 => repeat (first | exact HR252_2.out | exact (Kd.C_below HR252_2.out HB.out) | (with_reducible refine Kd.C_alloc ?_ _) | (with_reducible refine Kd.C_drewN ?_ _) | (with_reducible refine Kd.C_drew ?_)))
            (case side4 => exact HC252_2.out)
            rintro e w18 ⟨rfl, hb⟩
            refine ⟨_, rfl, ?_⟩
            have n_ := a2 (bU BK250.out hb) (dU HB.out hb); clear BK250 HB; obtain ⟨BK250, HB⟩ := n_
            (try clear hb)
            refine hK.out _ _ ⟨(x3g BK250.out 0).trans rfl, (x3g BK250.out 1).trans rfl, (x3g BK250.out 2).trans rfl, ((HB.out.cell (World.block_lt_of_cell? w _ hw252_0)).trans hw252_0), ((HB.out.cell (World.block_lt_of_cell? w _ hw252_1)).trans hw252_1), ((HB.out.cell (World.block_lt_of_cell? w _ hw252_2)).trans hw252_2)⟩ (fun hHeld => ?_)
            clear hK K
            refine norm_ (a' := ?_) ?_ ?_
            rotate_left
            ·show Act.put _ (some 27) _ = _
             simp only [Act.put, s1g_, s2g_, s3g_, i64_w, i32_w]
             rfl
            refine pz 9 (some 28) ?_ (bsg_ 11 1023) rfl rfl HT_.out (by kernel_rfl) (fun _ _ _ h => h) (Or.inl ⟨by rfl, ?_⟩) ?_ ?_ ?_
            rotate_left
            ·intro w'
             go_simp
             with_reducible rfl
            rotate_left
            ·simp only [Act.put, s1g_, s2g_, s3g_, i64_w, i32_w]
             rfl
            refine pz 10 (some 29) ?_ (bsg_ 11 2047) rfl rfl HT_.out (by kernel_rfl) (fun _ _ _ h => h) (Or.inl ⟨by rfl, ?_⟩) ?_ ?_ ?_
            rotate_left
            ·intro w'
             go_simp
             with_reducible rfl
            rotate_left
            ·simp only [Act.put, s1g_, s2g_, s3g_, i64_w, i32_w]
             rfl
            refine done_ (done_of HT_.out (by kernel_rfl)) ?_
            try go_wp2
            go_roundg k2
            case measure => have := HJ1.out; have := HK2.out; omega
            case rel => exact ⟨(wrap64 (x15_2 + 1)), (by first | rfl | (simp; done) | (simp [*]; done)), H', ⟨by have := HJ1.out; have := HK2.out; omega⟩, ⟨dV HB.out⟩⟩
           ·replace c12 := Bool.eq_false_iff.mpr c12
            subst c12
            rw [if_neg (show ¬ (false = true) by decide)] at H
            exact absurd H (by simp)
          ·rw [if_neg c10] at H
           exact absurd H (by simp)
         ·replace c9 := Bool.eq_false_iff.mpr c9
          subst c9
          rw [if_neg (show ¬ (false = true) by decide)] at H
          exact absurd H (by simp)
        ·rw [if_neg c7] at H
         exact absurd H (by simp)
       ·rw [if_neg c6] at H
        exact absurd H (by simp)
      ·rw [if_neg c5] at H
       have c5b0 : decide (x15_2 < (l0.length : Int)) = false := decide_eq_false c5
       clear c5
       obtain rfl := Option.some.inj H
       go_wp2
       go_ret
       exact ⟨by first | rfl | (simp [errW_none, errW_some] <;> rfl) | (simp [*, errW_none, errW_some] <;> rfl), dV HB.out⟩

end Go.Proofs.YtkcgnnepgebekaaGreatDoor.PFnDesk
