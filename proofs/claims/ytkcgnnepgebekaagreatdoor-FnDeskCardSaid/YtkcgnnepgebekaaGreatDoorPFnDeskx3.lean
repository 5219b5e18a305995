/- Machine side of laws FnDesk: written for this claim by the kit's print program under this session's wip/tools/mp_setup.py (with contracts of the session's own, wip/ext). -/
import Derived.Test.YtkcgnnepgebekaaGreatDoorPFnDeskx0
import Derived.Test.YtkcgnnepgebekaaGreatDoorPFnDeskx1
import Derived.Test.YtkcgnnepgebekaaGreatDoorPFnDeskx2
namespace Go.Proofs.YtkcgnnepgebekaaGreatDoor.PFnDesk
open Go.RowKit Go.Proofs.YtkcgnnepgebekaaGreatDoorW.PrintWords Go.Proofs.YtkcgnnepgebekaaGreatDoorW.PrintLast Go.Proofs.YtkcgnnepgebekaaGreatDoorW.PrintMore
attribute [local go_sem] max2_int min2_int max_two min_two max_three min_three max_four min_four   -- for this text's walks alone
set_option linter.unusedVariables false
set_option linter.unusedSimpArgs false
-- squeezed: words under short names
set_option linter.defProp false in
def z0d := @Aside0.mk
set_option linter.defProp false in
def z1d := @blk_drewN
set_option linter.defProp false in
def z2d := @blk_alloc
set_option linter.defProp false in
def z3d := @blk_drew
set_option linter.defProp false in
def y2d := @Kd.C_alloc
set_option linter.defProp false in
def y3d := @Kd.C_drewN
set_option linter.defProp false in
def y4d := @Kd.C_drew
set_option linter.defProp false in
def y9d := @Kd.C_below
set_option linter.defProp false in
def x1d := @Kd.R_far
set_option linter.defProp false in
def x2d := @blk_frozen
set_option linter.defProp false in
def x3d := @blk_cell
def bsd_ (n m : Nat) : Array Bool := ((List.range n).map fun i => m.testBit i).toArray
theorem s1d_ {α : Type} (l : List α) (i : Nat) (a : α) : l.toArray.setIfInBounds i a = (l.set i a).toArray := List.setIfInBounds_toArray l i a
theorem s2d_ {α : Type} (a b : α) (l : List α) : (a :: l).set 0 b = b :: l := rfl
theorem s3d_ {α : Type} (a b : α) (n : Nat) (l : List α) : (a :: l).set (n + 1) b = a :: l.set n b := rfl

mutual
def impl_BayerMatrix.j0 : Nat → Int → Bool → Option (Int × Int × List Int × Bool)
 | 0, _, _ => none
 | k + 1, x0, x10 => if x10 = true then (some (0, 0, ([] : List Int), false)) else (impl_BayerMatrix.l0 k x0 0 1 1 (([0] : List Int)))
def impl_BayerMatrix.l0 : Nat → Int → Int → Int → Int → List Int → Option (Int × Int × List Int × Bool)
 | 0, _, _, _, _, _ => none
 | k + 1, x14, x15, x151000, x151001, x151002 => if x15 < x14 then ((impl_DoubleMatrix.f x151000 x151001 x151002).bind fun bt151 => (impl_BayerMatrix.l0 k x14 (wrap64 (x15 + 1)) bt151.1 bt151.2.1 bt151.2.2.1)) else (some (x151000, x151001, x151002, true))
end
def impl_BayerMatrix.f (k : Nat) (a0 : Int) : Option (Int × Int × List Int × Bool) := if a0 < 0 then (impl_BayerMatrix.j0 k a0 true) else (impl_BayerMatrix.j0 k a0 (decide (a0 > 4)))
set_option maxHeartbeats 8000000 in
set_option maxRecDepth 100000 in
theorem impl_BayerMatrix.calls (k : Nat) (a0 : Int) (r1 : Int) (r2 : Int) (r3 : List Int) (r4 : Bool) (w : World) (h : impl_BayerMatrix.f k a0 = some (r1, r2, r3, r4)) :
  Calls Tryz.prog 7 #[.int .i64 a0] w fun e w' => ∃ v2_ : Value, e = .returned (.tuple #[.agg #[.int .i64 r1, .int .i64 r2, v2_], .bool r4]) ∧ Kd.R (Kd.int .i64) 3 w' w.heap.size (fun _ => True) v2_ r3 ∧ Below w.heap.size w w' := by
 have hu31 := Tryz.underlying31
 have HB := z0d (Below.refl w.heap.size w)
 have H := h
 unfold impl_BayerMatrix.f at H
 clear h
 have HC2 := z0d H
 clear H
 go_enter Tryz.func7, Tryz.ntmps7
 go_upto_region 1 with (first | ((with_reducible refine gate_dst (N := 2) rfl ?_); refine box_event rfl (N := 2) rfl (cs := #[.int .i64 0, .int .i64 0, .slice none 0 0]) (t := 31) (by first | (go_simp; done) | (go_simp; rfl)) ?_; intro gb146 hg w3 hbox hb; have n_ := a4 (dU HB.out hb) (hbox) (gE hg HB.out) (gE hg HB.out); clear HB; obtain ⟨HB, BK146, GW146, GE146⟩ := n_; have gi_146 := GEc.mk GE146.out; clear hb hbox hg))
 (try simp only [Act.put, s1d_, s2d_, s3d_])
 go_cut [10] (fun v10 wc => ∃ (kq : Nat) (x10_1 : Bool), v10 = .bool x10_1 ∧ Aside0 (impl_BayerMatrix.j0 kq a0 x10_1 = some (r1, r2, r3, r4)) ∧ Aside0 (kq ≤ k) ∧ Aside0 (wc.heap[gb146]? = some (.cells #[.int .i64 0, .int .i64 0, (.slice none 0 0)] 31 (0, 0))) ∧ Aside0 (Below w.heap.size w wc))
 case first =>
  have H := HC2.out
  clear HC2
  by_cases c4 : a0 < 0
  ·rw [if_pos c4] at H
   have c4b0 : decide (a0 < 0) = true := decide_eq_true c4
   clear c4
   (first | rw [c4b0] | (simp only [i64_w, i32_w]; rw [c4b0]) | skip)
   have H' := z0d H
   clear H
   go_wp2
   go_meet
   case rel => exact ⟨_, (true), (by first | rfl | (simp; done) | (simp [*]; done)), H', ⟨by first | omega | exact Nat.le_refl _⟩, ⟨by (with_reducible repeat (first | refine z1d ?_ _ | refine z3d ?_ | refine z2d ?_ _)); exact BK146.out⟩, ⟨dV HB.out⟩⟩
  ·rw [if_neg c4] at H
   have c4b0 : decide (a0 < 0) = false := decide_eq_false c4
   clear c4
   (first | rw [c4b0] | (simp only [i64_w, i32_w]; rw [c4b0]) | skip)
   have H' := z0d H
   clear H
   go_wp2
   go_meet
   case rel => exact ⟨_, (decide (a0 > 4)), (by first | rfl | (simp; done) | (simp [*]; done)), H', ⟨by first | omega | exact Nat.le_refl _⟩, ⟨by (with_reducible repeat (first | refine z1d ?_ _ | refine z3d ?_ | refine z2d ?_ _)); exact BK146.out⟩, ⟨dV HB.out⟩⟩
 case rest =>
  clear HC2
  try clear p2
  try clear c4
  try clear c4b0
  obtain ⟨kq, x10_1, rfl, HA, HJ1, BK146, HB⟩ := hcut
  cases kq with
  | zero => exact absurd HA.out (by simp [impl_BayerMatrix.j0])
  | succ kj1 =>
   have H := HA.out
   clear HA
   simp only [impl_BayerMatrix.j0] at H
   by_cases c5 : x10_1 = true
   ·subst c5
    rw [if_pos rfl] at H
    simp only [Option.some.injEq, Prod.mk.injEq] at H
    obtain ⟨rfl, rfl, rfl, rfl⟩ := H
    have hcz6_0 : wc.cell? ⟨gb146, 0, none⟩ = some (.int .i64 0) := (x3d BK146.out 0).trans rfl
    have hcz6_1 : wc.cell? ⟨gb146, 1, none⟩ = some (.int .i64 0) := (x3d BK146.out 1).trans rfl
    have hcz6_2 : wc.cell? ⟨gb146, 2, none⟩ = some (.slice none 0 0) := (x3d BK146.out 2).trans rfl
    have hfz6_0 := x2d BK146.out 0
    have hfz6_1 := x2d BK146.out 1
    have hfz6_2 := x2d BK146.out 2
    go_wp2
    refine bodyPost_ret (results_ct rfl _ _ gb146 31 #[.int .i64 0, .int .i64 0, .slice none 0 0] (0, 0) _ rfl (by (with_reducible repeat (first | refine z1d ?_ _ | refine z3d ?_ | refine z2d ?_ _)); refine blk_put (cs := #[.int .i64 0, .int .i64 0, .slice none 0 0]) ?_ 2 _ rfl; (with_reducible repeat (first | refine z1d ?_ _ | refine z3d ?_ | refine z2d ?_ _)); refine blk_put (cs := #[.int .i64 0, .int .i64 0, .slice none 0 0]) ?_ 1 _ rfl; (with_reducible repeat (first | refine z1d ?_ _ | refine z3d ?_ | refine z2d ?_ _)); refine blk_put (cs := #[.int .i64 0, .int .i64 0, .slice none 0 0]) ?_ 0 _ rfl; (with_reducible repeat (first | refine z1d ?_ _ | refine z3d ?_ | refine z2d ?_ _)); exact BK146.out) Tryz.underlying31 rfl (by kernel_rfl)) rfl ?_
    exact ⟨_, by first | rfl | (simp [errW_none, errW_some] <;> rfl) | (simp [*, errW_none, errW_some] <;> rfl), by first | exact Kd.R_nil _ _ _ _ _ | exact Kd.N_nil _ _ _ _ _ | exact Kd.V_nil _ _ _ _ _ | exact Kd.Q_nil _ _ _ _ _ | exact Kd.S_nil _ _ _ _ _, dV HB.out⟩
   ·replace c5 := Bool.eq_false_iff.mpr c5
    subst c5
    rw [if_neg (show ¬ (false = true) by decide)] at H
    obtain ⟨y147, hy147⟩ : ∃ y_ : List Int, y_ = (([0] : List Int)) := ⟨_, rfl⟩
    replace H : (impl_BayerMatrix.l0 kj1 a0 0 1 1 y147) = some (r1, r2, r3, r4) := by first | (rw [hy147]; with_reducible exact H) | (have H2_ := (Option.bind_some _ _).symm.trans H; rw [hy147]; with_reducible exact H2_) | (have H2_ := (Option.bind_some _ _).symm.trans H; with_reducible exact H2_) | with_reducible exact H | (rw [hy147]; exact H) | exact H
    have Ny147 := z0d hy147
    clear hy147
    have H' := z0d H
    clear H
    go_wp2_with (first | ((with_reducible refine gate_dst (N := 12) rfl ?_); refine Kd.R_lit (Kd.int .i64) _ 3 ?hg (N := 12) ?hd (xs := ([0] : List Int)) (inner := [.int .i64 0]) (ok := fun _ => True) (okp := fun _ => True) ?hr ?hp (fun _ hk => hk) trivial (Below.refl _ _) (Nat.le_refl _) (by simp) ?_; (case hd => rfl); (case hg => rfl); (case hr => first | (go_simp; done) | (go_simp; rfl)); (case hp => exact (Reps.one (show Kd.M (Kd.int .i64) _ _ _ 0 [.int .i64 0] from rfl) (Reps.none _ _))); intro v148 w7 ho8 hb hg_ hnew_; clear hg_ hnew_; (first | rw [← Ny147.out] at ho8 | (simp only [Int.reduceToNat] at ho8; rw [← Ny147.out] at ho8)); have n_ := a3 (Kd.R_lower ho8 (below_size (dV HB.out))) (bU BK146.out hb) (dU HB.out hb); clear BK146 HB; obtain ⟨HO149, BK146, HB⟩ := n_; clear hb ho8; obtain ⟨Ao9, co9, eo9⟩ := Kd.R_slice HO149.out; subst eo9) | ((with_reducible refine gate_dst (N := 4) rfl ?_); refine box_event rfl (N := 4) rfl (cs := #[.int .i64 0, .int .i64 0, .slice none 0 0]) (t := 31) (by first | (go_simp; done) | (go_simp; rfl)) ?_; intro gb150 hg w10 hbox hb; have n_ := a8 (Kd.R_below (rV HO149.out) hb) (bU BK146.out hb) (dU HB.out hb) (hbox) (gE hg HB.out) (gE hg HB.out) (nL hg BK146.out) (nG hg BK146.out); clear HO149 BK146 HB; obtain ⟨HO149, BK146, HB, BK150, GW150, GE150, NB146_150, NB150_146⟩ := n_; have gi_150 := GEc.mk GE150.out; clear hb hbox hg; have hnb11 := NB150_146.out; have hnc11 := NB146_150.out; have hcz12_0 : w10.cell? ⟨gb150, 0, none⟩ = some (.int .i64 0) := (x3d BK150.out 0).trans rfl; have hcz12_1 : w10.cell? ⟨gb150, 1, none⟩ = some (.int .i64 0) := (x3d BK150.out 1).trans rfl; have hcz12_2 : w10.cell? ⟨gb150, 2, none⟩ = some (.slice none 0 0) := (x3d BK150.out 2).trans rfl; have hfz12_0 := x2d BK150.out 0; have hfz12_1 := x2d BK150.out 1; have hfz12_2 := x2d BK150.out 2))
    go_loopg [15] kj1 (fun kq v15 w' => ∃ (x15_2 : Int) (x151000_2 : Int) (x151001_2 : Int) (x151002_2 : List Int) (u151002 : Value), v15 = .int .i64 x15_2 ∧ Aside0 (impl_BayerMatrix.l0 kq a0 x15_2 x151000_2 x151001_2 x151002_2 = some (r1, r2, r3, r4)) ∧ Aside0 (kq ≤ kj1) ∧ Aside0 (Kd.R (Kd.int .i64) 3 w' w.heap.size (fun _ => True) u151002 x151002_2) ∧ Aside0 (w'.heap[gb146]? = some (.cells #[.int .i64 0, .int .i64 0, (.slice none 0 0)] 31 (0, 0))) ∧ Aside0 (w'.heap[gb150]? = some (.cells #[.int .i64 x151000_2, .int .i64 x151001_2, u151002] 31 (0, 0))) ∧ Aside0 (Below w.heap.size w w'))
    case atStart => exact ⟨(0), (1), (1), (y147), (.slice Ao9 y147.length co9), (by first | rfl | (simp; done) | (simp [*]; done)), H', ⟨Nat.le_refl _⟩, ⟨by (with_reducible repeat (first | apply Kd.R_alloc | apply Kd.R_drewN | apply Kd.R_drew)); exact Kd.R_mono (x1d (p := ⟨gb150, 2, none⟩) (x1d (p := ⟨gb150, 1, none⟩) (x1d (p := ⟨gb150, 0, none⟩) (Kd.R_types HO149.out BK150.out (by decide)) (fun _ hk => hk.2) (.int .i64 1)) (fun _ hk => hk.2) (.int .i64 1)) (fun _ hk => hk.2) (.slice Ao9 y147.length co9)) (fun _ hk => trivial)⟩, ⟨by (with_reducible repeat (first | refine z1d ?_ _ | refine z3d ?_ | refine z2d ?_ _)); refine blk_far ?_ NB146_150.out _; (with_reducible repeat (first | refine z1d ?_ _ | refine z3d ?_ | refine z2d ?_ _)); refine blk_far ?_ NB146_150.out _; (with_reducible repeat (first | refine z1d ?_ _ | refine z3d ?_ | refine z2d ?_ _)); refine blk_far ?_ NB146_150.out _; (with_reducible repeat (first | refine z1d ?_ _ | refine z3d ?_ | refine z2d ?_ _)); exact BK146.out⟩, ⟨by (with_reducible repeat (first | refine z1d ?_ _ | refine z3d ?_ | refine z2d ?_ _)); refine blk_put (cs := #[.int .i64 1, .int .i64 1, .slice none 0 0]) ?_ 2 _ rfl; (with_reducible repeat (first | refine z1d ?_ _ | refine z3d ?_ | refine z2d ?_ _)); refine blk_put (cs := #[.int .i64 1, .int .i64 0, .slice none 0 0]) ?_ 1 _ rfl; (with_reducible repeat (first | refine z1d ?_ _ | refine z3d ?_ | refine z2d ?_ _)); refine blk_put (cs := #[.int .i64 0, .int .i64 0, .slice none 0 0]) ?_ 0 _ rfl; (with_reducible repeat (first | refine z1d ?_ _ | refine z3d ?_ | refine z2d ?_ _)); exact BK150.out⟩, ⟨dV HB.out⟩⟩
    case round =>
     clear H'
     try clear c1
     try clear p2
     try clear c4
     try clear c4b0
     try clear c5
     try clear c7
     try clear c11
     try clear hcz12_0
     try clear hcz12_1
     try clear hcz12_2
     try clear hcz6_0
     try clear hcz6_1
     try clear hcz6_2
     try clear hfz12_0
     try clear hfz12_1
     try clear hfz12_2
     try clear hfz6_0
     try clear hfz6_1
     try clear hfz6_2
     try clear p2
     obtain ⟨x15_2, x151000_2, x151001_2, x151002_2, u151002, rfl, HA, HK2, Ha_, BK146, BK150, HB⟩ := hrel
     cases gk with
     | zero => exact absurd HA.out (by simp [impl_BayerMatrix.l0])
     | succ k2 =>
      have H := HA.out
      clear HA
      simp only [impl_BayerMatrix.l0] at H
      by_cases c13 : x15_2 < a0
      ·rw [if_pos c13] at H
       have c13b0 : decide (x15_2 < a0) = true := decide_eq_true c13
       clear c13
       replace H := Option.bind_eq_some_iff.mp H
       obtain ⟨⟨t151, t152, t153, t156⟩, A140, H⟩ := H
       (try dsimp only at H)
       have A14 := z0d A140
       clear A140
       have H' := z0d H
       clear H
       have hnb15 := NB150_146.out
       have hnc15 := NB146_150.out
       have hcz16_0 : wr.cell? ⟨gb150, 0, none⟩ = some (.int .i64 x151000_2) := (x3d BK150.out 0).trans rfl
       have hcz16_1 : wr.cell? ⟨gb150, 1, none⟩ = some (.int .i64 x151001_2) := (x3d BK150.out 1).trans rfl
       have hcz16_2 : wr.cell? ⟨gb150, 2, none⟩ = some (u151002) := (x3d BK150.out 2).trans rfl
       have hfz16_0 := x2d BK150.out 0
       have hfz16_1 := x2d BK150.out 1
       have hfz16_2 := x2d BK150.out 2
       obtain ⟨Ao17, co17, eo17⟩ := Kd.R_slice Ha_.out
       subst eo17
       go_wp2_with (first | ((with_reducible refine gate_callee (f := 15) rfl ?_); refine goesL_ (some 19) rfl rfl Tryz.func15 (by kernel_rfl) rfl #[.agg #[.int .i64 x151000_2, .int .i64 x151001_2, .slice Ao17 x151002_2.length co17]] rfl (by (try simp only [List.map_toArray, List.map_cons, List.map_nil]); first | done | rfl | (simp only [List.length_drop, List.length_take]; rfl)) ?_; (with_reducible refine (impl_DoubleMatrix.calls x151000_2 x151001_2 _ _ x151002_2 t151 t152 t153 t156 _ ?side1 ?side2 A14.out).mono ?_); (case side1 => repeat (first | exact (Kd.R_reads' Ha_.out).2.2 | (with_reducible refine y2d ?_ _) | (with_reducible refine y3d ?_ _) | (with_reducible refine y4d ?_))); (case side2 => exact (Kd.R_reads' Ha_.out).2.1); rintro e w18 ⟨v154, rfl, ho0, hb⟩; refine ⟨_, rfl, ?_⟩; have n_ := a5 (Kd.R_elder' (rV Ha_.out) (Kd.R_base ho0) hb) (Kd.R_lower (Kd.R_new' ho0 (Kd.R_lt (rV Ha_.out))) (below_size (dV HB.out))) (bU BK146.out hb) (bU BK150.out hb) (dU HB.out hb); clear Ha_ BK146 BK150 HB; obtain ⟨Ha_, HO155, BK146, BK150, HB⟩ := n_; (try clear hb); (try clear ho0); have hcz19_0 : w18.cell? ⟨gb150, 0, none⟩ = some (.int .i64 x151000_2) := (x3d BK150.out 0).trans rfl; have hcz19_1 : w18.cell? ⟨gb150, 1, none⟩ = some (.int .i64 x151001_2) := (x3d BK150.out 1).trans rfl; have hcz19_2 : w18.cell? ⟨gb150, 2, none⟩ = some (.slice Ao17 x151002_2.length co17) := (x3d BK150.out 2).trans rfl; have hfz19_0 := x2d BK150.out 0; have hfz19_1 := x2d BK150.out 1; have hfz19_2 := x2d BK150.out 2; obtain ⟨Ao20, co20, eo20⟩ := Kd.R_slice HO155.out; subst eo20))
       go_roundg k2
       case measure => have := HJ1.out; have := HK2.out; omega
       case rel => exact ⟨(wrap64 (x15_2 + 1)), (t151), (t152), (t153), (.slice Ao20 t153.length co20), (by first | rfl | (simp; done) | (simp [*]; done)), H', ⟨by have := HJ1.out; have := HK2.out; omega⟩, ⟨by (with_reducible repeat (first | apply Kd.R_alloc | apply Kd.R_drewN | apply Kd.R_drew)); exact Kd.R_mono (x1d (p := ⟨gb150, 2, none⟩) (x1d (p := ⟨gb150, 1, none⟩) (x1d (p := ⟨gb150, 0, none⟩) (Kd.R_types HO155.out BK150.out (by decide)) (fun _ hk => hk.2) (.int .i64 t151)) (fun _ hk => hk.2) (.int .i64 t152)) (fun _ hk => hk.2) (.slice Ao20 t153.length co20)) (fun _ hk => trivial)⟩, ⟨by (with_reducible repeat (first | refine z1d ?_ _ | refine z3d ?_ | refine z2d ?_ _)); refine blk_far ?_ NB146_150.out _; (with_reducible repeat (first | refine z1d ?_ _ | refine z3d ?_ | refine z2d ?_ _)); refine blk_far ?_ NB146_150.out _; (with_reducible repeat (first | refine z1d ?_ _ | refine z3d ?_ | refine z2d ?_ _)); refine blk_far ?_ NB146_150.out _; (with_reducible repeat (first | refine z1d ?_ _ | refine z3d ?_ | refine z2d ?_ _)); exact BK146.out⟩, ⟨by (with_reducible repeat (first | refine z1d ?_ _ | refine z3d ?_ | refine z2d ?_ _)); refine blk_put (cs := #[.int .i64 t151, .int .i64 t152, .slice Ao17 x151002_2.length co17]) ?_ 2 _ rfl; (with_reducible repeat (first | refine z1d ?_ _ | refine z3d ?_ | refine z2d ?_ _)); refine blk_put (cs := #[.int .i64 t151, .int .i64 x151001_2, .slice Ao17 x151002_2.length co17]) ?_ 1 _ rfl; (with_reducible repeat (first | refine z1d ?_ _ | refine z3d ?_ | refine z2d ?_ _)); refine blk_put (cs := #[.int .i64 x151000_2, .int .i64 x151001_2, .slice Ao17 x151002_2.length co17]) ?_ 0 _ rfl; (with_reducible repeat (first | refine z1d ?_ _ | refine z3d ?_ | refine z2d ?_ _)); exact BK150.out⟩, ⟨dV HB.out⟩⟩
      ·rw [if_neg c13] at H
       have c13b0 : decide (x15_2 < a0) = false := decide_eq_false c13
       clear c13
       simp only [Option.some.injEq, Prod.mk.injEq] at H
       obtain ⟨rfl, rfl, rfl, rfl⟩ := H
       have hnb21 := NB150_146.out
       have hnc21 := NB146_150.out
       have hcz22_0 : wr.cell? ⟨gb150, 0, none⟩ = some (.int .i64 x151000_2) := (x3d BK150.out 0).trans rfl
       have hcz22_1 : wr.cell? ⟨gb150, 1, none⟩ = some (.int .i64 x151001_2) := (x3d BK150.out 1).trans rfl
       have hcz22_2 : wr.cell? ⟨gb150, 2, none⟩ = some (u151002) := (x3d BK150.out 2).trans rfl
       have hfz22_0 := x2d BK150.out 0
       have hfz22_1 := x2d BK150.out 1
       have hfz22_2 := x2d BK150.out 2
       have hcz23_0 : wr.cell? ⟨gb146, 0, none⟩ = some (.int .i64 0) := (x3d BK146.out 0).trans rfl
       have hcz23_1 : wr.cell? ⟨gb146, 1, none⟩ = some (.int .i64 0) := (x3d BK146.out 1).trans rfl
       have hcz23_2 : wr.cell? ⟨gb146, 2, none⟩ = some (.slice none 0 0) := (x3d BK146.out 2).trans rfl
       have hfz23_0 := x2d BK146.out 0
       have hfz23_1 := x2d BK146.out 1
       have hfz23_2 := x2d BK146.out 2
       obtain ⟨Ao24, co24, eo24⟩ := Kd.R_slice Ha_.out
       subst eo24
       go_wp2
       refine bodyPost_ret (results_ct rfl _ _ gb146 31 #[.int .i64 x151000_2, .int .i64 x151001_2, .slice Ao24 x151002_2.length co24] (0, 0) _ rfl (by (with_reducible repeat (first | refine z1d ?_ _ | refine z3d ?_ | refine z2d ?_ _)); refine blk_put (cs := #[.int .i64 x151000_2, .int .i64 x151001_2, .slice none 0 0]) ?_ 2 _ rfl; (with_reducible repeat (first | refine z1d ?_ _ | refine z3d ?_ | refine z2d ?_ _)); refine blk_put (cs := #[.int .i64 x151000_2, .int .i64 0, .slice none 0 0]) ?_ 1 _ rfl; (with_reducible repeat (first | refine z1d ?_ _ | refine z3d ?_ | refine z2d ?_ _)); refine blk_put (cs := #[.int .i64 0, .int .i64 0, .slice none 0 0]) ?_ 0 _ rfl; (with_reducible repeat (first | refine z1d ?_ _ | refine z3d ?_ | refine z2d ?_ _)); exact BK146.out) Tryz.underlying31 rfl (by kernel_rfl)) rfl ?_
       exact ⟨_, by first | rfl | (simp [errW_none, errW_some] <;> rfl) | (simp [*, errW_none, errW_some] <;> rfl), by (with_reducible repeat (first | apply Kd.R_alloc | apply Kd.R_drewN | apply Kd.R_drew)); exact Kd.R_mono (x1d (p := ⟨gb146, 2, none⟩) (x1d (p := ⟨gb146, 1, none⟩) (x1d (p := ⟨gb146, 0, none⟩) (Kd.R_types Ha_.out BK146.out (by decide)) (fun _ hk => hk.2) (.int .i64 x151000_2)) (fun _ hk => hk.2) (.int .i64 x151001_2)) (fun _ hk => hk.2) (.slice Ao24 x151002_2.length co24)) (fun _ hk => trivial), dV HB.out⟩
def impl_within.f (l0 : List Int) (a1 : Int) : Option Bool := if l0.length ≤ 140737488355328 then some (l0.all fun n => decide (0 ≤ n ∧ n ≤ a1)) else none
theorem impl_within.calls (A0 : Option Addr) (c0 : Nat) (l0 : List Int) (a1 : Int) (r : Bool) (w : World) (hr0 : Kd.C (Kd.int .i64) w A0 l0.length l0) (hc0 : l0.length ≤ c0) (h : impl_within.f l0 a1 = some r) :
  Calls Tryz.prog 32 #[.slice A0 l0.length c0, .int .i64 a1] w fun e w' => e = .returned (.bool r) ∧ Below w.heap.size w w' := by
 unfold impl_within.f at h
 split at h
 ·rename_i hl
  obtain rfl := Option.some.inj h
  exact Ext.within A0 c0 l0 a1 w hr0 hl
 ·exact absurd h (by simp)

def impl_IsPicture.f (a0_0 : Int) (a0_1 : Int) (l0_2 : List Int) : Option (Bool) := (impl_sized.f a0_0 a0_1).bind fun t158 => (if t158 = true then (if (l0_2.length : Int) = (wrap64 (a0_0 * a0_1)) then ((impl_within.f l0_2 255).bind fun t159 => (some t159)) else (some false)) else (some false))
set_option maxHeartbeats 8000000 in
set_option maxRecDepth 100000 in
theorem impl_IsPicture.calls (a0_0 : Int) (a0_1 : Int) (A0_2 : Option Addr) (c0_2 : Nat) (l0_2 : List Int) (r : Bool) (w : World) (hr0_2 : Kd.C (Kd.int .i64) w A0_2 l0_2.length l0_2) (hc0_2 : l0_2.length ≤ c0_2) (h : impl_IsPicture.f a0_0 a0_1 l0_2 = some r) :
  Calls Tryz.prog 17 #[.agg #[.int .i64 a0_0, .int .i64 a0_1, .slice A0_2 l0_2.length c0_2]] w fun e w' => e = .returned (.bool r) ∧ Below w.heap.size w w' := by
 have hu27 := Tryz.underlying27
 have HR0_2 := z0d hr0_2
 have HC0_2 := z0d hc0_2
 clear hr0_2 hc0_2
 have HB := z0d (Below.refl w.heap.size w)
 have H := h
 unfold impl_IsPicture.f at H
 clear h
 replace H := Option.bind_eq_some_iff.mp H
 obtain ⟨t158, A20, H⟩ := H
 (try dsimp only at H)
 have A2 := z0d A20
 clear A20
 by_cases c3 : t158 = true
 ·subst c3
  rw [if_pos rfl] at H
  by_cases c4 : (l0_2.length : Int) = (wrap64 (a0_0 * a0_1))
  ·rw [if_pos c4] at H
   have c4b0 : ((l0_2.length : Int) == (wrap64 (a0_0 * a0_1))) = true := beq_iff_eq.mpr c4
   have c4b1 : ((l0_2.length : Int) != (wrap64 (a0_0 * a0_1))) = false := bne_eq_false_iff_eq.mpr c4
   clear c4
   replace H := Option.bind_eq_some_iff.mp H
   obtain ⟨t159, A50, H⟩ := H
   (try dsimp only at H)
   have A5 := z0d A50
   clear A50
   obtain rfl := Option.some.inj H
   go_enter Tryz.func17, Tryz.ntmps17
   go_wp2_with (first | ((with_reducible refine gate_dst (N := 1) rfl ?_); (try (refine gate_guard (by rfl) ?_; dsimp only)); refine box_event rfl (N := 1) rfl (cs := #[.int .i64 a0_0, .int .i64 a0_1, .slice A0_2 l0_2.length c0_2]) (t := 27) (by first | (go_simp; done) | (go_simp; rfl)) ?_; intro gb157 hg w6 hbox hb; have n_ := a4 (dU HB.out hb) (hbox) (gE hg HB.out) (gE hg HB.out); clear HB; obtain ⟨HB, BK157, GW157, GE157⟩ := n_; have gi_157 := GEc.mk GE157.out; clear hb hbox hg; have hcz7_0 : w6.cell? ⟨gb157, 0, none⟩ = some (.int .i64 a0_0) := (x3d BK157.out 0).trans rfl; have hcz7_1 : w6.cell? ⟨gb157, 1, none⟩ = some (.int .i64 a0_1) := (x3d BK157.out 1).trans rfl; have hcz7_2 : w6.cell? ⟨gb157, 2, none⟩ = some (.slice A0_2 l0_2.length c0_2) := (x3d BK157.out 2).trans rfl; have hfz7_0 := x2d BK157.out 0; have hfz7_1 := x2d BK157.out 1; have hfz7_2 := x2d BK157.out 2) | ((with_reducible refine gate_callee (f := 12) rfl ?_); refine goesL_ (some 7) rfl rfl Tryz.func12 (by kernel_rfl) rfl #[.int .i64 a0_0, .int .i64 a0_1] rfl (by (try simp only [List.map_toArray, List.map_cons, List.map_nil]); first | done | rfl | (simp only [List.length_drop, List.length_take]; rfl)) ?_; (with_reducible refine (impl_sized.calls a0_0 a0_1 true _ A2.out).mono ?_); rintro e w' ⟨rfl, ⟨nd, rfl⟩⟩; refine ⟨_, rfl, ?_⟩) | (go_at_call 32; (with_reducible refine (impl_within.calls _ _ l0_2 255 t159 _ ?side1 ?side2 A5.out).mono ?_); (case side1 => repeat (first | exact (y9d HR0_2.out (dV HB.out)) | (with_reducible refine y2d ?_ _) | (with_reducible refine y3d ?_ _) | (with_reducible refine y4d ?_))); (case side2 => exact HC0_2.out); rintro e w8 ⟨rfl, hb⟩; have n_ := a2 (bU BK157.out hb) (dU HB.out hb); clear BK157 HB; obtain ⟨BK157, HB⟩ := n_; (try clear hb)))
   go_ret
   exact ⟨by first | rfl | (simp [errW_none, errW_some] <;> rfl) | (simp [*, errW_none, errW_some] <;> rfl), dV HB.out⟩
  ·rw [if_neg c4] at H
   have c4b0 : ((l0_2.length : Int) == (wrap64 (a0_0 * a0_1))) = false := beq_eq_false_iff_ne.mpr c4
   have c4b1 : ((l0_2.length : Int) != (wrap64 (a0_0 * a0_1))) = true := bne_iff_ne.mpr c4
   obtain rfl := Option.some.inj H
   go_enter Tryz.func17, Tryz.ntmps17
   go_wp2_with (first | ((with_reducible refine gate_dst (N := 1) rfl ?_); (try (refine gate_guard (by rfl) ?_; dsimp only)); refine box_event rfl (N := 1) rfl (cs := #[.int .i64 a0_0, .int .i64 a0_1, .slice A0_2 l0_2.length c0_2]) (t := 27) (by first | (go_simp; done) | (go_simp; rfl)) ?_; intro gb157 hg w9 hbox hb; have n_ := a4 (dU HB.out hb) (hbox) (gE hg HB.out) (gE hg HB.out); clear HB; obtain ⟨HB, BK157, GW157, GE157⟩ := n_; have gi_157 := GEc.mk GE157.out; clear hb hbox hg; have hcz10_0 : w9.cell? ⟨gb157, 0, none⟩ = some (.int .i64 a0_0) := (x3d BK157.out 0).trans rfl; have hcz10_1 : w9.cell? ⟨gb157, 1, none⟩ = some (.int .i64 a0_1) := (x3d BK157.out 1).trans rfl; have hcz10_2 : w9.cell? ⟨gb157, 2, none⟩ = some (.slice A0_2 l0_2.length c0_2) := (x3d BK157.out 2).trans rfl; have hfz10_0 := x2d BK157.out 0; have hfz10_1 := x2d BK157.out 1; have hfz10_2 := x2d BK157.out 2) | ((with_reducible refine gate_callee (f := 12) rfl ?_); refine goesL_ (some 7) rfl rfl Tryz.func12 (by kernel_rfl) rfl #[.int .i64 a0_0, .int .i64 a0_1] rfl (by (try simp only [List.map_toArray, List.map_cons, List.map_nil]); first | done | rfl | (simp only [List.length_drop, List.length_take]; rfl)) ?_; (with_reducible refine (impl_sized.calls a0_0 a0_1 true _ A2.out).mono ?_); rintro e w' ⟨rfl, ⟨nd, rfl⟩⟩; refine ⟨_, rfl, ?_⟩))
   go_ret
   exact ⟨by first | rfl | (simp [errW_none, errW_some] <;> rfl) | (simp [*, errW_none, errW_some] <;> rfl), dV HB.out⟩
 ·replace c3 := Bool.eq_false_iff.mpr c3
  subst c3
  rw [if_neg (show ¬ (false = true) by decide)] at H
  obtain rfl := Option.some.inj H
  go_enter Tryz.func17, Tryz.ntmps17
  go_wp2_with (first | ((with_reducible refine gate_dst (N := 1) rfl ?_); (try (refine gate_guard (by rfl) ?_; dsimp only)); refine box_event rfl (N := 1) rfl (cs := #[.int .i64 a0_0, .int .i64 a0_1, .slice A0_2 l0_2.length c0_2]) (t := 27) (by first | (go_simp; done) | (go_simp; rfl)) ?_; intro gb157 hg w11 hbox hb; have n_ := a4 (dU HB.out hb) (hbox) (gE hg HB.out) (gE hg HB.out); clear HB; obtain ⟨HB, BK157, GW157, GE157⟩ := n_; have gi_157 := GEc.mk GE157.out; clear hb hbox hg; have hcz12_0 : w11.cell? ⟨gb157, 0, none⟩ = some (.int .i64 a0_0) := (x3d BK157.out 0).trans rfl; have hcz12_1 : w11.cell? ⟨gb157, 1, none⟩ = some (.int .i64 a0_1) := (x3d BK157.out 1).trans rfl; have hcz12_2 : w11.cell? ⟨gb157, 2, none⟩ = some (.slice A0_2 l0_2.length c0_2) := (x3d BK157.out 2).trans rfl; have hfz12_0 := x2d BK157.out 0; have hfz12_1 := x2d BK157.out 1; have hfz12_2 := x2d BK157.out 2) | ((with_reducible refine gate_callee (f := 12) rfl ?_); refine goesL_ (some 7) rfl rfl Tryz.func12 (by kernel_rfl) rfl #[.int .i64 a0_0, .int .i64 a0_1] rfl (by (try simp only [List.map_toArray, List.map_cons, List.map_nil]); first | done | rfl | (simp only [List.length_drop, List.length_take]; rfl)) ?_; (with_reducible refine (impl_sized.calls a0_0 a0_1 false _ A2.out).mono ?_); rintro e w' ⟨rfl, ⟨nd, rfl⟩⟩; refine ⟨_, rfl, ?_⟩))
  go_ret
  exact ⟨by first | rfl | (simp [errW_none, errW_some] <;> rfl) | (simp [*, errW_none, errW_some] <;> rfl), dV HB.out⟩

def impl_one.f (a0 : Bool) : Option (Int) := if a0 = true then (some 1) else (some 0)
set_option maxHeartbeats 8000000 in
set_option maxRecDepth 100000 in
theorem impl_one.calls (a0 : Bool) (r : Int) (w : World) (h : impl_one.f a0 = some r) :
  Calls Tryz.prog 19 #[.bool a0] w fun e w' => e = .returned (.int .i64 r) ∧ Drawn0 w w' := by
 have H := h
 unfold impl_one.f at H
 clear h
 by_cases c2 : a0 = true
 ·subst c2
  rw [if_pos rfl] at H
  obtain rfl := Option.some.inj H
  go_enter Tryz.func19, Tryz.ntmps19
  go_wp2
  go_ret
  exact ⟨by first | rfl | (simp; done) | (simp [*]; done), by repeat (first | exact Drawn0.refl _ | apply Drawn0.step)⟩
 ·replace c2 := Bool.eq_false_iff.mpr c2
  subst c2
  rw [if_neg (show ¬ (false = true) by decide)] at H
  obtain rfl := Option.some.inj H
  go_enter Tryz.func19, Tryz.ntmps19
  go_wp2
  go_ret
  exact ⟨by first | rfl | (simp; done) | (simp [*]; done), by repeat (first | exact Drawn0.refl _ | apply Drawn0.step)⟩

def impl_level.f (a0 : Int) (a1 : Int) : Option (Int) := some (wrap64 (Int.tdiv (wrap64 ((wrap64 ((wrap64 (a1 * a0)) * 2)) + 255)) 510))
set_option maxHeartbeats 8000000 in
set_option maxRecDepth 100000 in
theorem impl_level.calls (a0 : Int) (a1 : Int) (r : Int) (w : World) (h : impl_level.f a0 a1 = some r) :
  Calls Tryz.prog 21 #[.int .i64 a0, .int .i64 a1] w fun e w' => e = .returned (.int .i64 r) ∧ Drawn0 w w' := by
 have H := h
 unfold impl_level.f at H
 clear h
 obtain rfl := Option.some.inj H
 go_enter Tryz.func21, Tryz.ntmps21
 go_wp2
 go_ret
 exact ⟨by first | rfl | (simp; done) | (simp [*]; done), by repeat (first | exact Drawn0.refl _ | apply Drawn0.step)⟩

def impl_ScreenPicture_1.f (a0 : Int) (a1 : Int) (a2_0 : Int) (a2_1 : Int) (l2_2 : List Int) (a3_0 : Int) (a3_1 : Int) (l3_2 : List Int) : Option (Int) := (impl_rank.f a2_0 a2_1 l2_2 a0 a1).bind fun t160 => (if 0 ≤ (wrap64 ((wrap64 (a1 * a3_0)) + a0)) then (if (wrap64 ((wrap64 (a1 * a3_0)) + a0)) < (l3_2.length : Int) then ((impl_level.f (l2_2.length : Int) (rd l3_2 (wrap64 ((wrap64 (a1 * a3_0)) + a0)))).bind fun t162 => ((impl_one.f (decide (t160 < t162))).bind fun t163 => (some t163))) else (none)) else (none))
def impl_ScreenPicture_1.T1 : Bool × List (List Nat × List Nat) := (true, [([], []), ([], []), ([], []), ([0, 1, 2], [0, 1, 2]), ([], []), ([4], [4]), ([5], [5]), ([], []), ([7], [7]), ([], []), ([], []), ([10], [10]), ([9, 11], [9, 11]), ([], []), ([12, 13], [12, 13]), ([8, 14], [8, 14]), ([15], [15]), ([6, 16, 3], [6, 16]), ([3, 17], [3, 17]), ([18, 17], [18]), ([19, 19, 0, 1, 2, 3, 4, 5, 6, 7, 8, 9, 10, 11, 12, 13, 14, 15, 16, 17, 18, 19], [19])])
def impl_ScreenPicture_1.B1 : List Nat := [0, 0, 0, 7, 0, 16, 48, 0, 128, 0, 0, 1024, 3584, 0, 15872, 32640, 65408, 131071, 262143, 524287, 1048575]
theorem impl_ScreenPicture_1.tab1 : rtab .any (opsOf Tryz.f18 1) = impl_ScreenPicture_1.T1 := by kernel_rfl
theorem impl_ScreenPicture_1.bits1 : waitsOk impl_ScreenPicture_1.T1.2 impl_ScreenPicture_1.B1 = true := by kernel_rfl
set_option maxHeartbeats 8000000 in
set_option maxRecDepth 100000 in
theorem impl_ScreenPicture_1.calls {g2_ : Nat} {g3_ : Nat} (a0 : Int) (a1 : Int) (a2_0 : Int) (a2_1 : Int) (A2_2 : Option Addr) (c2_2 : Nat) (l2_2 : List Int) (a3_0 : Int) (a3_1 : Int) (A3_2 : Option Addr) (c3_2 : Nat) (l3_2 : List Int) (r : Int) (w : World) (hr2_2 : Kd.C (Kd.int .i64) w A2_2 l2_2.length l2_2) (hc2_2 : l2_2.length ≤ c2_2) (hr3_2 : Kd.C (Kd.int .i64) w A3_2 l3_2.length l3_2) (hc3_2 : l3_2.length ≤ c3_2) (hb2_ : w.heap[g2_]? = some (.cells #[.int .i64 a2_0, .int .i64 a2_1, .slice A2_2 l2_2.length c2_2] 31 (0, 0))) (hb3_ : w.heap[g3_]? = some (.cells #[.int .i64 a3_0, .int .i64 a3_1, .slice A3_2 l3_2.length c3_2] 27 (0, 0))) (h : impl_ScreenPicture_1.f a0 a1 a2_0 a2_1 l2_2 a3_0 a3_1 l3_2 = some r) :
  Calls Tryz.prog 18 #[.int .i64 a0, .int .i64 a1, .pointer (some ⟨g2_, 0, none⟩), .pointer (some ⟨g3_, 0, none⟩)] w fun e w' => e = .returned (.int .i64 r) ∧ Below w.heap.size w w' := by
 have hzc2_0 : w.cell? ⟨g2_, 0, none⟩ = some (.int .i64 a2_0) := (x3d hb2_ 0).trans rfl
 have hzc2_1 : w.cell? ⟨g2_, 1, none⟩ = some (.int .i64 a2_1) := (x3d hb2_ 1).trans rfl
 have hzc2_2 : w.cell? ⟨g2_, 2, none⟩ = some (.slice A2_2 l2_2.length c2_2) := (x3d hb2_ 2).trans rfl
 clear hb2_
 have hzc3_0 : w.cell? ⟨g3_, 0, none⟩ = some (.int .i64 a3_0) := (x3d hb3_ 0).trans rfl
 have hzc3_1 : w.cell? ⟨g3_, 1, none⟩ = some (.int .i64 a3_1) := (x3d hb3_ 1).trans rfl
 have hzc3_2 : w.cell? ⟨g3_, 2, none⟩ = some (.slice A3_2 l3_2.length c3_2) := (x3d hb3_ 2).trans rfl
 clear hb3_
 have HR2_2 := z0d hr2_2
 have HC2_2 := z0d hc2_2
 clear hr2_2 hc2_2
 have HR3_2 := z0d hr3_2
 have HC3_2 := z0d hc3_2
 clear hr3_2 hc3_2
 have HB := z0d (Below.refl w.heap.size w)
 have H := h
 unfold impl_ScreenPicture_1.f at H
 clear h
 replace H := Option.bind_eq_some_iff.mp H
 obtain ⟨t160, A50, H⟩ := H
 (try dsimp only at H)
 have A5 := z0d A50
 clear A50
 obtain ⟨ji6, hji6⟩ : ∃ j_ : Int, (wrap64 ((wrap64 (a1 * a3_0)) + a0)) = j_ := ⟨_, rfl⟩
 replace H : (if 0 ≤ (ji6) then (if (ji6) < (l3_2.length : Int) then ((impl_level.f (l2_2.length : Int) (rd l3_2 (ji6))).bind fun t162 => ((impl_one.f (decide (t160 < t162))).bind fun t163 => (some t163))) else (none)) else (none)) = some r := by first | (rw [hji6] at H; exact H) | (simp only [hji6] at H ⊢; exact H)
 (try rw [hji6] at A5)
 have hji6w : (IntKind.i64.wrap ((wrap64 (a1 * a3_0)) + a0)) = ji6 := (i64_w _).trans hji6
 by_cases c7 : 0 ≤ (ji6)
 ·rw [if_pos c7] at H
  have c7b0 : decide (0 ≤ (ji6)) = true := decide_eq_true c7
  clear c7
  by_cases c8 : (ji6) < (l3_2.length : Int)
  ·rw [if_pos c8] at H
   have c8b0 : decide ((ji6) < (l3_2.length : Int)) = true := decide_eq_true c8
   clear c8
   replace H := Option.bind_eq_some_iff.mp H
   obtain ⟨t162, A90, H⟩ := H
   (try dsimp only at H)
   have A9 := z0d A90
   clear A90
   replace H := Option.bind_eq_some_iff.mp H
   obtain ⟨t163, A100, H⟩ := H
   (try dsimp only at H)
   have A10 := z0d A100
   clear A100
   obtain rfl := Option.some.inj H
   go_enter Tryz.func18, Tryz.ntmps18
   try go_wp2
   have n0_ := z0d (below_drew1 HB.out)
   clear HB
   have HB := n0_
   clear n0_
   have p161 : 0 ≤ ((ji6) : Int) := of_decide_eq_true (by first | (with_reducible assumption) | assumption)
   have q161 : (ji6) < (l3_2.length : Int) := of_decide_eq_true (by first | (with_reducible assumption) | assumption)
   obtain ⟨ad161, e161, hx161_0⟩ := Kd.at_int HR3_2.out (ji6) p161 q161
   have hw161_0 := hx161_0
   cases e161
   try replace hx161_0 := (HB.out.cell (World.block_lt_of_cell? w _ hx161_0)).trans hx161_0
   replace p161 := eq_true p161
   replace q161 := eq_true q161
   refine start_ (n := 21) (S := fun w' => (w'.cell? (ad161.add ((ji6)).toNat) = some (.int .i64 (rd l3_2 (ji6)))) ∧ w'.cell? ⟨g2_, 0, none⟩ = some (.int .i64 a2_0) ∧ w'.cell? ⟨g2_, 1, none⟩ = some (.int .i64 a2_1) ∧ w'.cell? ⟨g2_, 2, none⟩ = some (.slice A2_2 l2_2.length c2_2) ∧ w'.cell? ⟨g3_, 0, none⟩ = some (.int .i64 a3_0) ∧ w'.cell? ⟨g3_, 1, none⟩ = some (.int .i64 a3_1) ∧ w'.cell? ⟨g3_, 2, none⟩ = some (.slice (some ad161) l3_2.length c3_2)) (ds := []) (bsd_ 21 0) (by kernel_rfl) rfl rfl ⟨(((HB.out.cell (World.block_lt_of_cell? w _ hw161_0)).trans hw161_0)), ((HB.out.cell (World.block_lt_of_cell? w _ hzc2_0)).trans hzc2_0), ((HB.out.cell (World.block_lt_of_cell? w _ hzc2_1)).trans hzc2_1), ((HB.out.cell (World.block_lt_of_cell? w _ hzc2_2)).trans hzc2_2), ((HB.out.cell (World.block_lt_of_cell? w _ hzc3_0)).trans hzc3_0), ((HB.out.cell (World.block_lt_of_cell? w _ hzc3_1)).trans hzc3_1), ((HB.out.cell (World.block_lt_of_cell? w _ hzc3_2)).trans hzc3_2)⟩ (fun hHeld => ?_); refine with_tabW impl_ScreenPicture_1.tab1 impl_ScreenPicture_1.bits1 (fun HT_ HW_ => ?_)
   generalize w.drew = w11 at HB hx161_0 hHeld ⊢
   refine take_ (i := 0) (N := some 7) (v := ?_) (a' := ?_) (bsd_ 21 1) rfl rfl (take_ofW HT_.out HW_.out (by kernel_rfl)) (fun _ _ _ h => h) (Or.inl ⟨by rfl, ?_⟩) hHeld ?_ ?_
   rotate_left
   ·rintro w' ⟨s0, t0, t1, t2, t3, t4, t5⟩
    go_simp
    with_reducible rfl
   rotate_left
   ·simp only [Act.put, s1d_, s2d_, s3d_, i64_w, i32_w]
    rfl
   refine pz 1 (some 8) ?_ (bsd_ 21 3) rfl rfl HT_.out (by kernel_rfl) (fun _ _ _ h => h) (Or.inl ⟨by rfl, ?_⟩) ?_ ?_ ?_
   rotate_left
   ·intro w'
    go_simp
    with_reducible rfl
   rotate_left
   ·simp only [Act.put, s1d_, s2d_, s3d_, i64_w, i32_w]
    rfl
   refine pz 2 (some 9) ?_ (bsd_ 21 7) rfl rfl HT_.out (by kernel_rfl) (fun _ _ _ h => h) (Or.inl ⟨by rfl, ?_⟩) ?_ ?_ ?_
   rotate_left
   ·intro w'
    go_simp
    with_reducible rfl
   rotate_left
   ·simp only [Act.put, s1d_, s2d_, s3d_, i64_w, i32_w]
    rfl
   refine pz 4 (some 11) ?_ (bsd_ 21 23) rfl rfl HT_.out (by kernel_rfl) (fun _ _ _ h => h) (Or.inl ⟨by rfl, ?_⟩) ?_ ?_ ?_
   rotate_left
   ·intro w'
    go_simp
    with_reducible rfl
   rotate_left
   ·simp only [Act.put, s1d_, s2d_, s3d_, i64_w, i32_w]
    rfl
   refine take_ (i := 5) (N := some 12) (v := ?_) (a' := ?_) (bsd_ 21 55) rfl rfl (take_ofW HT_.out HW_.out (by kernel_rfl)) (fun _ _ _ h => h) (Or.inl ⟨by rfl, ?_⟩) hHeld ?_ ?_
   rotate_left
   ·rintro w' ⟨s0, t0, t1, t2, t3, t4, t5⟩
    go_simp
    with_reducible rfl
   rotate_left
   ·simp only [Act.put, s1d_, s2d_, s3d_, i64_w, i32_w]
    rfl
   refine pz 6 (some 13) ?_ (bsd_ 21 119) rfl rfl HT_.out (by kernel_rfl) (fun _ _ _ h => h) (Or.inl ⟨by rfl, ?_⟩) ?_ ?_ ?_
   rotate_left
   ·intro w'
    go_simp
    with_reducible rfl
   rotate_left
   ·simp only [Act.put, s1d_, s2d_, s3d_, i64_w, i32_w]
    rfl
   refine pz 7 (some 14) ?_ (bsd_ 21 247) rfl rfl HT_.out (by kernel_rfl) (fun _ _ _ h => h) (Or.inl ⟨by rfl, ?_⟩) ?_ ?_ ?_
   rotate_left
   ·intro w'
    go_simp
    with_reducible rfl
   rotate_left
   ·simp only [Act.put, s1d_, s2d_, s3d_, i64_w, i32_w]
    rfl
   refine take_ (i := 8) (N := some 15) (v := ?_) (a' := ?_) (bsd_ 21 503) rfl rfl (take_ofW HT_.out HW_.out (by kernel_rfl)) (fun _ _ _ h => h) (Or.inl ⟨by rfl, ?_⟩) hHeld ?_ ?_
   rotate_left
   ·rintro w' ⟨s0, t0, t1, t2, t3, t4, t5⟩
    go_simp
    with_reducible rfl
   rotate_left
   ·simp only [Act.put, s1d_, s2d_, s3d_, i64_w, i32_w]
    rfl
   refine pz 9 (some 16) ?_ (bsd_ 21 1015) rfl rfl HT_.out (by kernel_rfl) (fun _ _ _ h => h) (Or.inl ⟨by rfl, ?_⟩) ?_ ?_ ?_
   rotate_left
   ·intro w'
    go_simp
    with_reducible rfl
   rotate_left
   ·simp only [Act.put, s1d_, s2d_, s3d_, i64_w, i32_w]
    rfl
   refine pz 10 (some 17) ?_ (bsd_ 21 2039) rfl rfl HT_.out (by kernel_rfl) (fun _ _ _ h => h) (Or.inl ⟨by rfl, ?_⟩) ?_ ?_ ?_
   rotate_left
   ·intro w'
    go_simp
    with_reducible rfl
   rotate_left
   ·simp only [Act.put, s1d_, s2d_, s3d_, i64_w, i32_w]
    rfl
   refine take_ (i := 11) (N := some 18) (v := ?_) (a' := ?_) (bsd_ 21 4087) rfl rfl (take_ofW HT_.out HW_.out (by kernel_rfl)) (fun _ _ _ h => h) (Or.inl ⟨by rfl, ?_⟩) hHeld ?_ ?_
   rotate_left
   ·rintro w' ⟨s0, t0, t1, t2, t3, t4, t5⟩
    go_simp
    with_reducible rfl
   rotate_left
   ·simp only [Act.put, s1d_, s2d_, s3d_, i64_w, i32_w]
    rfl
   refine pz 12 (some 19) ?_ (bsd_ 21 8183) rfl rfl HT_.out (by kernel_rfl) (fun _ _ _ h => h) (Or.inl ⟨by rfl, ?_⟩) ?_ ?_ ?_
   rotate_left
   ·intro w'
    go_simp
    with_reducible rfl
   rotate_left
   ·simp only [Act.put, s1d_, s2d_, s3d_, i64_w, i32_w]
    rfl
   refine pz 13 (some 20) ?_ (bsd_ 21 16375) rfl rfl HT_.out (by kernel_rfl) (fun _ _ _ h => h) (Or.inl ⟨by rfl, ?_⟩) ?_ ?_ ?_
   rotate_left
   ·intro w'
    go_simp
    with_reducible rfl
   rotate_left
   ·simp only [Act.put, s1d_, s2d_, s3d_, i64_w, i32_w]
    rfl
   refine pz 14 (some 21) ?_ (bsd_ 21 32759) rfl rfl HT_.out (by kernel_rfl) (fun _ _ _ h => h) (Or.inl ⟨by rfl, ?_⟩) ?_ ?_ ?_
   rotate_left
   ·intro w'
    go_simp
    with_reducible rfl
   rotate_left
   ·simp only [Act.put, s1d_, s2d_, s3d_, i64_w, i32_w]
    rfl
   refine pz 15 (some 22) ?_ (bsd_ 21 65527) rfl rfl HT_.out (by kernel_rfl) (fun _ _ _ h => h) (Or.inl ⟨by rfl, ?_⟩) ?_ ?_ ?_
   rotate_left
   ·intro w'
    go_simp
    with_reducible rfl
   rotate_left
   ·simp only [Act.put, s1d_, s2d_, s3d_, i64_w, i32_w]
    rfl
   refine take_ (i := 16) (N := some 23) (v := ?_) (a' := ?_) (bsd_ 21 131063) rfl rfl (take_ofW HT_.out HW_.out (by kernel_rfl)) (fun _ _ _ h => h) (Or.inl ⟨by rfl, ?_⟩) hHeld ?_ ?_
   rotate_left
   ·rintro w' ⟨s0, t0, t1, t2, t3, t4, t5⟩
    go_simp
    with_reducible rfl
   rotate_left
   ·simp only [Act.put, s1d_, s2d_, s3d_, i64_w, i32_w]
    rfl
   refine one_ (i := 3) (N := some 10) (bsd_ 21 131071) rfl rfl (one_of HT_.out (by kernel_rfl)) (by decide) (fun K hK => ?_)
   refine goes_ Tryz.func20 (by kernel_rfl) rfl #[.agg #[.int .i64 a2_0, .int .i64 a2_1, .slice A2_2 l2_2.length c2_2], .int .i64 a0, .int .i64 a1] (by rfl) rfl rfl (by (try simp only [List.map_toArray, List.map_cons, List.map_nil]); first | done | rfl | (simp only [List.length_drop, List.length_take]; rfl)) ?_
   with_reducible refine (impl_rank.calls a2_0 a2_1 _ _ l2_2 a0 a1 t160 _ ?side1 ?side2 A5.out).mono ?_
   (case side1 => repeat (first | exact HR2_2.out | exact (y9d HR2_2.out HB.out) | (with_reducible refine y2d ?_ _) | (with_reducible refine y3d ?_ _) | (with_reducible refine y4d ?_)))
   (case side2 => exact HC2_2.out)
   rintro e w12 ⟨rfl, hb⟩
   refine ⟨_, rfl, ?_⟩
   have n0_ := z0d (dU HB.out hb)
   clear HB
   have HB := n0_
   clear n0_
   (try clear hb)
   refine hK.out _ _ ⟨(((HB.out.cell (World.block_lt_of_cell? w _ hw161_0)).trans hw161_0)), ((HB.out.cell (World.block_lt_of_cell? w _ hzc2_0)).trans hzc2_0), ((HB.out.cell (World.block_lt_of_cell? w _ hzc2_1)).trans hzc2_1), ((HB.out.cell (World.block_lt_of_cell? w _ hzc2_2)).trans hzc2_2), ((HB.out.cell (World.block_lt_of_cell? w _ hzc3_0)).trans hzc3_0), ((HB.out.cell (World.block_lt_of_cell? w _ hzc3_1)).trans hzc3_1), ((HB.out.cell (World.block_lt_of_cell? w _ hzc3_2)).trans hzc3_2)⟩ (fun hHeld => ?_)
   clear hK K
   refine norm_ (a' := ?_) ?_ ?_
   rotate_left
   ·show Act.put _ (some 10) _ = _
    simp only [Act.put, s1d_, s2d_, s3d_, i64_w, i32_w]
    rfl
   refine one_ (i := 17) (N := some 24) (bsd_ 21 262143) rfl rfl (one_of HT_.out (by kernel_rfl)) (by decide) (fun K hK => ?_)
   refine goes_ Tryz.func21 (by kernel_rfl) rfl #[.int .i64 (l2_2.length : Int), .int .i64 (rd l3_2 (ji6))] (by rfl) rfl rfl (by (try simp only [List.map_toArray, List.map_cons, List.map_nil]); first | done | (simp only [hji6]; rfl) | rfl | (simp only [List.length_drop, List.length_take]; rfl)) ?_
   with_reducible refine (impl_level.calls (l2_2.length : Int) (rd l3_2 (ji6)) t162 _ A9.out).mono ?_
   rintro e w' ⟨rfl, ⟨nd, rfl⟩⟩
   refine ⟨_, rfl, ?_⟩
   refine hK.out _ _ ⟨(((HB.out.cell (World.block_lt_of_cell? w _ hw161_0)).trans hw161_0)), ((HB.out.cell (World.block_lt_of_cell? w _ hzc2_0)).trans hzc2_0), ((HB.out.cell (World.block_lt_of_cell? w _ hzc2_1)).trans hzc2_1), ((HB.out.cell (World.block_lt_of_cell? w _ hzc2_2)).trans hzc2_2), ((HB.out.cell (World.block_lt_of_cell? w _ hzc3_0)).trans hzc3_0), ((HB.out.cell (World.block_lt_of_cell? w _ hzc3_1)).trans hzc3_1), ((HB.out.cell (World.block_lt_of_cell? w _ hzc3_2)).trans hzc3_2)⟩ (fun hHeld => ?_)
   clear hK K
   refine norm_ (a' := ?_) ?_ ?_
   rotate_left
   ·show Act.put _ (some 24) _ = _
    simp only [Act.put, s1d_, s2d_, s3d_, i64_w, i32_w]
    rfl
   refine pz 18 (some 25) ?_ (bsd_ 21 524287) rfl rfl HT_.out (by kernel_rfl) (fun _ _ _ h => h) (Or.inl ⟨by rfl, ?_⟩) ?_ ?_ ?_
   rotate_left
   ·intro w'
    go_simp
    with_reducible rfl
   rotate_left
   ·simp only [Act.put, s1d_, s2d_, s3d_, i64_w, i32_w]
    rfl
   refine one_ (i := 19) (N := some 26) (bsd_ 21 1048575) rfl rfl (one_of HT_.out (by kernel_rfl)) (by decide) (fun K hK => ?_)
   refine goes_ Tryz.func19 (by kernel_rfl) rfl #[.bool (decide (t160 < t162))] (by rfl) rfl rfl (by (try simp only [List.map_toArray, List.map_cons, List.map_nil]); first | done | rfl | (simp only [List.length_drop, List.length_take]; rfl)) ?_
   with_reducible refine (impl_one.calls (decide (t160 < t162)) t163 _ A10.out).mono ?_
   rintro e w' ⟨rfl, ⟨nd, rfl⟩⟩
   refine ⟨_, rfl, ?_⟩
   refine hK.out _ _ ⟨(((HB.out.cell (World.block_lt_of_cell? w _ hw161_0)).trans hw161_0)), ((HB.out.cell (World.block_lt_of_cell? w _ hzc2_0)).trans hzc2_0), ((HB.out.cell (World.block_lt_of_cell? w _ hzc2_1)).trans hzc2_1), ((HB.out.cell (World.block_lt_of_cell? w _ hzc2_2)).trans hzc2_2), ((HB.out.cell (World.block_lt_of_cell? w _ hzc3_0)).trans hzc3_0), ((HB.out.cell (World.block_lt_of_cell? w _ hzc3_1)).trans hzc3_1), ((HB.out.cell (World.block_lt_of_cell? w _ hzc3_2)).trans hzc3_2)⟩ (fun hHeld => ?_)
   clear hK K
   refine norm_ (a' := ?_) ?_ ?_
   rotate_left
   ·show Act.put _ (some 26) _ = _
    simp only [Act.put, s1d_, s2d_, s3d_, i64_w, i32_w]
    rfl
   refine pz 20 (some 6) ?_ (bsd_ 21 2097151) rfl rfl HT_.out (by kernel_rfl) (fun _ _ _ h => h) (Or.inl ⟨by rfl, ?_⟩) ?_ ?_ ?_
   rotate_left
   ·intro w'
    go_simp
    with_reducible rfl
   rotate_left
   ·simp only [Act.put, s1d_, s2d_, s3d_, i64_w, i32_w]
    rfl
   refine done_ (done_of HT_.out (by kernel_rfl)) ?_
   try go_wp2
   go_ret
   exact ⟨by first | rfl | (simp [errW_none, errW_some] <;> rfl) | (simp only [← hji6]; first | rfl | (simp [errW_none, errW_some] <;> rfl)) | (simp [*, errW_none, errW_some] <;> rfl), dV HB.out⟩
  ·rw [if_neg c8] at H
   exact absurd H (by simp)
 ·rw [if_neg c7] at H
  exact absurd H (by simp)

def impl_ScreenPicture_1.drawn.f (w_ h_ : Int) (a2_0 : Int) (a2_1 : Int) (l2_2 : List Int) (a3_0 : Int) (a3_1 : Int) (l3_2 : List Int) : Option (Int × Int × List Int) := if 1 ≤ w_ ∧ w_ ≤ 1024 ∧ 0 ≤ h_ ∧ h_ ≤ 1024 ∧ w_ * h_ ≤ 1024 then (Ext.gridO w_ h_ fun x y => impl_ScreenPicture_1.f x y a2_0 a2_1 l2_2 a3_0 a3_1 l3_2).map fun l => (w_, h_, l) else none
theorem impl_ScreenPicture_1.drawn.calls {g2_ : Nat} {g3_ : Nat} (w_ h_ : Int) (a2_0 : Int) (a2_1 : Int) (A2_2 : Option Addr) (c2_2 : Nat) (l2_2 : List Int) (a3_0 : Int) (a3_1 : Int) (A3_2 : Option Addr) (c3_2 : Nat) (l3_2 : List Int) (r1 r2 : Int) (r3 : List Int) (w : World) (hr2_2 : Kd.C (Kd.int .i64) w A2_2 l2_2.length l2_2) (hc2_2 : l2_2.length ≤ c2_2) (hr3_2 : Kd.C (Kd.int .i64) w A3_2 l3_2.length l3_2) (hc3_2 : l3_2.length ≤ c3_2) (hb2_ : w.heap[g2_]? = some (.cells #[.int .i64 a2_0, .int .i64 a2_1, .slice A2_2 l2_2.length c2_2] 31 (0, 0))) (hb3_ : w.heap[g3_]? = some (.cells #[.int .i64 a3_0, .int .i64 a3_1, .slice A3_2 l3_2.length c3_2] 27 (0, 0))) (h : impl_ScreenPicture_1.drawn.f w_ h_ a2_0 a2_1 l2_2 a3_0 a3_1 l3_2 = some (r1, r2, r3)) :
  Calls Tryz.prog 13 #[.int .i64 w_, .int .i64 h_, .func (.func 18) #[] #[.pointer (some ⟨g2_, 0, none⟩), .pointer (some ⟨g3_, 0, none⟩)]] w fun e w' => ∃ v2_ : Value, e = .returned (.agg #[.int .i64 r1, .int .i64 r2, v2_]) ∧ Kd.R (Kd.int .i64) 3 w' w.heap.size (fun _ => True) v2_ r3 ∧ Below w.heap.size w w' := by
 unfold impl_ScreenPicture_1.drawn.f at h
 split at h
 ·rename_i hc_
  obtain ⟨l_, hl_, he_⟩ := Option.map_eq_some_iff.mp h
  obtain ⟨hat_, hg_⟩ := Ext.gridO_some hl_
  injection he_ with e1_ e2_; injection e2_ with e2_ e3_; subst e1_ e2_ e3_
  have ht_ := impl_drawn.tells (AT := fun x y => impl_ScreenPicture_1.f x y a2_0 a2_1 l2_2 a3_0 a3_1 l3_2) hc_.1 hc_.2.1 hc_.2.2.1 hc_.2.2.2.1 hc_.2.2.2.2 hat_
  rw [hg_] at ht_
  exact impl_drawn.calls 4000 w_ h_ _ 18 #[.pointer (some ⟨g2_, 0, none⟩), .pointer (some ⟨g3_, 0, none⟩)] _ _ _ w (enters_ Tryz.func18 (by kernel_rfl) rfl) (fun x y r W hW hr => Ext.calls_app (by simp) ((impl_ScreenPicture_1.calls x y a2_0 a2_1 _ _ l2_2 a3_0 a3_1 _ _ l3_2 r W (y9d hr2_2 hW) hc2_2 (y9d hr3_2 hW) hc3_2 (blk_below hb2_ hW) (blk_below hb3_ hW) hr).mono fun e w' he => ⟨he.1, he.2⟩)) ht_
 ·exact absurd h (by simp)

def impl_ScreenPicture_1.ranked.f (w_ h_ : Int) (a2_0 : Int) (a2_1 : Int) (l2_2 : List Int) (a3_0 : Int) (a3_1 : Int) (l3_2 : List Int) : Option (Int × Int × List Int) := if 1 ≤ w_ ∧ w_ ≤ 1024 ∧ 0 ≤ h_ ∧ h_ ≤ 1024 ∧ w_ * h_ ≤ 1024 then (Ext.gridO w_ h_ fun x y => impl_ScreenPicture_1.f x y a2_0 a2_1 l2_2 a3_0 a3_1 l3_2).map fun l => (w_, h_, l) else none
abbrev impl_ScreenPicture_1.V.f := @impl_ScreenPicture_1.f
set_option linter.defProp false in
def impl_ScreenPicture_1.V.calls := @impl_ScreenPicture_1.calls

def impl_ScreenPicture.f (a0_0 : Int) (a0_1 : Int) (l0_2 : List Int) (a1_0 : Int) (a1_1 : Int) (l1_2 : List Int) : Option (Int × Int × List Int) := (impl_IsMatrix.f a0_0 a0_1 l0_2).bind fun t167 => (if t167 = true then ((impl_IsPicture.f a1_0 a1_1 l1_2).bind fun t168 => (if t168 = true then ((impl_ScreenPicture_1.drawn.f a1_0 a1_1 a0_0 a0_1 l0_2 a1_0 a1_1 l1_2).bind fun bt169 => (some (bt169.1, bt169.2.1, bt169.2.2))) else (some (0, 0, ([] : List Int))))) else (some (0, 0, ([] : List Int))))
set_option maxHeartbeats 8000000 in
set_option maxRecDepth 100000 in
theorem impl_ScreenPicture.calls (a0_0 : Int) (a0_1 : Int) (A0_2 : Option Addr) (c0_2 : Nat) (l0_2 : List Int) (a1_0 : Int) (a1_1 : Int) (A1_2 : Option Addr) (c1_2 : Nat) (l1_2 : List Int) (r1 : Int) (r2 : Int) (r3 : List Int) (w : World) (hr0_2 : Kd.C (Kd.int .i64) w A0_2 l0_2.length l0_2) (hc0_2 : l0_2.length ≤ c0_2) (hr1_2 : Kd.C (Kd.int .i64) w A1_2 l1_2.length l1_2) (hc1_2 : l1_2.length ≤ c1_2) (h : impl_ScreenPicture.f a0_0 a0_1 l0_2 a1_0 a1_1 l1_2 = some (r1, r2, r3)) :
  Calls Tryz.prog 8 #[.agg #[.int .i64 a0_0, .int .i64 a0_1, .slice A0_2 l0_2.length c0_2], .agg #[.int .i64 a1_0, .int .i64 a1_1, .slice A1_2 l1_2.length c1_2]] w fun e w' => ∃ v2_ : Value, e = .returned (.agg #[.int .i64 r1, .int .i64 r2, v2_]) ∧ Kd.R (Kd.int .i64) 3 w' w.heap.size (fun _ => True) v2_ r3 ∧ Below w.heap.size w w' := by
 have hu31 := Tryz.underlying31
 have hu27 := Tryz.underlying27
 have HR0_2 := z0d hr0_2
 have HC0_2 := z0d hc0_2
 clear hr0_2 hc0_2
 have HR1_2 := z0d hr1_2
 have HC1_2 := z0d hc1_2
 clear hr1_2 hc1_2
 have HB := z0d (Below.refl w.heap.size w)
 have H := h
 unfold impl_ScreenPicture.f at H
 clear h
 replace H := Option.bind_eq_some_iff.mp H
 obtain ⟨t167, A30, H⟩ := H
 (try dsimp only at H)
 have A3 := z0d A30
 clear A30
 by_cases c4 : t167 = true
 ·subst c4
  rw [if_pos rfl] at H
  replace H := Option.bind_eq_some_iff.mp H
  obtain ⟨t168, A50, H⟩ := H
  (try dsimp only at H)
  have A5 := z0d A50
  clear A50
  by_cases c6 : t168 = true
  ·subst c6
   rw [if_pos rfl] at H
   replace H := Option.bind_eq_some_iff.mp H
   obtain ⟨⟨t169, t170, t171⟩, A70, H⟩ := H
   (try dsimp only at H)
   have A7 := z0d A70
   clear A70
   simp only [Option.some.injEq, Prod.mk.injEq] at H
   obtain ⟨rfl, rfl, rfl⟩ := H
   go_enter Tryz.func8, Tryz.ntmps8
   go_wp2_with (first | ((with_reducible refine gate_dst (N := 2) rfl ?_); refine box_event rfl (N := 2) rfl (cs := #[.int .i64 a0_0, .int .i64 a0_1, .slice A0_2 l0_2.length c0_2]) (t := 31) (by first | (go_simp; done) | (go_simp; rfl)) ?_; intro gb164 hg w8 hbox hb; have n_ := a4 (dU HB.out hb) (hbox) (gE hg HB.out) (gE hg HB.out); clear HB; obtain ⟨HB, BK164, GW164, GE164⟩ := n_; have gi_164 := GEc.mk GE164.out; clear hb hbox hg) | ((with_reducible refine gate_dst (N := 3) rfl ?_); refine box_event rfl (N := 3) rfl (cs := #[.int .i64 a1_0, .int .i64 a1_1, .slice A1_2 l1_2.length c1_2]) (t := 27) (by first | (go_simp; done) | (go_simp; rfl)) ?_; intro gb165 hg w9 hbox hb; have n_ := a7 (bU BK164.out hb) (dU HB.out hb) (hbox) (gE hg HB.out) (gE hg HB.out) (nL hg BK164.out) (nG hg BK164.out); clear BK164 HB; obtain ⟨BK164, HB, BK165, GW165, GE165, NB164_165, NB165_164⟩ := n_; have gi_165 := GEc.mk GE165.out; clear hb hbox hg) | ((with_reducible refine gate_dst (N := 4) rfl ?_); refine box_event rfl (N := 4) rfl (cs := #[.int .i64 0, .int .i64 0, .slice none 0 0]) (t := 27) (by first | (go_simp; done) | (go_simp; rfl)) ?_; intro gb166 hg w10 hbox hb; have n_ := a10 (bU BK164.out hb) (bU BK165.out hb) (dU HB.out hb) (hbox) (gE hg HB.out) (gE hg HB.out) (nL hg BK164.out) (nG hg BK164.out) (nL hg BK165.out) (nG hg BK165.out); clear BK164 BK165 HB; obtain ⟨BK164, BK165, HB, BK166, GW166, GE166, NB164_166, NB166_164, NB165_166, NB166_165⟩ := n_; have gi_166 := GEc.mk GE166.out; clear hb hbox hg; have hnb11 := NB164_165.out; have hnc11 := NB165_164.out; have hnb12 := NB164_166.out; have hnc12 := NB166_164.out; have hcz13_0 : w10.cell? ⟨gb164, 0, none⟩ = some (.int .i64 a0_0) := (x3d BK164.out 0).trans rfl; have hcz13_1 : w10.cell? ⟨gb164, 1, none⟩ = some (.int .i64 a0_1) := (x3d BK164.out 1).trans rfl; have hcz13_2 : w10.cell? ⟨gb164, 2, none⟩ = some (.slice A0_2 l0_2.length c0_2) := (x3d BK164.out 2).trans rfl; have hfz13_0 := x2d BK164.out 0; have hfz13_1 := x2d BK164.out 1; have hfz13_2 := x2d BK164.out 2) | ((with_reducible refine gate_callee (f := 16) rfl ?_); refine goesL_ (some 6) rfl rfl Tryz.func16 (by kernel_rfl) rfl #[.agg #[.int .i64 a0_0, .int .i64 a0_1, .slice A0_2 l0_2.length c0_2]] rfl (by (try simp only [List.map_toArray, List.map_cons, List.map_nil]); first | done | rfl | (simp only [List.length_drop, List.length_take]; rfl)) ?_; (with_reducible refine (impl_IsMatrix.calls a0_0 a0_1 _ _ l0_2 true _ ?side1 ?side2 A3.out).mono ?_); (case side1 => repeat (first | exact HR0_2.out | exact (y9d HR0_2.out HB.out) | (with_reducible refine y2d ?_ _) | (with_reducible refine y3d ?_ _) | (with_reducible refine y4d ?_))); (case side2 => exact HC0_2.out); rintro e w14 ⟨rfl, hb⟩; refine ⟨_, rfl, ?_⟩; have n_ := a4 (bU BK164.out hb) (bU BK165.out hb) (bU BK166.out hb) (dU HB.out hb); clear BK164 BK165 BK166 HB; obtain ⟨BK164, BK165, BK166, HB⟩ := n_; (try clear hb); have hnb15 := NB165_166.out; have hnc15 := NB166_165.out; have hcz16_0 : w14.cell? ⟨gb165, 0, none⟩ = some (.int .i64 a1_0) := (x3d BK165.out 0).trans rfl; have hcz16_1 : w14.cell? ⟨gb165, 1, none⟩ = some (.int .i64 a1_1) := (x3d BK165.out 1).trans rfl; have hcz16_2 : w14.cell? ⟨gb165, 2, none⟩ = some (.slice A1_2 l1_2.length c1_2) := (x3d BK165.out 2).trans rfl; have hfz16_0 := x2d BK165.out 0; have hfz16_1 := x2d BK165.out 1; have hfz16_2 := x2d BK165.out 2) | (go_at_call 17; (with_reducible refine (impl_IsPicture.calls a1_0 a1_1 _ _ l1_2 true _ ?side1 ?side2 A5.out).mono ?_); (case side1 => repeat (first | exact HR1_2.out | exact (y9d HR1_2.out HB.out) | (with_reducible refine y2d ?_ _) | (with_reducible refine y3d ?_ _) | (with_reducible refine y4d ?_))); (case side2 => exact HC1_2.out); rintro e w17 ⟨rfl, hb⟩; have n_ := a4 (bU BK164.out hb) (bU BK165.out hb) (bU BK166.out hb) (dU HB.out hb); clear BK164 BK165 BK166 HB; obtain ⟨BK164, BK165, BK166, HB⟩ := n_; (try clear hb); have hcz18_0 : w17.cell? ⟨gb165, 0, none⟩ = some (.int .i64 a1_0) := (x3d BK165.out 0).trans rfl; have hcz18_1 : w17.cell? ⟨gb165, 1, none⟩ = some (.int .i64 a1_1) := (x3d BK165.out 1).trans rfl; have hcz18_2 : w17.cell? ⟨gb165, 2, none⟩ = some (.slice A1_2 l1_2.length c1_2) := (x3d BK165.out 2).trans rfl; have hfz18_0 := x2d BK165.out 0; have hfz18_1 := x2d BK165.out 1; have hfz18_2 := x2d BK165.out 2) | ((with_reducible refine gate_callee (f := 13) rfl ?_); refine goesL_ (some 19) rfl rfl Tryz.func13 (by kernel_rfl) rfl #[.int .i64 a1_0, .int .i64 a1_1, .func (.func 18) #[] #[.pointer (some ⟨gb164, 0, none⟩), .pointer (some ⟨gb165, 0, none⟩)]] rfl (by (try simp only [List.map_toArray, List.map_cons, List.map_nil]); first | done | rfl | (simp only [List.length_drop, List.length_take]; rfl)) ?_; (with_reducible refine (impl_ScreenPicture_1.drawn.calls a1_0 a1_1 a0_0 a0_1 A0_2 c0_2 l0_2 a1_0 a1_1 A1_2 c1_2 l1_2 t169 t170 t171 _ ?side1 ?side2 ?side3 ?side4 ?side5 ?side6 A7.out).mono ?_); (case side1 => repeat (first | exact HR0_2.out | exact (y9d HR0_2.out HB.out) | (with_reducible refine y2d ?_ _) | (with_reducible refine y3d ?_ _) | (with_reducible refine y4d ?_))); (case side2 => exact HC0_2.out); (case side3 => repeat (first | exact HR1_2.out | exact (y9d HR1_2.out HB.out) | (with_reducible refine y2d ?_ _) | (with_reducible refine y3d ?_ _) | (with_reducible refine y4d ?_))); (case side4 => exact HC1_2.out); (case side5 => exact by (with_reducible repeat (first | refine z1d ?_ _ | refine z3d ?_ | refine z2d ?_ _)); exact BK164.out); (case side6 => exact by (with_reducible repeat (first | refine z1d ?_ _ | refine z3d ?_ | refine z2d ?_ _)); exact BK165.out); rintro e w19 ⟨v172, rfl, ho0, hb⟩; refine ⟨_, rfl, ?_⟩; have n_ := a5 (Kd.R_lower ho0 (below_size (dV HB.out))) (bU BK164.out hb) (bU BK165.out hb) (bU BK166.out hb) (dU HB.out hb); clear BK164 BK165 BK166 HB; obtain ⟨HO173, BK164, BK165, BK166, HB⟩ := n_; (try clear hb); (try clear ho0); have hcz20_0 : w19.cell? ⟨gb166, 0, none⟩ = some (.int .i64 0) := (x3d BK166.out 0).trans rfl; have hcz20_1 : w19.cell? ⟨gb166, 1, none⟩ = some (.int .i64 0) := (x3d BK166.out 1).trans rfl; have hcz20_2 : w19.cell? ⟨gb166, 2, none⟩ = some (.slice none 0 0) := (x3d BK166.out 2).trans rfl; have hfz20_0 := x2d BK166.out 0; have hfz20_1 := x2d BK166.out 1; have hfz20_2 := x2d BK166.out 2; obtain ⟨Ao21, co21, eo21⟩ := Kd.R_slice HO173.out; subst eo21))
   refine bodyPost_ret (results_cell_row rfl _ _ gb166 27 #[.int .i64 t169, .int .i64 t170, .slice Ao21 t171.length co21] (0, 0) _ rfl (by (with_reducible repeat (first | refine z1d ?_ _ | refine z3d ?_ | refine z2d ?_ _)); refine blk_put (cs := #[.int .i64 t169, .int .i64 t170, .slice none 0 0]) ?_ 2 _ rfl; (with_reducible repeat (first | refine z1d ?_ _ | refine z3d ?_ | refine z2d ?_ _)); refine blk_put (cs := #[.int .i64 t169, .int .i64 0, .slice none 0 0]) ?_ 1 _ rfl; (with_reducible repeat (first | refine z1d ?_ _ | refine z3d ?_ | refine z2d ?_ _)); refine blk_put (cs := #[.int .i64 0, .int .i64 0, .slice none 0 0]) ?_ 0 _ rfl; (with_reducible repeat (first | refine z1d ?_ _ | refine z3d ?_ | refine z2d ?_ _)); exact BK166.out) Tryz.underlying27 rfl (by kernel_rfl)) rfl ?_
   exact ⟨_, by first | rfl | (simp [errW_none, errW_some] <;> rfl) | (simp [*, errW_none, errW_some] <;> rfl), by (with_reducible repeat (first | apply Kd.R_alloc | apply Kd.R_drewN | apply Kd.R_drew)); exact Kd.R_mono (x1d (p := ⟨gb166, 2, none⟩) (x1d (p := ⟨gb166, 1, none⟩) (x1d (p := ⟨gb166, 0, none⟩) (Kd.R_types HO173.out BK166.out (by decide)) (fun _ hk => hk.2) (.int .i64 t169)) (fun _ hk => hk.2) (.int .i64 t170)) (fun _ hk => hk.2) (.slice Ao21 t171.length co21)) (fun _ hk => trivial), dV HB.out⟩
  ·replace c6 := Bool.eq_false_iff.mpr c6
   subst c6
   rw [if_neg (show ¬ (false = true) by decide)] at H
   simp only [Option.some.injEq, Prod.mk.injEq] at H
   obtain ⟨rfl, rfl, rfl⟩ := H
   go_enter Tryz.func8, Tryz.ntmps8
   go_wp2_with (first | ((with_reducible refine gate_dst (N := 2) rfl ?_); refine box_event rfl (N := 2) rfl (cs := #[.int .i64 a0_0, .int .i64 a0_1, .slice A0_2 l0_2.length c0_2]) (t := 31) (by first | (go_simp; done) | (go_simp; rfl)) ?_; intro gb164 hg w22 hbox hb; have n_ := a4 (dU HB.out hb) (hbox) (gE hg HB.out) (gE hg HB.out); clear HB; obtain ⟨HB, BK164, GW164, GE164⟩ := n_; have gi_164 := GEc.mk GE164.out; clear hb hbox hg) | ((with_reducible refine gate_dst (N := 3) rfl ?_); refine box_event rfl (N := 3) rfl (cs := #[.int .i64 a1_0, .int .i64 a1_1, .slice A1_2 l1_2.length c1_2]) (t := 27) (by first | (go_simp; done) | (go_simp; rfl)) ?_; intro gb165 hg w23 hbox hb; have n_ := a7 (bU BK164.out hb) (dU HB.out hb) (hbox) (gE hg HB.out) (gE hg HB.out) (nL hg BK164.out) (nG hg BK164.out); clear BK164 HB; obtain ⟨BK164, HB, BK165, GW165, GE165, NB164_165, NB165_164⟩ := n_; have gi_165 := GEc.mk GE165.out; clear hb hbox hg) | ((with_reducible refine gate_dst (N := 4) rfl ?_); refine box_event rfl (N := 4) rfl (cs := #[.int .i64 0, .int .i64 0, .slice none 0 0]) (t := 27) (by first | (go_simp; done) | (go_simp; rfl)) ?_; intro gb166 hg w24 hbox hb; have n_ := a10 (bU BK164.out hb) (bU BK165.out hb) (dU HB.out hb) (hbox) (gE hg HB.out) (gE hg HB.out) (nL hg BK164.out) (nG hg BK164.out) (nL hg BK165.out) (nG hg BK165.out); clear BK164 BK165 HB; obtain ⟨BK164, BK165, HB, BK166, GW166, GE166, NB164_166, NB166_164, NB165_166, NB166_165⟩ := n_; have gi_166 := GEc.mk GE166.out; clear hb hbox hg; have hnb25 := NB164_165.out; have hnc25 := NB165_164.out; have hnb26 := NB164_166.out; have hnc26 := NB166_164.out; have hcz27_0 : w24.cell? ⟨gb164, 0, none⟩ = some (.int .i64 a0_0) := (x3d BK164.out 0).trans rfl; have hcz27_1 : w24.cell? ⟨gb164, 1, none⟩ = some (.int .i64 a0_1) := (x3d BK164.out 1).trans rfl; have hcz27_2 : w24.cell? ⟨gb164, 2, none⟩ = some (.slice A0_2 l0_2.length c0_2) := (x3d BK164.out 2).trans rfl; have hfz27_0 := x2d BK164.out 0; have hfz27_1 := x2d BK164.out 1; have hfz27_2 := x2d BK164.out 2) | ((with_reducible refine gate_callee (f := 16) rfl ?_); refine goesL_ (some 6) rfl rfl Tryz.func16 (by kernel_rfl) rfl #[.agg #[.int .i64 a0_0, .int .i64 a0_1, .slice A0_2 l0_2.length c0_2]] rfl (by (try simp only [List.map_toArray, List.map_cons, List.map_nil]); first | done | rfl | (simp only [List.length_drop, List.length_take]; rfl)) ?_; (with_reducible refine (impl_IsMatrix.calls a0_0 a0_1 _ _ l0_2 true _ ?side1 ?side2 A3.out).mono ?_); (case side1 => repeat (first | exact HR0_2.out | exact (y9d HR0_2.out HB.out) | (with_reducible refine y2d ?_ _) | (with_reducible refine y3d ?_ _) | (with_reducible refine y4d ?_))); (case side2 => exact HC0_2.out); rintro e w28 ⟨rfl, hb⟩; refine ⟨_, rfl, ?_⟩; have n_ := a4 (bU BK164.out hb) (bU BK165.out hb) (bU BK166.out hb) (dU HB.out hb); clear BK164 BK165 BK166 HB; obtain ⟨BK164, BK165, BK166, HB⟩ := n_; (try clear hb); have hnb29 := NB165_166.out; have hnc29 := NB166_165.out; have hcz30_0 : w28.cell? ⟨gb165, 0, none⟩ = some (.int .i64 a1_0) := (x3d BK165.out 0).trans rfl; have hcz30_1 : w28.cell? ⟨gb165, 1, none⟩ = some (.int .i64 a1_1) := (x3d BK165.out 1).trans rfl; have hcz30_2 : w28.cell? ⟨gb165, 2, none⟩ = some (.slice A1_2 l1_2.length c1_2) := (x3d BK165.out 2).trans rfl; have hfz30_0 := x2d BK165.out 0; have hfz30_1 := x2d BK165.out 1; have hfz30_2 := x2d BK165.out 2) | (go_at_call 17; (with_reducible refine (impl_IsPicture.calls a1_0 a1_1 _ _ l1_2 false _ ?side1 ?side2 A5.out).mono ?_); (case side1 => repeat (first | exact HR1_2.out | exact (y9d HR1_2.out HB.out) | (with_reducible refine y2d ?_ _) | (with_reducible refine y3d ?_ _) | (with_reducible refine y4d ?_))); (case side2 => exact HC1_2.out); rintro e w31 ⟨rfl, hb⟩; have n_ := a4 (bU BK164.out hb) (bU BK165.out hb) (bU BK166.out hb) (dU HB.out hb); clear BK164 BK165 BK166 HB; obtain ⟨BK164, BK165, BK166, HB⟩ := n_; (try clear hb); have hcz32_0 : w31.cell? ⟨gb166, 0, none⟩ = some (.int .i64 0) := (x3d BK166.out 0).trans rfl; have hcz32_1 : w31.cell? ⟨gb166, 1, none⟩ = some (.int .i64 0) := (x3d BK166.out 1).trans rfl; have hcz32_2 : w31.cell? ⟨gb166, 2, none⟩ = some (.slice none 0 0) := (x3d BK166.out 2).trans rfl; have hfz32_0 := x2d BK166.out 0; have hfz32_1 := x2d BK166.out 1; have hfz32_2 := x2d BK166.out 2))
   refine bodyPost_ret (results_cell_row rfl _ _ gb166 27 #[.int .i64 0, .int .i64 0, .slice none 0 0] (0, 0) _ rfl (by (with_reducible repeat (first | refine z1d ?_ _ | refine z3d ?_ | refine z2d ?_ _)); refine blk_put (cs := #[.int .i64 0, .int .i64 0, .slice none 0 0]) ?_ 2 _ rfl; (with_reducible repeat (first | refine z1d ?_ _ | refine z3d ?_ | refine z2d ?_ _)); refine blk_put (cs := #[.int .i64 0, .int .i64 0, .slice none 0 0]) ?_ 1 _ rfl; (with_reducible repeat (first | refine z1d ?_ _ | refine z3d ?_ | refine z2d ?_ _)); refine blk_put (cs := #[.int .i64 0, .int .i64 0, .slice none 0 0]) ?_ 0 _ rfl; (with_reducible repeat (first | refine z1d ?_ _ | refine z3d ?_ | refine z2d ?_ _)); exact BK166.out) Tryz.underlying27 rfl (by kernel_rfl)) rfl ?_
   exact ⟨_, by first | rfl | (simp [errW_none, errW_some] <;> rfl) | (simp [*, errW_none, errW_some] <;> rfl), by first | exact Kd.R_nil _ _ _ _ _ | exact Kd.N_nil _ _ _ _ _ | exact Kd.V_nil _ _ _ _ _ | exact Kd.Q_nil _ _ _ _ _ | exact Kd.S_nil _ _ _ _ _, dV HB.out⟩
 ·replace c4 := Bool.eq_false_iff.mpr c4
  subst c4
  rw [if_neg (show ¬ (false = true) by decide)] at H
  simp only [Option.some.injEq, Prod.mk.injEq] at H
  obtain ⟨rfl, rfl, rfl⟩ := H
  go_enter Tryz.func8, Tryz.ntmps8
  go_wp2_with (first | ((with_reducible refine gate_dst (N := 2) rfl ?_); refine box_event rfl (N := 2) rfl (cs := #[.int .i64 a0_0, .int .i64 a0_1, .slice A0_2 l0_2.length c0_2]) (t := 31) (by first | (go_simp; done) | (go_simp; rfl)) ?_; intro gb164 hg w33 hbox hb; have n_ := a4 (dU HB.out hb) (hbox) (gE hg HB.out) (gE hg HB.out); clear HB; obtain ⟨HB, BK164, GW164, GE164⟩ := n_; have gi_164 := GEc.mk GE164.out; clear hb hbox hg) | ((with_reducible refine gate_dst (N := 3) rfl ?_); refine box_event rfl (N := 3) rfl (cs := #[.int .i64 a1_0, .int .i64 a1_1, .slice A1_2 l1_2.length c1_2]) (t := 27) (by first | (go_simp; done) | (go_simp; rfl)) ?_; intro gb165 hg w34 hbox hb; have n_ := a7 (bU BK164.out hb) (dU HB.out hb) (hbox) (gE hg HB.out) (gE hg HB.out) (nL hg BK164.out) (nG hg BK164.out); clear BK164 HB; obtain ⟨BK164, HB, BK165, GW165, GE165, NB164_165, NB165_164⟩ := n_; have gi_165 := GEc.mk GE165.out; clear hb hbox hg) | ((with_reducible refine gate_dst (N := 4) rfl ?_); refine box_event rfl (N := 4) rfl (cs := #[.int .i64 0, .int .i64 0, .slice none 0 0]) (t := 27) (by first | (go_simp; done) | (go_simp; rfl)) ?_; intro gb166 hg w35 hbox hb; have n_ := a10 (bU BK164.out hb) (bU BK165.out hb) (dU HB.out hb) (hbox) (gE hg HB.out) (gE hg HB.out) (nL hg BK164.out) (nG hg BK164.out) (nL hg BK165.out) (nG hg BK165.out); clear BK164 BK165 HB; obtain ⟨BK164, BK165, HB, BK166, GW166, GE166, NB164_166, NB166_164, NB165_166, NB166_165⟩ := n_; have gi_166 := GEc.mk GE166.out; clear hb hbox hg; have hnb36 := NB164_165.out; have hnc36 := NB165_164.out; have hnb37 := NB164_166.out; have hnc37 := NB166_164.out; have hcz38_0 : w35.cell? ⟨gb164, 0, none⟩ = some (.int .i64 a0_0) := (x3d BK164.out 0).trans rfl; have hcz38_1 : w35.cell? ⟨gb164, 1, none⟩ = some (.int .i64 a0_1) := (x3d BK164.out 1).trans rfl; have hcz38_2 : w35.cell? ⟨gb164, 2, none⟩ = some (.slice A0_2 l0_2.length c0_2) := (x3d BK164.out 2).trans rfl; have hfz38_0 := x2d BK164.out 0; have hfz38_1 := x2d BK164.out 1; have hfz38_2 := x2d BK164.out 2) | ((with_reducible refine gate_callee (f := 16) rfl ?_); refine goesL_ (some 6) rfl rfl Tryz.func16 (by kernel_rfl) rfl #[.agg #[.int .i64 a0_0, .int .i64 a0_1, .slice A0_2 l0_2.length c0_2]] rfl (by (try simp only [List.map_toArray, List.map_cons, List.map_nil]); first | done | rfl | (simp only [List.length_drop, List.length_take]; rfl)) ?_; (with_reducible refine (impl_IsMatrix.calls a0_0 a0_1 _ _ l0_2 false _ ?side1 ?side2 A3.out).mono ?_); (case side1 => repeat (first | exact HR0_2.out | exact (y9d HR0_2.out HB.out) | (with_reducible refine y2d ?_ _) | (with_reducible refine y3d ?_ _) | (with_reducible refine y4d ?_))); (case side2 => exact HC0_2.out); rintro e w39 ⟨rfl, hb⟩; refine ⟨_, rfl, ?_⟩; have n_ := a4 (bU BK164.out hb) (bU BK165.out hb) (bU BK166.out hb) (dU HB.out hb); clear BK164 BK165 BK166 HB; obtain ⟨BK164, BK165, BK166, HB⟩ := n_; (try clear hb); have hnb40 := NB166_165.out; have hnc40 := NB165_166.out; have hcz41_0 : w39.cell? ⟨gb166, 0, none⟩ = some (.int .i64 0) := (x3d BK166.out 0).trans rfl; have hcz41_1 : w39.cell? ⟨gb166, 1, none⟩ = some (.int .i64 0) := (x3d BK166.out 1).trans rfl; have hcz41_2 : w39.cell? ⟨gb166, 2, none⟩ = some (.slice none 0 0) := (x3d BK166.out 2).trans rfl; have hfz41_0 := x2d BK166.out 0; have hfz41_1 := x2d BK166.out 1; have hfz41_2 := x2d BK166.out 2))
  refine bodyPost_ret (results_cell_row rfl _ _ gb166 27 #[.int .i64 0, .int .i64 0, .slice none 0 0] (0, 0) _ rfl (by (with_reducible repeat (first | refine z1d ?_ _ | refine z3d ?_ | refine z2d ?_ _)); refine blk_put (cs := #[.int .i64 0, .int .i64 0, .slice none 0 0]) ?_ 2 _ rfl; (with_reducible repeat (first | refine z1d ?_ _ | refine z3d ?_ | refine z2d ?_ _)); refine blk_put (cs := #[.int .i64 0, .int .i64 0, .slice none 0 0]) ?_ 1 _ rfl; (with_reducible repeat (first | refine z1d ?_ _ | refine z3d ?_ | refine z2d ?_ _)); refine blk_put (cs := #[.int .i64 0, .int .i64 0, .slice none 0 0]) ?_ 0 _ rfl; (with_reducible repeat (first | refine z1d ?_ _ | refine z3d ?_ | refine z2d ?_ _)); exact BK166.out) Tryz.underlying27 rfl (by kernel_rfl)) rfl ?_
  exact ⟨_, by first | rfl | (simp [errW_none, errW_some] <;> rfl) | (simp [*, errW_none, errW_some] <;> rfl), by first | exact Kd.R_nil _ _ _ _ _ | exact Kd.N_nil _ _ _ _ _ | exact Kd.V_nil _ _ _ _ _ | exact Kd.Q_nil _ _ _ _ _ | exact Kd.S_nil _ _ _ _ _, dV HB.out⟩

def impl_SumInk.l0 : Nat → Int → List Int → Int → Int → Option (Int)
 | 0, _, _, _, _ => none
 | k + 1, x3, x10, x11, x12 => if x12 < x11 then (if 0 ≤ x12 then (if x12 < (x10.length : Int) then (impl_SumInk.l0 k (wrap64 (x3 + (rd x10 x12))) x10 x11 (wrap64 (x12 + 1))) else (none)) else (none)) else (some x3)
def impl_SumInk.f (k : Nat) (a0_0 : Int) (a0_1 : Int) (l0_2 : List Int) : Option (Int) := (impl_IsPicture.f a0_0 a0_1 l0_2).bind fun t175 => (if t175 = true then (impl_SumInk.l0 k 0 l0_2 (l0_2.length : Int) 0) else (some 0))
set_option maxHeartbeats 8000000 in
set_option maxRecDepth 100000 in
theorem impl_SumInk.calls (k : Nat) (a0_0 : Int) (a0_1 : Int) (A0_2 : Option Addr) (c0_2 : Nat) (l0_2 : List Int) (r : Int) (w : World) (hr0_2 : Kd.C (Kd.int .i64) w A0_2 l0_2.length l0_2) (hc0_2 : l0_2.length ≤ c0_2) (h : impl_SumInk.f k a0_0 a0_1 l0_2 = some r) :
  Calls Tryz.prog 22 #[.agg #[.int .i64 a0_0, .int .i64 a0_1, .slice A0_2 l0_2.length c0_2]] w fun e w' => e = .returned (.int .i64 r) ∧ Below w.heap.size w w' := by
 have hu27 := Tryz.underlying27
 have HR0_2 := z0d hr0_2
 have HC0_2 := z0d hc0_2
 clear hr0_2 hc0_2
 have HB := z0d (Below.refl w.heap.size w)
 have H := h
 unfold impl_SumInk.f at H
 clear h
 replace H := Option.bind_eq_some_iff.mp H
 obtain ⟨t175, A20, H⟩ := H
 (try dsimp only at H)
 have A2 := z0d A20
 clear A20
 by_cases c3 : t175 = true
 ·subst c3
  rw [if_pos rfl] at H
  have H' := z0d H
  clear H
  go_enter Tryz.func22, Tryz.ntmps22
  go_wp2_with (first | ((with_reducible refine gate_dst (N := 1) rfl ?_); refine box_event rfl (N := 1) rfl (cs := #[.int .i64 a0_0, .int .i64 a0_1, .slice A0_2 l0_2.length c0_2]) (t := 27) (by first | (go_simp; done) | (go_simp; rfl)) ?_; intro gb174 hg w4 hbox hb; have n_ := a4 (dU HB.out hb) (hbox) (gE hg HB.out) (gE hg HB.out); clear HB; obtain ⟨HB, BK174, GW174, GE174⟩ := n_; have gi_174 := GEc.mk GE174.out; clear hb hbox hg; have hcz5_0 : w4.cell? ⟨gb174, 0, none⟩ = some (.int .i64 a0_0) := (x3d BK174.out 0).trans rfl; have hcz5_1 : w4.cell? ⟨gb174, 1, none⟩ = some (.int .i64 a0_1) := (x3d BK174.out 1).trans rfl; have hcz5_2 : w4.cell? ⟨gb174, 2, none⟩ = some (.slice A0_2 l0_2.length c0_2) := (x3d BK174.out 2).trans rfl; have hfz5_0 := x2d BK174.out 0; have hfz5_1 := x2d BK174.out 1; have hfz5_2 := x2d BK174.out 2) | ((with_reducible refine gate_callee (f := 17) rfl ?_); refine goesL_ (some 7) rfl rfl Tryz.func17 (by kernel_rfl) rfl #[.agg #[.int .i64 a0_0, .int .i64 a0_1, .slice A0_2 l0_2.length c0_2]] rfl (by (try simp only [List.map_toArray, List.map_cons, List.map_nil]); first | done | rfl | (simp only [List.length_drop, List.length_take]; rfl)) ?_; (with_reducible refine (impl_IsPicture.calls a0_0 a0_1 _ _ l0_2 true _ ?side1 ?side2 A2.out).mono ?_); (case side1 => repeat (first | exact HR0_2.out | exact (y9d HR0_2.out HB.out) | (with_reducible refine y2d ?_ _) | (with_reducible refine y3d ?_ _) | (with_reducible refine y4d ?_))); (case side2 => exact HC0_2.out); rintro e w6 ⟨rfl, hb⟩; refine ⟨_, rfl, ?_⟩; have n_ := a2 (bU BK174.out hb) (dU HB.out hb); clear BK174 HB; obtain ⟨BK174, HB⟩ := n_; (try clear hb); have hcz7_0 : w6.cell? ⟨gb174, 0, none⟩ = some (.int .i64 a0_0) := (x3d BK174.out 0).trans rfl; have hcz7_1 : w6.cell? ⟨gb174, 1, none⟩ = some (.int .i64 a0_1) := (x3d BK174.out 1).trans rfl; have hcz7_2 : w6.cell? ⟨gb174, 2, none⟩ = some (.slice A0_2 l0_2.length c0_2) := (x3d BK174.out 2).trans rfl; have hfz7_0 := x2d BK174.out 0; have hfz7_1 := x2d BK174.out 1; have hfz7_2 := x2d BK174.out 2))
  go_loopg [3, 12] k (fun kq v3 v12 w' => ∃ (x3_1 : Int) (x12_1 : Int), v3 = .int .i64 x3_1 ∧ v12 = .int .i64 x12_1 ∧ Aside0 (impl_SumInk.l0 kq x3_1 l0_2 (l0_2.length : Int) x12_1 = some r) ∧ Aside0 (kq ≤ k) ∧ Aside0 (w'.heap[gb174]? = some (.cells #[.int .i64 a0_0, .int .i64 a0_1, (.slice A0_2 l0_2.length c0_2)] 27 (0, 0))) ∧ Aside0 (Below w.heap.size w w'))
  case atStart => exact ⟨(0), (0), (by first | rfl | (simp; done) | (simp [*]; done)), (by first | rfl | (simp; done) | (simp [*]; done)), H', ⟨Nat.le_refl _⟩, ⟨by (with_reducible repeat (first | refine z1d ?_ _ | refine z3d ?_ | refine z2d ?_ _)); exact BK174.out⟩, ⟨dV HB.out⟩⟩
  case round =>
   clear H'
   try clear c1
   try clear c2
   try clear p2
   try clear c3
   try clear hcz5_0
   try clear hcz5_1
   try clear hcz5_2
   try clear hcz7_0
   try clear hcz7_1
   try clear hcz7_2
   try clear hfz5_0
   try clear hfz5_1
   try clear hfz5_2
   try clear hfz7_0
   try clear hfz7_1
   try clear hfz7_2
   obtain ⟨x3_1, x12_1, rfl, rfl, HA, HK1, BK174, HB⟩ := hrel
   cases gk with
   | zero => exact absurd HA.out (by simp [impl_SumInk.l0])
   | succ k1 =>
    have H := HA.out
    clear HA
    simp only [impl_SumInk.l0] at H
    by_cases c8 : x12_1 < (l0_2.length : Int)
    ·rw [if_pos c8] at H
     have c8b0 : decide (x12_1 < (l0_2.length : Int)) = true := decide_eq_true c8
     clear c8
     by_cases c9 : 0 ≤ x12_1
     ·rw [if_pos c9] at H
      have c9b0 : decide (0 ≤ x12_1) = true := decide_eq_true c9
      clear c9
      by_cases c10 : x12_1 < (l0_2.length : Int)
      ·rw [if_pos c10] at H
       have c10b0 : decide (x12_1 < (l0_2.length : Int)) = true := decide_eq_true c10
       clear c10
       have H' := z0d H
       clear H
       have p176 : 0 ≤ (x12_1 : Int) := of_decide_eq_true (by first | (with_reducible assumption) | assumption)
       have q176 : x12_1 < (l0_2.length : Int) := of_decide_eq_true (by first | (with_reducible assumption) | assumption)
       obtain ⟨ad176, e176, hx176_0⟩ := Kd.at_int HR0_2.out x12_1 p176 q176
       cases e176
       try replace hx176_0 := (HB.out.cell (World.block_lt_of_cell? w _ hx176_0)).trans hx176_0
       replace p176 := eq_true p176
       replace q176 := eq_true q176
       go_wp2
       go_roundg k1
       case measure => have := HK1.out; omega
       case rel => exact ⟨(wrap64 (x3_1 + (rd l0_2 x12_1))), (wrap64 (x12_1 + 1)), (by first | rfl | (simp; done) | (simp [*]; done)), (by first | rfl | (simp; done) | (simp [*]; done)), H', ⟨by have := HK1.out; omega⟩, ⟨by (with_reducible repeat (first | refine z1d ?_ _ | refine z3d ?_ | refine z2d ?_ _)); exact BK174.out⟩, ⟨dV HB.out⟩⟩
      ·rw [if_neg c10] at H
       exact absurd H (by simp)
     ·rw [if_neg c9] at H
      exact absurd H (by simp)
    ·rw [if_neg c8] at H
     have c8b0 : decide (x12_1 < (l0_2.length : Int)) = false := decide_eq_false c8
     clear c8
     obtain rfl := Option.some.inj H
     go_wp2
     go_ret
     exact ⟨by first | rfl | (simp [errW_none, errW_some] <;> rfl) | (simp [*, errW_none, errW_some] <;> rfl), dV HB.out⟩
 ·replace c3 := Bool.eq_false_iff.mpr c3
  subst c3
  rw [if_neg (show ¬ (false = true) by decide)] at H
  obtain rfl := Option.some.inj H
  go_enter Tryz.func22, Tryz.ntmps22
  go_wp2_with (first | ((with_reducible refine gate_dst (N := 1) rfl ?_); refine box_event rfl (N := 1) rfl (cs := #[.int .i64 a0_0, .int .i64 a0_1, .slice A0_2 l0_2.length c0_2]) (t := 27) (by first | (go_simp; done) | (go_simp; rfl)) ?_; intro gb174 hg w11 hbox hb; have n_ := a4 (dU HB.out hb) (hbox) (gE hg HB.out) (gE hg HB.out); clear HB; obtain ⟨HB, BK174, GW174, GE174⟩ := n_; have gi_174 := GEc.mk GE174.out; clear hb hbox hg; have hcz12_0 : w11.cell? ⟨gb174, 0, none⟩ = some (.int .i64 a0_0) := (x3d BK174.out 0).trans rfl; have hcz12_1 : w11.cell? ⟨gb174, 1, none⟩ = some (.int .i64 a0_1) := (x3d BK174.out 1).trans rfl; have hcz12_2 : w11.cell? ⟨gb174, 2, none⟩ = some (.slice A0_2 l0_2.length c0_2) := (x3d BK174.out 2).trans rfl; have hfz12_0 := x2d BK174.out 0; have hfz12_1 := x2d BK174.out 1; have hfz12_2 := x2d BK174.out 2) | ((with_reducible refine gate_callee (f := 17) rfl ?_); refine goesL_ (some 7) rfl rfl Tryz.func17 (by kernel_rfl) rfl #[.agg #[.int .i64 a0_0, .int .i64 a0_1, .slice A0_2 l0_2.length c0_2]] rfl (by (try simp only [List.map_toArray, List.map_cons, List.map_nil]); first | done | rfl | (simp only [List.length_drop, List.length_take]; rfl)) ?_; (with_reducible refine (impl_IsPicture.calls a0_0 a0_1 _ _ l0_2 false _ ?side1 ?side2 A2.out).mono ?_); (case side1 => repeat (first | exact HR0_2.out | exact (y9d HR0_2.out HB.out) | (with_reducible refine y2d ?_ _) | (with_reducible refine y3d ?_ _) | (with_reducible refine y4d ?_))); (case side2 => exact HC0_2.out); rintro e w13 ⟨rfl, hb⟩; refine ⟨_, rfl, ?_⟩; have n_ := a2 (bU BK174.out hb) (dU HB.out hb); clear BK174 HB; obtain ⟨BK174, HB⟩ := n_; (try clear hb)))
  go_ret
  exact ⟨by first | rfl | (simp [errW_none, errW_some] <;> rfl) | (simp [*, errW_none, errW_some] <;> rfl), dV HB.out⟩

end Go.Proofs.YtkcgnnepgebekaaGreatDoor.PFnDesk
