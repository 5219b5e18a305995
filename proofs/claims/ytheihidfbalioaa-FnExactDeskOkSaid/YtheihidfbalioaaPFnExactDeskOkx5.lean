/- Machine side of laws FnExactDeskOk: written for this claim by the kit's print program under this session's wip/tools/mp_setup.py (with contracts of the session's own, wip/ext). -/
import Derived.Test.YtheihidfbalioaaPFnExactDeskOkx0
namespace Go.Proofs.Ytheihidfbalioaa.PFnExactDeskOk
open Go.RowKit Go.Proofs.YtheihidfbalioaaW.PrintWords Go.Proofs.YtheihidfbalioaaW.PrintLast Go.Proofs.YtheihidfbalioaaW.PrintMore
attribute [local go_sem] max2_int min2_int max_two min_two max_three min_three max_four min_four   -- for this text's walks alone
set_option linter.unusedVariables false
set_option linter.unusedSimpArgs false
-- squeezed: words under short names
set_option linter.defProp false in
def z0f := @Aside0.mk
set_option linter.defProp false in
def z1f := @blk_drewN
set_option linter.defProp false in
def z2f := @blk_alloc
set_option linter.defProp false in
def z3f := @blk_drew
set_option linter.defProp false in
def z4f := @below_alloc
set_option linter.defProp false in
def z5f := @pw_below_drewN
set_option linter.defProp false in
def z6f := @below_drew1
set_option linter.defProp false in
def z7f := @below_set
set_option linter.defProp false in
def z8f := @Kd.R_alloc
set_option linter.defProp false in
def z9f := @Kd.R_drewN
set_option linter.defProp false in
def y1f := @Kd.R_drew
set_option linter.defProp false in
def y2f := @Kd.C_alloc
set_option linter.defProp false in
def y3f := @Kd.C_drewN
set_option linter.defProp false in
def y4f := @Kd.C_drew
set_option linter.defProp false in
def y5f := @blk_below
set_option linter.defProp false in
def y6f := @below_step
set_option linter.defProp false in
def y7f := @below_size
set_option linter.defProp false in
def y9f := @Kd.C_below
set_option linter.defProp false in
def x1f := @Kd.R_far
set_option linter.defProp false in
def x2f := @blk_frozen
set_option linter.defProp false in
def x3f := @blk_cell
set_option linter.defProp false in
def x6f := @Kd.R_mono
set_option linter.defProp false in
def x7f := @Kd.R_types
set_option linter.defProp false in
def x8f := @blk_far
def bsf_ (n m : Nat) : Array Bool := ((List.range n).map fun i => m.testBit i).toArray
theorem s1f_ {α : Type} (l : List α) (i : Nat) (a : α) : l.toArray.setIfInBounds i a = (l.set i a).toArray := List.setIfInBounds_toArray l i a
theorem s2f_ {α : Type} (a b : α) (l : List α) : (a :: l).set 0 b = b :: l := rfl
theorem s3f_ {α : Type} (a b : α) (n : Nat) (l : List α) : (a :: l).set (n + 1) b = a :: l.set n b := rfl

/-! ### laws_toIntS: function 115 -/
def laws_toIntS.l0 : Nat → List Int → List Int → Int → Option (List Int)
 | 0, _, _, _ => none
 | k + 1, x0, x3, x4 => if x4 < (x0.length : Int) then (if 0 ≤ x4 then (if x4 < (x3.length : Int) then (laws_toIntS.l0 k x0 (x3.set (x4 : Int).toNat (rd x0 x4)) (wrap64 (x4 + 1))) else (none)) else (none)) else (some x3)
def laws_toIntS.f (k : Nat) (l0 : List Int) : Option (List Int) := if 0 ≤ (l0.length : Int) then (if ((l0.length : Int) : Int).toNat ≤ 35184372088832 then (laws_toIntS.l0 k l0 (List.replicate ((l0.length : Int) : Int).toNat 0) 0) else (none)) else (none)
theorem laws_toIntS.mono_l : ∀ k, (∀ y0 y1 y2, LeO (laws_toIntS.l0 k y0 y1 y2) (laws_toIntS.l0 (k + 1) y0 y1 y2))
 | 0 => fun _ _ _ r h => by simp [laws_toIntS.l0] at h
 | k + 1 => by
  have ih0 := laws_toIntS.mono_l k
  ·intro y0 y1 y2
   unfold laws_toIntS.l0
   repeat' first
   | (with_reducible exact ih0 _ _ _)
   | (with_reducible exact LeO.refl _)
   | (with_reducible exact LeO.none _)
   | (with_reducible refine LeO.ite ?_ ?_)
   | (with_reducible refine LeO.bind ?_ (fun _ => ?_))
   | exact ih0 _ _ _
   | exact LeO.none _
   | refine LeO.ite ?_ ?_
   | refine LeO.bind ?_ (fun _ => ?_)
theorem laws_toIntS.mono : ∀ a0 k, LeO (laws_toIntS.f k a0) (laws_toIntS.f (k + 1) a0) := by
 intro a0 k
 have ih0 := laws_toIntS.mono_l k
 unfold laws_toIntS.f
 repeat' first
   | (with_reducible exact ih0 _ _ _)
   | (with_reducible exact LeO.refl _)
   | (with_reducible exact LeO.none _)
   | (with_reducible refine LeO.ite ?_ ?_)
   | (with_reducible refine LeO.bind ?_ (fun _ => ?_))
   | exact ih0 _ _ _
   | exact LeO.none _
   | refine LeO.ite ?_ ?_
   | refine LeO.bind ?_ (fun _ => ?_)
set_option maxHeartbeats 8000000 in
set_option maxRecDepth 100000 in
theorem laws_toIntS.calls (k : Nat) (A0 : Option Addr) (c0 : Nat) (l0 : List Int) (r : List Int) (w : World) (hr0 : Kd.C (Kd.int .i64) w A0 l0.length l0) (hc0 : l0.length ≤ c0) (h : laws_toIntS.f k l0 = some r) :
  Calls Try.prog 115 #[.slice A0 l0.length c0] w fun e w' => ∃ v0_ : Value, e = .returned (v0_) ∧ Kd.R (Kd.int .i64) 3 w' w.heap.size (fun _ => True) v0_ r ∧ Below w.heap.size w w' := by
 have HR0 := z0f hr0
 have HC0 := z0f hc0
 clear hr0 hc0
 have HB := z0f (Below.refl w.heap.size w)
 have H : (if 0 ≤ (l0.length : Int) then (if ((l0.length : Int) : Int).toNat ≤ 35184372088832 then (laws_toIntS.l0 k l0 (List.replicate ((l0.length : Int) : Int).toNat 0) 0) else (none)) else (none)) = some r := h
 clear h
 by_cases c2 : 0 ≤ (l0.length : Int)
 ·rw [if_pos c2] at H
  have c2b0 := eq_true c2
  have c2b1 : decide (0 ≤ (l0.length : Int)) = true := decide_eq_true c2
  clear c2
  by_cases c3 : ((l0.length : Int) : Int).toNat ≤ 35184372088832
  ·rw [if_pos c3] at H
   have c3b0 := eq_true c3
   have c3b1 : decide (((l0.length : Int) : Int).toNat ≤ 35184372088832) = true := decide_eq_true c3
   clear c3
   obtain ⟨y144, hy144⟩ : ∃ y_ : List Int, y_ = (List.replicate ((l0.length : Int) : Int).toNat 0) := ⟨_, rfl⟩
   replace H : (laws_toIntS.l0 k l0 y144 0) = some r := by first | (rw [hy144]; with_reducible exact H) | (have H2_ := (Option.bind_some _ _).symm.trans H; rw [hy144]; with_reducible exact H2_) | (have H2_ := (Option.bind_some _ _).symm.trans H; with_reducible exact H2_) | with_reducible exact H | (rw [hy144]; exact H) | exact H
   have Ny144 := z0f hy144
   clear hy144
   have H' := z0f H
   clear H
   go_enter Try.func115, Try.ntmps115
   go_wp2_with (first | ((with_reducible refine gate_dst (N := 7) rfl ?_); refine Kd.R_make (Kd.int .i64) _ 3 rfl (N := 7) rfl 23 _ _ rfl (l0.length : Int) rfl rfl Try.underlying23 (.int .i64 0) 8 info3 rfl (by decide) (by omega) 0 (ok := fun _ => True) (okp := fun _ => True) rfl (fun _ hk => hk) trivial (of_decide_eq_true (by first | (with_reducible assumption) | assumption)) (Nat.le_trans (Nat.mul_le_mul_right _ (of_decide_eq_true (by first | (with_reducible assumption) | assumption) : (l0.length : Int).toNat ≤ 35184372088832)) (by omega)) (Below.refl _ _) (Nat.le_refl _) ?_; intro v145 w4 ho5 hb hg_ hnew_; clear hg_ hnew_; (first | rw [← Ny144.out] at ho5 | (simp only [Int.reduceToNat] at ho5; rw [← Ny144.out] at ho5)); have n0_ := z0f (Kd.R_lower ho5 (y7f (by repeat (first | (with_reducible first | exact HB.out | apply z4f | apply z5f | apply z6f) | exact HB.out)))); have n1_ := z0f (y6f (by repeat (first | (with_reducible first | exact HB.out | apply z4f | apply z5f | apply z6f) | exact HB.out)) hb); clear HB; have HO146 := n0_; have HB := n1_; clear n0_ n1_; clear hb ho5))
   go_loopg [4] k (fun kq v4 w' => ∃ (x3_1 : List Int) (x4_1 : Int), v4 = .int .i64 x4_1 ∧ Aside0 (laws_toIntS.l0 kq l0 x3_1 x4_1 = some r) ∧ Aside0 (kq ≤ k) ∧ Aside0 (Kd.R (Kd.int .i64) 3 w' w.heap.size (fun _ => True) v145 x3_1) ∧ Aside0 (Below w.heap.size w w'))
   case atStart => exact ⟨(y144), (0), (by first | rfl | (simp; done) | (simp [*]; done)), H', ⟨Nat.le_refl _⟩, ⟨by (with_reducible repeat (first | apply z8f | apply z9f | apply y1f)); exact HO146.out⟩, ⟨by repeat (first | (with_reducible first | exact HB.out | apply z4f | apply z5f | apply z6f) | exact HB.out)⟩⟩
   case round =>
    clear H'
    try clear c1
    try clear c2
    try clear c2b0
    try clear c2b1
    try clear p2
    try clear c3
    try clear c3b0
    try clear c3b1
    obtain ⟨x3_1, x4_1, rfl, HA, HK1, HO_3, HB⟩ := hrel
    cases gk with
    | zero => exact absurd HA.out (by simp [laws_toIntS.l0])
    | succ k1 =>
     have H := HA.out
     clear HA
     simp only [laws_toIntS.l0] at H
     by_cases c6 : x4_1 < (l0.length : Int)
     ·rw [if_pos c6] at H
      have c6b0 : decide (x4_1 < (l0.length : Int)) = true := decide_eq_true c6
      clear c6
      by_cases c7 : 0 ≤ x4_1
      ·rw [if_pos c7] at H
       have c7b0 : decide (0 ≤ x4_1) = true := decide_eq_true c7
       clear c7
       by_cases c8 : x4_1 < (x3_1.length : Int)
       ·rw [if_pos c8] at H
        have c8b0 : decide (x4_1 < (x3_1.length : Int)) = true := decide_eq_true c8
        clear c8
        obtain ⟨y148, hy148⟩ : ∃ y_ : List Int, y_ = (x3_1.set (x4_1 : Int).toNat (rd l0 x4_1)) := ⟨_, rfl⟩
        replace H : (laws_toIntS.l0 k1 l0 y148 (wrap64 (x4_1 + 1))) = some r := by first | (rw [hy148]; with_reducible exact H) | (have H2_ := (Option.bind_some _ _).symm.trans H; rw [hy148]; with_reducible exact H2_) | (have H2_ := (Option.bind_some _ _).symm.trans H; with_reducible exact H2_) | with_reducible exact H | (rw [hy148]; exact H) | exact H
        have Ny148 := z0f hy148
        clear hy148
        have H' := z0f H
        clear H
        have p147 : 0 ≤ (x4_1 : Int) := of_decide_eq_true (by first | (with_reducible assumption) | assumption)
        have q147 : x4_1 < (l0.length : Int) := of_decide_eq_true (by first | (with_reducible assumption) | assumption)
        obtain ⟨ad147, e147, hx147_0⟩ := Kd.at_int HR0.out x4_1 p147 q147
        cases e147
        replace hx147_0 := (HB.out.cell (World.block_lt_of_cell? w _ hx147_0)).trans hx147_0
        replace p147 := eq_true p147
        replace q147 := eq_true q147
        have p9 : 0 ≤ (x4_1 : Int) := of_decide_eq_true (by first | (with_reducible assumption) | assumption)
        have q9 : (x4_1 : Int) < ((x3_1.length : Int) : Int) := of_decide_eq_true (by first | (with_reducible assumption) | assumption)
        obtain ⟨go9, co9, eo9, gb9, gl9, cl9, HG9⟩ := Kd.R_form HO_3.out (by omega)
        (first | cases eo9 | (injection eo9 with ea_ en_ ec_; (first | subst ea_ | (injection ea_ with ea_; subst ea_)); subst ec_; clear en_))
        have GB9 := z0f gb9
        have GG9 := z0f HG9
        clear gb9 gl9 HG9
        obtain ⟨hx9_0, hf9_0⟩ := Kd.R_celln 0 HO_3.out (x4_1 : Int) p9 q9
        replace p9 := eq_true p9
        replace q9 := eq_true q9
        have HP10 := Kd.R_putg HO_3.out (x4_1 : Int) (rd l0 x4_1)
        go_wp2_with (first | ((with_reducible refine gate_store (t := 3) (p := 20) rfl ?_); refine store_event (t := 3) (p := 20) (v := ?vo_w11) (w1 := (wr.setCell ⟨go9, (x4_1 : Int).toNat, none⟩ (.int .i64 (rd l0 x4_1)))) ?hg ?ho ?hn ?hr ?_; (case ho => rfl); (case hg => rfl); (case hn => rfl); (case hr => first | (go_simp; done) | (go_simp; rfl)); intro w11 hw; have hg : wr.grownBy w11 (some go9) := (by rw [hw]; exact HP10.2); have hp_ : Kd.R (Kd.int .i64) 3 w11 w.heap.size (fun _ => True) (.slice (some ⟨go9, 0, none⟩) x3_1.length co9) y148 := (by rw [hw, Ny148.out]; exact HP10.1); clear HP10; have n0_ := z0f (hp_); have n1_ := z0f ((by rw [hw]; exact z7f (HB.out) GB9.out : Below w.heap.size w w11)); clear HO_3; clear HB; have HO_3 := n0_; have HB := n1_; clear n0_ n1_; clear hg hw hp_))
        go_roundg k1
        case measure => have := HK1.out; omega
        case rel => exact ⟨(y148), (wrap64 (x4_1 + 1)), (by first | rfl | (simp; done) | (simp [*]; done)), H', ⟨by have := HK1.out; omega⟩, ⟨by (with_reducible repeat (first | apply z8f | apply z9f | apply y1f)); exact HO_3.out⟩, ⟨by repeat (first | (with_reducible first | exact HB.out | apply z4f | apply z5f | apply z6f) | exact HB.out)⟩⟩
       ·rw [if_neg c8] at H
        exact absurd H (by simp)
      ·rw [if_neg c7] at H
       exact absurd H (by simp)
     ·rw [if_neg c6] at H
      have c6b0 : decide (x4_1 < (l0.length : Int)) = false := decide_eq_false c6
      clear c6
      obtain rfl := Option.some.inj H
      go_wp2
      go_ret
      exact ⟨_, by first | rfl | (simp [errW_none, errW_some] <;> rfl) | (simp [*, errW_none, errW_some] <;> rfl), by (with_reducible repeat (first | apply z8f | apply z9f | apply y1f)); exact HO_3.out, by repeat (first | (with_reducible first | exact HB.out | apply z4f | apply z5f | apply z6f) | exact HB.out)⟩
  ·rw [if_neg c3] at H
   exact absurd H (by simp)
 ·rw [if_neg c2] at H
  exact absurd H (by simp)

/-! ### laws_toPicture: function 92 -/
def laws_toPicture.f (k : Nat) (a0_0 : Int) (a0_1 : Int) (l0_2 : List Int) : Option (Int × Int × List Int) := (laws_toIntS.f k l0_2).bind fun t152 => (some (a0_0, a0_1, t152))
theorem laws_toPicture.mono : ∀ a0 a1 a2 k, LeO (laws_toPicture.f k a0 a1 a2) (laws_toPicture.f (k + 1) a0 a1 a2) := by
 intro a0 a1 a2 k
 unfold laws_toPicture.f
 repeat' first
   | (with_reducible exact laws_toIntS.mono _ _)
   | (with_reducible exact LeO.refl _)
   | (with_reducible exact LeO.none _)
   | (with_reducible refine LeO.ite ?_ ?_)
   | (with_reducible refine LeO.bind ?_ (fun _ => ?_))
   | exact laws_toIntS.mono _ _
   | exact LeO.none _
   | refine LeO.ite ?_ ?_
   | refine LeO.bind ?_ (fun _ => ?_)
set_option maxHeartbeats 8000000 in
set_option maxRecDepth 100000 in
theorem laws_toPicture.calls (k : Nat) (a0_0 : Int) (a0_1 : Int) (A0_2 : Option Addr) (c0_2 : Nat) (l0_2 : List Int) (r1 : Int) (r2 : Int) (r3 : List Int) (w : World) (hr0_2 : Kd.C (Kd.int .i64) w A0_2 l0_2.length l0_2) (hc0_2 : l0_2.length ≤ c0_2) (h : laws_toPicture.f k a0_0 a0_1 l0_2 = some (r1, r2, r3)) :
  Calls Try.prog 92 #[.agg #[.int .i64 a0_0, .int .i64 a0_1, .slice A0_2 l0_2.length c0_2]] w fun e w' => ∃ v2_ : Value, e = .returned (.agg #[.int .i64 r1, .int .i64 r2, v2_]) ∧ Kd.R (Kd.int .i64) 3 w' w.heap.size (fun _ => True) v2_ r3 ∧ Below w.heap.size w w' := by
 have hu60 := Try.underlying60
 have hu25 := Try.underlying25
 have HR0_2 := z0f hr0_2
 have HC0_2 := z0f hc0_2
 clear hr0_2 hc0_2
 have HB := z0f (Below.refl w.heap.size w)
 have H : ((laws_toIntS.f k l0_2).bind fun t152 => (some (a0_0, a0_1, t152))) = some (r1, r2, r3) := h
 clear h
 replace H := Option.bind_eq_some_iff.mp H
 obtain ⟨t152, A20, H⟩ := H
 replace H : (some (a0_0, a0_1, t152)) = some (r1, r2, r3) := H
 have A2 := z0f A20
 clear A20
 simp only [Option.some.injEq, Prod.mk.injEq] at H
 obtain ⟨rfl, rfl, rfl⟩ := H
 go_enter Try.func92, Try.ntmps92
 go_wp2_with (first | ((with_reducible refine gate_dst (N := 1) rfl ?_); refine box_event ?hg (N := 1) ?hd (cs := #[.int .i64 a0_0, .int .i64 a0_1, .slice A0_2 l0_2.length c0_2]) (t := 60) ?hr ?_; (case hd => rfl); (case hg => rfl); (case hr => first | (go_simp; done) | (go_simp; rfl)); intro gb149 hg w3 hbox hb; have n0_ := z0f (y6f (by repeat (first | (with_reducible first | exact HB.out | apply z4f | apply z5f | apply z6f) | exact HB.out)) hb); have n1_ := z0f (hbox); have n2_ := z0f ((by rw [hg]; exact (y7f (by repeat (first | (with_reducible first | exact HB.out | apply z4f | apply z5f | apply z6f) | exact HB.out))) : w.heap.size ≤ gb149)); have n3_ := z0f ((by rw [hg]; exact (y7f (by repeat (first | (with_reducible first | exact HB.out | apply z4f | apply z5f | apply z6f) | exact HB.out))) : w.heap.size ≤ gb149)); clear HB; have HB := n0_; have BK149 := n1_; have GW149 := n2_; have GE149 := n3_; clear n0_ n1_ n2_ n3_; clear hb hbox hg) | ((with_reducible refine gate_dst (N := 2) rfl ?_); refine box_event ?hg (N := 2) ?hd (cs := #[.int .i64 0, .int .i64 0, .slice none 0 0]) (t := 25) ?hr ?_; (case hd => rfl); (case hg => rfl); (case hr => first | (go_simp; done) | (go_simp; rfl)); intro gb150 hg w4 hbox hb; have n0_ := z0f (y5f (g := gb149) (o := .cells #[.int .i64 a0_0, .int .i64 a0_1, .slice A0_2 l0_2.length c0_2] 60 (0, 0)) (by (with_reducible repeat (first | refine z1f ?_ _ | refine z3f ?_ | refine z2f ?_ _)); exact BK149.out) hb); have n1_ := z0f (y6f (by repeat (first | (with_reducible first | exact HB.out | apply z4f | apply z5f | apply z6f | refine z7f ?_ GE149.out) | exact HB.out)) hb); have n2_ := z0f (hbox); have n3_ := z0f ((by rw [hg]; exact (y7f (by repeat (first | (with_reducible first | exact HB.out | apply z4f | apply z5f | apply z6f | refine z7f ?_ GE149.out) | exact HB.out))) : w.heap.size ≤ gb150)); have n4_ := z0f ((by rw [hg]; exact (y7f (by repeat (first | (with_reducible first | exact HB.out | apply z4f | apply z5f | apply z6f | refine z7f ?_ GE149.out) | exact HB.out))) : w.heap.size ≤ gb150)); have n5_ := z0f ((by rw [hg]; exact Nat.ne_of_lt (blk_lt (g := gb149) (o := .cells #[.int .i64 a0_0, .int .i64 a0_1, .slice A0_2 l0_2.length c0_2] 60 (0, 0)) (by (with_reducible repeat (first | refine z1f ?_ _ | refine z3f ?_ | refine z2f ?_ _)); exact BK149.out)) : gb149 ≠ gb150)); have n6_ := z0f ((by rw [hg]; exact Nat.ne_of_gt (blk_lt (g := gb149) (o := .cells #[.int .i64 a0_0, .int .i64 a0_1, .slice A0_2 l0_2.length c0_2] 60 (0, 0)) (by (with_reducible repeat (first | refine z1f ?_ _ | refine z3f ?_ | refine z2f ?_ _)); exact BK149.out)) : gb150 ≠ gb149)); clear BK149; clear HB; have BK149 := n0_; have HB := n1_; have BK150 := n2_; have GW150 := n3_; have GE150 := n4_; have NB149_150 := n5_; have NB150_149 := n6_; clear n0_ n1_ n2_ n3_ n4_ n5_ n6_; clear hb hbox hg) | ((with_reducible refine gate_dst (N := 3) rfl ?_); refine box_event ?hg (N := 3) ?hd (cs := #[.int .i64 0, .int .i64 0, .slice none 0 0]) (t := 25) ?hr ?_; (case hd => rfl); (case hg => rfl); (case hr => first | (go_simp; done) | (go_simp; rfl)); intro gb151 hg w5 hbox hb; have n0_ := z0f (y5f (g := gb149) (o := .cells #[.int .i64 a0_0, .int .i64 a0_1, .slice A0_2 l0_2.length c0_2] 60 (0, 0)) (by (with_reducible repeat (first | refine z1f ?_ _ | refine z3f ?_ | refine z2f ?_ _)); exact BK149.out) hb); have n1_ := z0f (y5f (g := gb150) (o := .cells #[.int .i64 0, .int .i64 0, .slice none 0 0] 25 (0, 0)) (by (with_reducible repeat (first | refine z1f ?_ _ | refine z3f ?_ | refine z2f ?_ _)); exact BK150.out) hb); have n2_ := z0f (y6f (by repeat (first | (with_reducible first | exact HB.out | apply z4f | apply z5f | apply z6f | refine z7f ?_ GE149.out | refine z7f ?_ GE150.out) | exact HB.out)) hb); have n3_ := z0f (hbox); have n4_ := z0f ((by rw [hg]; exact (y7f (by repeat (first | (with_reducible first | exact HB.out | apply z4f | apply z5f | apply z6f | refine z7f ?_ GE149.out | refine z7f ?_ GE150.out) | exact HB.out))) : w.heap.size ≤ gb151)); have n5_ := z0f ((by rw [hg]; exact (y7f (by repeat (first | (with_reducible first | exact HB.out | apply z4f | apply z5f | apply z6f | refine z7f ?_ GE149.out | refine z7f ?_ GE150.out) | exact HB.out))) : w.heap.size ≤ gb151)); have n6_ := z0f ((by rw [hg]; exact Nat.ne_of_lt (blk_lt (g := gb149) (o := .cells #[.int .i64 a0_0, .int .i64 a0_1, .slice A0_2 l0_2.length c0_2] 60 (0, 0)) (by (with_reducible repeat (first | refine z1f ?_ _ | refine z3f ?_ | refine z2f ?_ _)); exact BK149.out)) : gb149 ≠ gb151)); have n7_ := z0f ((by rw [hg]; exact Nat.ne_of_gt (blk_lt (g := gb149) (o := .cells #[.int .i64 a0_0, .int .i64 a0_1, .slice A0_2 l0_2.length c0_2] 60 (0, 0)) (by (with_reducible repeat (first | refine z1f ?_ _ | refine z3f ?_ | refine z2f ?_ _)); exact BK149.out)) : gb151 ≠ gb149)); have n8_ := z0f ((by rw [hg]; exact Nat.ne_of_lt (blk_lt (g := gb150) (o := .cells #[.int .i64 0, .int .i64 0, .slice none 0 0] 25 (0, 0)) (by (with_reducible repeat (first | refine z1f ?_ _ | refine z3f ?_ | refine z2f ?_ _)); exact BK150.out)) : gb150 ≠ gb151)); have n9_ := z0f ((by rw [hg]; exact Nat.ne_of_gt (blk_lt (g := gb150) (o := .cells #[.int .i64 0, .int .i64 0, .slice none 0 0] 25 (0, 0)) (by (with_reducible repeat (first | refine z1f ?_ _ | refine z3f ?_ | refine z2f ?_ _)); exact BK150.out)) : gb151 ≠ gb150)); clear BK149; clear BK150; clear HB; have BK149 := n0_; have BK150 := n1_; have HB := n2_; have BK151 := n3_; have GW151 := n4_; have GE151 := n5_; have NB149_151 := n6_; have NB151_149 := n7_; have NB150_151 := n8_; have NB151_150 := n9_; clear n0_ n1_ n2_ n3_ n4_ n5_ n6_ n7_ n8_ n9_; clear hb hbox hg; have hnb6 := NB149_150.out; have hnc6 := NB150_149.out; have hnb7 := NB149_151.out; have hnc7 := NB151_149.out; have hcz8_0 : w5.cell? ⟨gb149, 0, none⟩ = some (.int .i64 a0_0) := (x3f BK149.out 0).trans rfl; have hcz8_1 : w5.cell? ⟨gb149, 1, none⟩ = some (.int .i64 a0_1) := (x3f BK149.out 1).trans rfl; have hcz8_2 : w5.cell? ⟨gb149, 2, none⟩ = some (.slice A0_2 l0_2.length c0_2) := (x3f BK149.out 2).trans rfl; have hfz8_0 := x2f BK149.out 0; have hfz8_1 := x2f BK149.out 1; have hfz8_2 := x2f BK149.out 2; have hnb9 := NB151_150.out; have hnc9 := NB150_151.out; have hcz10_0 : w5.cell? ⟨gb151, 0, none⟩ = some (.int .i64 0) := (x3f BK151.out 0).trans rfl; have hcz10_1 : w5.cell? ⟨gb151, 1, none⟩ = some (.int .i64 0) := (x3f BK151.out 1).trans rfl; have hcz10_2 : w5.cell? ⟨gb151, 2, none⟩ = some (.slice none 0 0) := (x3f BK151.out 2).trans rfl; have hfz10_0 := x2f BK151.out 0; have hfz10_1 := x2f BK151.out 1; have hfz10_2 := x2f BK151.out 2) | ((with_reducible refine gate_callee (f := 115) rfl ?_); refine goesL_ (some 12) rfl rfl Try.func115 (by kernel_rfl) rfl #[.slice A0_2 l0_2.length c0_2] rfl (by (try simp only [List.map_toArray, List.map_cons, List.map_nil]); first | done | rfl | (simp only [List.length_drop, List.length_take]; rfl)) ?_; (with_reducible refine (laws_toIntS.calls k _ _ l0_2 t152 _ ?side1 ?side2 A2.out).mono ?_); (case side1 => exact y9f HR0_2.out (by repeat (first | (with_reducible first | exact HB.out | apply z4f | apply z5f | apply z6f | refine z7f ?_ GE149.out | refine z7f ?_ GE150.out | refine z7f ?_ GE151.out) | exact HB.out))); (case side2 => exact HC0_2.out); rintro e w11 ⟨v153, rfl, ho0, hb⟩; refine ⟨_, rfl, ?_⟩; have n0_ := z0f (Kd.R_lower ho0 (y7f (by repeat (first | (with_reducible first | exact HB.out | apply z4f | apply z5f | apply z6f | refine z7f ?_ GE149.out | refine z7f ?_ GE150.out | refine z7f ?_ GE151.out) | exact HB.out)))); have n1_ := z0f (y5f (g := gb149) (o := .cells #[.int .i64 a0_0, .int .i64 a0_1, .slice A0_2 l0_2.length c0_2] 60 (0, 0)) (by (with_reducible repeat (first | refine z1f ?_ _ | refine z3f ?_ | refine z2f ?_ _)); refine x8f ?_ NB149_151.out _; (with_reducible repeat (first | refine z1f ?_ _ | refine z3f ?_ | refine z2f ?_ _)); refine x8f ?_ NB149_151.out _; (with_reducible repeat (first | refine z1f ?_ _ | refine z3f ?_ | refine z2f ?_ _)); exact BK149.out) hb); have n2_ := z0f (y5f (g := gb150) (o := .cells #[.int .i64 0, .int .i64 0, .slice none 0 0] 25 (0, 0)) (by (with_reducible repeat (first | refine z1f ?_ _ | refine z3f ?_ | refine z2f ?_ _)); refine x8f ?_ NB150_151.out _; (with_reducible repeat (first | refine z1f ?_ _ | refine z3f ?_ | refine z2f ?_ _)); refine x8f ?_ NB150_151.out _; (with_reducible repeat (first | refine z1f ?_ _ | refine z3f ?_ | refine z2f ?_ _)); exact BK150.out) hb); have n3_ := z0f (y5f (g := gb151) (o := .cells #[.int .i64 a0_0, .int .i64 a0_1, .slice none 0 0] 25 (0, 0)) (by (with_reducible repeat (first | refine z1f ?_ _ | refine z3f ?_ | refine z2f ?_ _)); refine blk_put (cs := #[.int .i64 a0_0, .int .i64 0, .slice none 0 0]) ?_ 1 _ rfl; (with_reducible repeat (first | refine z1f ?_ _ | refine z3f ?_ | refine z2f ?_ _)); refine blk_put (cs := #[.int .i64 0, .int .i64 0, .slice none 0 0]) ?_ 0 _ rfl; (with_reducible repeat (first | refine z1f ?_ _ | refine z3f ?_ | refine z2f ?_ _)); exact BK151.out) hb); have n4_ := z0f (y6f (by repeat (first | (with_reducible first | exact HB.out | apply z4f | apply z5f | apply z6f | refine z7f ?_ GE149.out | refine z7f ?_ GE150.out | refine z7f ?_ GE151.out) | exact HB.out)) hb); clear BK149; clear BK150; clear BK151; clear HB; have HO154 := n0_; have BK149 := n1_; have BK150 := n2_; have BK151 := n3_; have HB := n4_; clear n0_ n1_ n2_ n3_ n4_; (try clear hb); (try clear ho0); obtain ⟨Ao12, co12, eo12⟩ := Kd.R_slice HO154.out; subst eo12; have hcz13_0 : w11.cell? ⟨gb151, 0, none⟩ = some (.int .i64 a0_0) := (x3f BK151.out 0).trans rfl; have hcz13_1 : w11.cell? ⟨gb151, 1, none⟩ = some (.int .i64 a0_1) := (x3f BK151.out 1).trans rfl; have hcz13_2 : w11.cell? ⟨gb151, 2, none⟩ = some (.slice none 0 0) := (x3f BK151.out 2).trans rfl; have hfz13_0 := x2f BK151.out 0; have hfz13_1 := x2f BK151.out 1; have hfz13_2 := x2f BK151.out 2; have hcz14_0 : w11.cell? ⟨gb150, 0, none⟩ = some (.int .i64 0) := (x3f BK150.out 0).trans rfl; have hcz14_1 : w11.cell? ⟨gb150, 1, none⟩ = some (.int .i64 0) := (x3f BK150.out 1).trans rfl; have hcz14_2 : w11.cell? ⟨gb150, 2, none⟩ = some (.slice none 0 0) := (x3f BK150.out 2).trans rfl; have hfz14_0 := x2f BK150.out 0; have hfz14_1 := x2f BK150.out 1; have hfz14_2 := x2f BK150.out 2))
 refine bodyPost_ret (results_cell_row rfl _ _ gb150 25 #[.int .i64 a0_0, .int .i64 a0_1, .slice Ao12 t152.length co12] (0, 0) _ rfl (by (with_reducible repeat (first | refine z1f ?_ _ | refine z3f ?_ | refine z2f ?_ _)); refine blk_put (cs := #[.int .i64 a0_0, .int .i64 a0_1, .slice none 0 0]) ?_ 2 _ rfl; (with_reducible repeat (first | refine z1f ?_ _ | refine z3f ?_ | refine z2f ?_ _)); refine blk_put (cs := #[.int .i64 a0_0, .int .i64 0, .slice none 0 0]) ?_ 1 _ rfl; (with_reducible repeat (first | refine z1f ?_ _ | refine z3f ?_ | refine z2f ?_ _)); refine blk_put (cs := #[.int .i64 0, .int .i64 0, .slice none 0 0]) ?_ 0 _ rfl; (with_reducible repeat (first | refine z1f ?_ _ | refine z3f ?_ | refine z2f ?_ _)); refine x8f ?_ NB150_151.out _; (with_reducible repeat (first | refine z1f ?_ _ | refine z3f ?_ | refine z2f ?_ _)); exact BK150.out) Try.underlying25 rfl (by kernel_rfl)) rfl ?_
 exact ⟨_, by first | rfl | (simp [errW_none, errW_some] <;> rfl) | (simp [*, errW_none, errW_some] <;> rfl), by (with_reducible repeat (first | apply z8f | apply z9f | apply y1f)); exact x6f (x1f (p := ⟨gb150, 2, none⟩) (x1f (p := ⟨gb150, 1, none⟩) (x1f (p := ⟨gb150, 0, none⟩) (x1f (p := ⟨gb151, 2, none⟩) (x7f (x7f HO154.out BK151.out (by decide)) BK150.out (by decide)) (fun _ hk => hk.1.2) (.slice Ao12 t152.length co12)) (fun _ hk => hk.2) (.int .i64 a0_0)) (fun _ hk => hk.2) (.int .i64 a0_1)) (fun _ hk => hk.2) (.slice Ao12 t152.length co12)) (fun _ hk => trivial), by repeat (first | (with_reducible first | exact HB.out | apply z4f | apply z5f | apply z6f | refine z7f ?_ GE149.out | refine z7f ?_ GE150.out | refine z7f ?_ GE151.out) | exact HB.out)⟩

/-! ### laws_toMatrix: function 93 -/
def laws_toMatrix.f (k : Nat) (a0_0 : Int) (a0_1 : Int) (l0_2 : List Int) : Option (Int × Int × List Int) := (laws_toIntS.f k l0_2).bind fun t158 => (some (a0_0, a0_1, t158))
theorem laws_toMatrix.mono : ∀ a0 a1 a2 k, LeO (laws_toMatrix.f k a0 a1 a2) (laws_toMatrix.f (k + 1) a0 a1 a2) := by
 intro a0 a1 a2 k
 unfold laws_toMatrix.f
 repeat' first
   | (with_reducible exact laws_toIntS.mono _ _)
   | (with_reducible exact LeO.refl _)
   | (with_reducible exact LeO.none _)
   | (with_reducible refine LeO.ite ?_ ?_)
   | (with_reducible refine LeO.bind ?_ (fun _ => ?_))
   | exact laws_toIntS.mono _ _
   | exact LeO.none _
   | refine LeO.ite ?_ ?_
   | refine LeO.bind ?_ (fun _ => ?_)
set_option maxHeartbeats 8000000 in
set_option maxRecDepth 100000 in
theorem laws_toMatrix.calls (k : Nat) (a0_0 : Int) (a0_1 : Int) (A0_2 : Option Addr) (c0_2 : Nat) (l0_2 : List Int) (r1 : Int) (r2 : Int) (r3 : List Int) (w : World) (hr0_2 : Kd.C (Kd.int .i64) w A0_2 l0_2.length l0_2) (hc0_2 : l0_2.length ≤ c0_2) (h : laws_toMatrix.f k a0_0 a0_1 l0_2 = some (r1, r2, r3)) :
  Calls Try.prog 93 #[.agg #[.int .i64 a0_0, .int .i64 a0_1, .slice A0_2 l0_2.length c0_2]] w fun e w' => ∃ v2_ : Value, e = .returned (.agg #[.int .i64 r1, .int .i64 r2, v2_]) ∧ Kd.R (Kd.int .i64) 3 w' w.heap.size (fun _ => True) v2_ r3 ∧ Below w.heap.size w w' := by
 have hu61 := Try.underlying61
 have hu39 := Try.underlying39
 have HR0_2 := z0f hr0_2
 have HC0_2 := z0f hc0_2
 clear hr0_2 hc0_2
 have HB := z0f (Below.refl w.heap.size w)
 have H : ((laws_toIntS.f k l0_2).bind fun t158 => (some (a0_0, a0_1, t158))) = some (r1, r2, r3) := h
 clear h
 replace H := Option.bind_eq_some_iff.mp H
 obtain ⟨t158, A20, H⟩ := H
 replace H : (some (a0_0, a0_1, t158)) = some (r1, r2, r3) := H
 have A2 := z0f A20
 clear A20
 simp only [Option.some.injEq, Prod.mk.injEq] at H
 obtain ⟨rfl, rfl, rfl⟩ := H
 go_enter Try.func93, Try.ntmps93
 go_wp2_with (first | ((with_reducible refine gate_dst (N := 1) rfl ?_); refine box_event ?hg (N := 1) ?hd (cs := #[.int .i64 a0_0, .int .i64 a0_1, .slice A0_2 l0_2.length c0_2]) (t := 61) ?hr ?_; (case hd => rfl); (case hg => rfl); (case hr => first | (go_simp; done) | (go_simp; rfl)); intro gb155 hg w3 hbox hb; have n0_ := z0f (y6f (by repeat (first | (with_reducible first | exact HB.out | apply z4f | apply z5f | apply z6f) | exact HB.out)) hb); have n1_ := z0f (hbox); have n2_ := z0f ((by rw [hg]; exact (y7f (by repeat (first | (with_reducible first | exact HB.out | apply z4f | apply z5f | apply z6f) | exact HB.out))) : w.heap.size ≤ gb155)); have n3_ := z0f ((by rw [hg]; exact (y7f (by repeat (first | (with_reducible first | exact HB.out | apply z4f | apply z5f | apply z6f) | exact HB.out))) : w.heap.size ≤ gb155)); clear HB; have HB := n0_; have BK155 := n1_; have GW155 := n2_; have GE155 := n3_; clear n0_ n1_ n2_ n3_; clear hb hbox hg) | ((with_reducible refine gate_dst (N := 2) rfl ?_); refine box_event ?hg (N := 2) ?hd (cs := #[.int .i64 0, .int .i64 0, .slice none 0 0]) (t := 39) ?hr ?_; (case hd => rfl); (case hg => rfl); (case hr => first | (go_simp; done) | (go_simp; rfl)); intro gb156 hg w4 hbox hb; have n0_ := z0f (y5f (g := gb155) (o := .cells #[.int .i64 a0_0, .int .i64 a0_1, .slice A0_2 l0_2.length c0_2] 61 (0, 0)) (by (with_reducible repeat (first | refine z1f ?_ _ | refine z3f ?_ | refine z2f ?_ _)); exact BK155.out) hb); have n1_ := z0f (y6f (by repeat (first | (with_reducible first | exact HB.out | apply z4f | apply z5f | apply z6f | refine z7f ?_ GE155.out) | exact HB.out)) hb); have n2_ := z0f (hbox); have n3_ := z0f ((by rw [hg]; exact (y7f (by repeat (first | (with_reducible first | exact HB.out | apply z4f | apply z5f | apply z6f | refine z7f ?_ GE155.out) | exact HB.out))) : w.heap.size ≤ gb156)); have n4_ := z0f ((by rw [hg]; exact (y7f (by repeat (first | (with_reducible first | exact HB.out | apply z4f | apply z5f | apply z6f | refine z7f ?_ GE155.out) | exact HB.out))) : w.heap.size ≤ gb156)); have n5_ := z0f ((by rw [hg]; exact Nat.ne_of_lt (blk_lt (g := gb155) (o := .cells #[.int .i64 a0_0, .int .i64 a0_1, .slice A0_2 l0_2.length c0_2] 61 (0, 0)) (by (with_reducible repeat (first | refine z1f ?_ _ | refine z3f ?_ | refine z2f ?_ _)); exact BK155.out)) : gb155 ≠ gb156)); have n6_ := z0f ((by rw [hg]; exact Nat.ne_of_gt (blk_lt (g := gb155) (o := .cells #[.int .i64 a0_0, .int .i64 a0_1, .slice A0_2 l0_2.length c0_2] 61 (0, 0)) (by (with_reducible repeat (first | refine z1f ?_ _ | refine z3f ?_ | refine z2f ?_ _)); exact BK155.out)) : gb156 ≠ gb155)); clear BK155; clear HB; have BK155 := n0_; have HB := n1_; have BK156 := n2_; have GW156 := n3_; have GE156 := n4_; have NB155_156 := n5_; have NB156_155 := n6_; clear n0_ n1_ n2_ n3_ n4_ n5_ n6_; clear hb hbox hg) | ((with_reducible refine gate_dst (N := 3) rfl ?_); refine box_event ?hg (N := 3) ?hd (cs := #[.int .i64 0, .int .i64 0, .slice none 0 0]) (t := 39) ?hr ?_; (case hd => rfl); (case hg => rfl); (case hr => first | (go_simp; done) | (go_simp; rfl)); intro gb157 hg w5 hbox hb; have n0_ := z0f (y5f (g := gb155) (o := .cells #[.int .i64 a0_0, .int .i64 a0_1, .slice A0_2 l0_2.length c0_2] 61 (0, 0)) (by (with_reducible repeat (first | refine z1f ?_ _ | refine z3f ?_ | refine z2f ?_ _)); exact BK155.out) hb); have n1_ := z0f (y5f (g := gb156) (o := .cells #[.int .i64 0, .int .i64 0, .slice none 0 0] 39 (0, 0)) (by (with_reducible repeat (first | refine z1f ?_ _ | refine z3f ?_ | refine z2f ?_ _)); exact BK156.out) hb); have n2_ := z0f (y6f (by repeat (first | (with_reducible first | exact HB.out | apply z4f | apply z5f | apply z6f | refine z7f ?_ GE155.out | refine z7f ?_ GE156.out) | exact HB.out)) hb); have n3_ := z0f (hbox); have n4_ := z0f ((by rw [hg]; exact (y7f (by repeat (first | (with_reducible first | exact HB.out | apply z4f | apply z5f | apply z6f | refine z7f ?_ GE155.out | refine z7f ?_ GE156.out) | exact HB.out))) : w.heap.size ≤ gb157)); have n5_ := z0f ((by rw [hg]; exact (y7f (by repeat (first | (with_reducible first | exact HB.out | apply z4f | apply z5f | apply z6f | refine z7f ?_ GE155.out | refine z7f ?_ GE156.out) | exact HB.out))) : w.heap.size ≤ gb157)); have n6_ := z0f ((by rw [hg]; exact Nat.ne_of_lt (blk_lt (g := gb155) (o := .cells #[.int .i64 a0_0, .int .i64 a0_1, .slice A0_2 l0_2.length c0_2] 61 (0, 0)) (by (with_reducible repeat (first | refine z1f ?_ _ | refine z3f ?_ | refine z2f ?_ _)); exact BK155.out)) : gb155 ≠ gb157)); have n7_ := z0f ((by rw [hg]; exact Nat.ne_of_gt (blk_lt (g := gb155) (o := .cells #[.int .i64 a0_0, .int .i64 a0_1, .slice A0_2 l0_2.length c0_2] 61 (0, 0)) (by (with_reducible repeat (first | refine z1f ?_ _ | refine z3f ?_ | refine z2f ?_ _)); exact BK155.out)) : gb157 ≠ gb155)); have n8_ := z0f ((by rw [hg]; exact Nat.ne_of_lt (blk_lt (g := gb156) (o := .cells #[.int .i64 0, .int .i64 0, .slice none 0 0] 39 (0, 0)) (by (with_reducible repeat (first | refine z1f ?_ _ | refine z3f ?_ | refine z2f ?_ _)); exact BK156.out)) : gb156 ≠ gb157)); have n9_ := z0f ((by rw [hg]; exact Nat.ne_of_gt (blk_lt (g := gb156) (o := .cells #[.int .i64 0, .int .i64 0, .slice none 0 0] 39 (0, 0)) (by (with_reducible repeat (first | refine z1f ?_ _ | refine z3f ?_ | refine z2f ?_ _)); exact BK156.out)) : gb157 ≠ gb156)); clear BK155; clear BK156; clear HB; have BK155 := n0_; have BK156 := n1_; have HB := n2_; have BK157 := n3_; have GW157 := n4_; have GE157 := n5_; have NB155_157 := n6_; have NB157_155 := n7_; have NB156_157 := n8_; have NB157_156 := n9_; clear n0_ n1_ n2_ n3_ n4_ n5_ n6_ n7_ n8_ n9_; clear hb hbox hg; have hnb6 := NB155_156.out; have hnc6 := NB156_155.out; have hnb7 := NB155_157.out; have hnc7 := NB157_155.out; have hcz8_0 : w5.cell? ⟨gb155, 0, none⟩ = some (.int .i64 a0_0) := (x3f BK155.out 0).trans rfl; have hcz8_1 : w5.cell? ⟨gb155, 1, none⟩ = some (.int .i64 a0_1) := (x3f BK155.out 1).trans rfl; have hcz8_2 : w5.cell? ⟨gb155, 2, none⟩ = some (.slice A0_2 l0_2.length c0_2) := (x3f BK155.out 2).trans rfl; have hfz8_0 := x2f BK155.out 0; have hfz8_1 := x2f BK155.out 1; have hfz8_2 := x2f BK155.out 2; have hnb9 := NB157_156.out; have hnc9 := NB156_157.out; have hcz10_0 : w5.cell? ⟨gb157, 0, none⟩ = some (.int .i64 0) := (x3f BK157.out 0).trans rfl; have hcz10_1 : w5.cell? ⟨gb157, 1, none⟩ = some (.int .i64 0) := (x3f BK157.out 1).trans rfl; have hcz10_2 : w5.cell? ⟨gb157, 2, none⟩ = some (.slice none 0 0) := (x3f BK157.out 2).trans rfl; have hfz10_0 := x2f BK157.out 0; have hfz10_1 := x2f BK157.out 1; have hfz10_2 := x2f BK157.out 2) | ((with_reducible refine gate_callee (f := 115) rfl ?_); refine goesL_ (some 12) rfl rfl Try.func115 (by kernel_rfl) rfl #[.slice A0_2 l0_2.length c0_2] rfl (by (try simp only [List.map_toArray, List.map_cons, List.map_nil]); first | done | rfl | (simp only [List.length_drop, List.length_take]; rfl)) ?_; (with_reducible refine (laws_toIntS.calls k _ _ l0_2 t158 _ ?side1 ?side2 A2.out).mono ?_); (case side1 => exact y9f HR0_2.out (by repeat (first | (with_reducible first | exact HB.out | apply z4f | apply z5f | apply z6f | refine z7f ?_ GE155.out | refine z7f ?_ GE156.out | refine z7f ?_ GE157.out) | exact HB.out))); (case side2 => exact HC0_2.out); rintro e w11 ⟨v159, rfl, ho0, hb⟩; refine ⟨_, rfl, ?_⟩; have n0_ := z0f (Kd.R_lower ho0 (y7f (by repeat (first | (with_reducible first | exact HB.out | apply z4f | apply z5f | apply z6f | refine z7f ?_ GE155.out | refine z7f ?_ GE156.out | refine z7f ?_ GE157.out) | exact HB.out)))); have n1_ := z0f (y5f (g := gb155) (o := .cells #[.int .i64 a0_0, .int .i64 a0_1, .slice A0_2 l0_2.length c0_2] 61 (0, 0)) (by (with_reducible repeat (first | refine z1f ?_ _ | refine z3f ?_ | refine z2f ?_ _)); refine x8f ?_ NB155_157.out _; (with_reducible repeat (first | refine z1f ?_ _ | refine z3f ?_ | refine z2f ?_ _)); refine x8f ?_ NB155_157.out _; (with_reducible repeat (first | refine z1f ?_ _ | refine z3f ?_ | refine z2f ?_ _)); exact BK155.out) hb); have n2_ := z0f (y5f (g := gb156) (o := .cells #[.int .i64 0, .int .i64 0, .slice none 0 0] 39 (0, 0)) (by (with_reducible repeat (first | refine z1f ?_ _ | refine z3f ?_ | refine z2f ?_ _)); refine x8f ?_ NB156_157.out _; (with_reducible repeat (first | refine z1f ?_ _ | refine z3f ?_ | refine z2f ?_ _)); refine x8f ?_ NB156_157.out _; (with_reducible repeat (first | refine z1f ?_ _ | refine z3f ?_ | refine z2f ?_ _)); exact BK156.out) hb); have n3_ := z0f (y5f (g := gb157) (o := .cells #[.int .i64 a0_0, .int .i64 a0_1, .slice none 0 0] 39 (0, 0)) (by (with_reducible repeat (first | refine z1f ?_ _ | refine z3f ?_ | refine z2f ?_ _)); refine blk_put (cs := #[.int .i64 a0_0, .int .i64 0, .slice none 0 0]) ?_ 1 _ rfl; (with_reducible repeat (first | refine z1f ?_ _ | refine z3f ?_ | refine z2f ?_ _)); refine blk_put (cs := #[.int .i64 0, .int .i64 0, .slice none 0 0]) ?_ 0 _ rfl; (with_reducible repeat (first | refine z1f ?_ _ | refine z3f ?_ | refine z2f ?_ _)); exact BK157.out) hb); have n4_ := z0f (y6f (by repeat (first | (with_reducible first | exact HB.out | apply z4f | apply z5f | apply z6f | refine z7f ?_ GE155.out | refine z7f ?_ GE156.out | refine z7f ?_ GE157.out) | exact HB.out)) hb); clear BK155; clear BK156; clear BK157; clear HB; have HO160 := n0_; have BK155 := n1_; have BK156 := n2_; have BK157 := n3_; have HB := n4_; clear n0_ n1_ n2_ n3_ n4_; (try clear hb); (try clear ho0); obtain ⟨Ao12, co12, eo12⟩ := Kd.R_slice HO160.out; subst eo12; have hcz13_0 : w11.cell? ⟨gb157, 0, none⟩ = some (.int .i64 a0_0) := (x3f BK157.out 0).trans rfl; have hcz13_1 : w11.cell? ⟨gb157, 1, none⟩ = some (.int .i64 a0_1) := (x3f BK157.out 1).trans rfl; have hcz13_2 : w11.cell? ⟨gb157, 2, none⟩ = some (.slice none 0 0) := (x3f BK157.out 2).trans rfl; have hfz13_0 := x2f BK157.out 0; have hfz13_1 := x2f BK157.out 1; have hfz13_2 := x2f BK157.out 2; have hcz14_0 : w11.cell? ⟨gb156, 0, none⟩ = some (.int .i64 0) := (x3f BK156.out 0).trans rfl; have hcz14_1 : w11.cell? ⟨gb156, 1, none⟩ = some (.int .i64 0) := (x3f BK156.out 1).trans rfl; have hcz14_2 : w11.cell? ⟨gb156, 2, none⟩ = some (.slice none 0 0) := (x3f BK156.out 2).trans rfl; have hfz14_0 := x2f BK156.out 0; have hfz14_1 := x2f BK156.out 1; have hfz14_2 := x2f BK156.out 2))
 refine bodyPost_ret (results_cell_row rfl _ _ gb156 39 #[.int .i64 a0_0, .int .i64 a0_1, .slice Ao12 t158.length co12] (0, 0) _ rfl (by (with_reducible repeat (first | refine z1f ?_ _ | refine z3f ?_ | refine z2f ?_ _)); refine blk_put (cs := #[.int .i64 a0_0, .int .i64 a0_1, .slice none 0 0]) ?_ 2 _ rfl; (with_reducible repeat (first | refine z1f ?_ _ | refine z3f ?_ | refine z2f ?_ _)); refine blk_put (cs := #[.int .i64 a0_0, .int .i64 0, .slice none 0 0]) ?_ 1 _ rfl; (with_reducible repeat (first | refine z1f ?_ _ | refine z3f ?_ | refine z2f ?_ _)); refine blk_put (cs := #[.int .i64 0, .int .i64 0, .slice none 0 0]) ?_ 0 _ rfl; (with_reducible repeat (first | refine z1f ?_ _ | refine z3f ?_ | refine z2f ?_ _)); refine x8f ?_ NB156_157.out _; (with_reducible repeat (first | refine z1f ?_ _ | refine z3f ?_ | refine z2f ?_ _)); exact BK156.out) Try.underlying39 rfl (by kernel_rfl)) rfl ?_
 exact ⟨_, by first | rfl | (simp [errW_none, errW_some] <;> rfl) | (simp [*, errW_none, errW_some] <;> rfl), by (with_reducible repeat (first | apply z8f | apply z9f | apply y1f)); exact x6f (x1f (p := ⟨gb156, 2, none⟩) (x1f (p := ⟨gb156, 1, none⟩) (x1f (p := ⟨gb156, 0, none⟩) (x1f (p := ⟨gb157, 2, none⟩) (x7f (x7f HO160.out BK157.out (by decide)) BK156.out (by decide)) (fun _ hk => hk.1.2) (.slice Ao12 t158.length co12)) (fun _ hk => hk.2) (.int .i64 a0_0)) (fun _ hk => hk.2) (.int .i64 a0_1)) (fun _ hk => hk.2) (.slice Ao12 t158.length co12)) (fun _ hk => trivial), by repeat (first | (with_reducible first | exact HB.out | apply z4f | apply z5f | apply z6f | refine z7f ?_ GE155.out | refine z7f ?_ GE156.out | refine z7f ?_ GE157.out) | exact HB.out)⟩

/-! ### laws_toPictureS: function 94 -/
def laws_toPictureS.l0 : Nat → List (S60) → List (S25) → Int → Option ((List (S25)))
 | 0, _, _, _ => none
 | k + 1, x0, x3, x4 => if x4 < (x0.length : Int) then (if 0 ≤ x4 then ((laws_toPicture.f k ((rd_T60 x0 x4).f0) ((rd_T60 x0 x4).f1) ((rd_T60 x0 x4).f2)).bind fun bt165 => (if x4 < (x3.length : Int) then (laws_toPictureS.l0 k x0 (x3.set (x4 : Int).toNat (⟨bt165.1, bt165.2.1, bt165.2.2⟩ : S25)) (wrap64 (x4 + 1))) else (none))) else (none)) else (some x3)
def laws_toPictureS.f (k : Nat) (l0 : List (S60)) : Option ((List (S25))) := if 0 ≤ (l0.length : Int) then (if ((l0.length : Int) : Int).toNat ≤ 7036874417766 then (laws_toPictureS.l0 k l0 (List.replicate ((l0.length : Int) : Int).toNat z25) 0) else (none)) else (none)
theorem laws_toPictureS.mono_l : ∀ k, (∀ y0 y1 y2, LeO (laws_toPictureS.l0 k y0 y1 y2) (laws_toPictureS.l0 (k + 1) y0 y1 y2))
 | 0 => fun _ _ _ r h => by simp [laws_toPictureS.l0] at h
 | k + 1 => by
  have ih0 := laws_toPictureS.mono_l k
  ·intro y0 y1 y2
   unfold laws_toPictureS.l0
   repeat' first
   | (with_reducible exact ih0 _ _ _)
   | (with_reducible exact laws_toPicture.mono _ _ _ _)
   | (with_reducible exact LeO.refl _)
   | (with_reducible exact LeO.none _)
   | (with_reducible refine LeO.ite ?_ ?_)
   | (with_reducible refine LeO.bind ?_ (fun _ => ?_))
   | exact ih0 _ _ _
   | exact laws_toPicture.mono _ _ _ _
   | exact LeO.none _
   | refine LeO.ite ?_ ?_
   | refine LeO.bind ?_ (fun _ => ?_)
theorem laws_toPictureS.mono : ∀ a0 k, LeO (laws_toPictureS.f k a0) (laws_toPictureS.f (k + 1) a0) := by
 intro a0 k
 have ih0 := laws_toPictureS.mono_l k
 unfold laws_toPictureS.f
 repeat' first
   | (with_reducible exact ih0 _ _ _)
   | (with_reducible exact laws_toPicture.mono _ _ _ _)
   | (with_reducible exact LeO.refl _)
   | (with_reducible exact LeO.none _)
   | (with_reducible refine LeO.ite ?_ ?_)
   | (with_reducible refine LeO.bind ?_ (fun _ => ?_))
   | exact ih0 _ _ _
   | exact laws_toPicture.mono _ _ _ _
   | exact LeO.none _
   | refine LeO.ite ?_ ?_
   | refine LeO.bind ?_ (fun _ => ?_)
set_option maxHeartbeats 8000000 in
set_option maxRecDepth 100000 in
theorem laws_toPictureS.calls (k : Nat) (A0 : Option Addr) (c0 : Nat) (l0 : List (S60)) (r : List (S25)) (w : World) (hr0 : Kd.C k60 w A0 l0.length l0) (hc0 : l0.length ≤ c0) (h : laws_toPictureS.f k l0 = some r) :
  Calls Try.prog 94 #[.slice A0 l0.length c0] w fun e w' => ∃ v0_ : Value, e = .returned (v0_) ∧ Kd.S k25 25 w' w.heap.size (fun _ => True) v0_ r ∧ Below w.heap.size w w' := by
 have hu60 := Try.underlying60
 have hu25 := Try.underlying25
 have HR0 := z0f hr0
 have HC0 := z0f hc0
 clear hr0 hc0
 have HB := z0f (Below.refl w.heap.size w)
 have H : (if 0 ≤ (l0.length : Int) then (if ((l0.length : Int) : Int).toNat ≤ 7036874417766 then (laws_toPictureS.l0 k l0 (List.replicate ((l0.length : Int) : Int).toNat z25) 0) else (none)) else (none)) = some r := h
 clear h
 by_cases c2 : 0 ≤ (l0.length : Int)
 ·rw [if_pos c2] at H
  have c2b0 := eq_true c2
  have c2b1 : decide (0 ≤ (l0.length : Int)) = true := decide_eq_true c2
  clear c2
  by_cases c3 : ((l0.length : Int) : Int).toNat ≤ 7036874417766
  ·rw [if_pos c3] at H
   have c3b0 := eq_true c3
   have c3b1 : decide (((l0.length : Int) : Int).toNat ≤ 7036874417766) = true := decide_eq_true c3
   clear c3
   obtain ⟨y161, hy161⟩ : ∃ y_ : List (S25), y_ = (List.replicate ((l0.length : Int) : Int).toNat z25) := ⟨_, rfl⟩
   replace H : (laws_toPictureS.l0 k l0 y161 0) = some r := by first | (rw [hy161]; with_reducible exact H) | (have H2_ := (Option.bind_some _ _).symm.trans H; rw [hy161]; with_reducible exact H2_) | (have H2_ := (Option.bind_some _ _).symm.trans H; with_reducible exact H2_) | with_reducible exact H | (rw [hy161]; exact H) | exact H
   have Ny161 := z0f hy161
   clear hy161
   have H' := z0f H
   clear H
   go_enter Try.func94, Try.ntmps94
   go_wp2_with (first | ((with_reducible refine gate_dst (N := 7) rfl ?_); refine Kd.S_make k25 _ 25 rfl (N := 7) rfl 49 _ _ rfl (l0.length : Int) rfl rfl Try.underlying49 (.agg #[(.int .i64 0), (.int .i64 0), (.slice none 0 0)]) 40 info25 rfl (by decide) (by omega) z25 (ok := fun _ => True) (okp := fun _ => True) (k25_mkM _ _ _ z25 (Kd.R_nil _ _ _ _ _)) (fun _ hk => hk) trivial (of_decide_eq_true (by first | (with_reducible assumption) | assumption)) (Nat.le_trans (Nat.mul_le_mul_right _ (of_decide_eq_true (by first | (with_reducible assumption) | assumption) : (l0.length : Int).toNat ≤ 7036874417766)) (by omega)) (Below.refl _ _) (Nat.le_refl _) ?_; intro v162 w4 ho5 hb hg_ hnew_; clear hg_ hnew_; (first | rw [← Ny161.out] at ho5 | (simp only [Int.reduceToNat] at ho5; rw [← Ny161.out] at ho5)); have n0_ := z0f (Kd.S_lower ho5 (y7f (by repeat (first | (with_reducible first | exact HB.out | apply z4f | apply z5f | apply z6f) | exact HB.out)))); have n1_ := z0f (y6f (by repeat (first | (with_reducible first | exact HB.out | apply z4f | apply z5f | apply z6f) | exact HB.out)) hb); clear HB; have HO163 := n0_; have HB := n1_; clear n0_ n1_; clear hb ho5))
   go_loopg [4] k (fun kq v4 w' => ∃ (x3_1 : List (S25)) (x4_1 : Int), v4 = .int .i64 x4_1 ∧ Aside0 (laws_toPictureS.l0 kq l0 x3_1 x4_1 = some r) ∧ Aside0 (kq ≤ k) ∧ Aside0 (Kd.S k25 25 w' w.heap.size (fun _ => True) v162 x3_1) ∧ Aside0 (Below w.heap.size w w'))
   case atStart => exact ⟨(y161), (0), (by first | rfl | (simp; done) | (simp [*]; done)), H', ⟨Nat.le_refl _⟩, ⟨by (with_reducible repeat (first | apply Kd.S_alloc | apply Kd.S_drewN | apply Kd.S_drew)); exact HO163.out⟩, ⟨by repeat (first | (with_reducible first | exact HB.out | apply z4f | apply z5f | apply z6f) | exact HB.out)⟩⟩
   case round =>
    clear H'
    try clear c2
    try clear c2b0
    try clear c2b1
    try clear p2
    try clear c3
    try clear c3b0
    try clear c3b1
    obtain ⟨x3_1, x4_1, rfl, HA, HK1, HO_3, HB⟩ := hrel
    cases gk with
    | zero => exact absurd HA.out (by simp [laws_toPictureS.l0])
    | succ k1 =>
     have H := HA.out
     clear HA
     simp only [laws_toPictureS.l0] at H
     by_cases c6 : x4_1 < (l0.length : Int)
     ·rw [if_pos c6] at H
      have c6b0 : decide (x4_1 < (l0.length : Int)) = true := decide_eq_true c6
      clear c6
      by_cases c7 : 0 ≤ x4_1
      ·rw [if_pos c7] at H
       have c7b0 : decide (0 ≤ x4_1) = true := decide_eq_true c7
       clear c7
       replace H := Option.bind_eq_some_iff.mp H
       obtain ⟨⟨t165, t166, t167⟩, A80, H⟩ := H
       replace H : (if x4_1 < (x3_1.length : Int) then (laws_toPictureS.l0 k1 l0 (x3_1.set (x4_1 : Int).toNat (⟨t165, t166, t167⟩ : S25)) (wrap64 (x4_1 + 1))) else (none)) = some r := H
       have A8 := z0f A80
       clear A80
       by_cases c9 : x4_1 < (x3_1.length : Int)
       ·rw [if_pos c9] at H
        have c9b0 : decide (x4_1 < (x3_1.length : Int)) = true := decide_eq_true c9
        clear c9
        obtain ⟨y170, hy170⟩ : ∃ y_ : List (S25), y_ = (x3_1.set (x4_1 : Int).toNat (⟨t165, t166, t167⟩ : S25)) := ⟨_, rfl⟩
        replace H : (laws_toPictureS.l0 k1 l0 y170 (wrap64 (x4_1 + 1))) = some r := by first | (rw [hy170]; with_reducible exact H) | (have H2_ := (Option.bind_some _ _).symm.trans H; rw [hy170]; with_reducible exact H2_) | (have H2_ := (Option.bind_some _ _).symm.trans H; with_reducible exact H2_) | with_reducible exact H | (rw [hy170]; exact H) | exact H
        have Ny170 := z0f hy170
        clear hy170
        have H' := z0f H
        clear H
        have p164 : 0 ≤ (x4_1 : Int) := of_decide_eq_true (by first | (with_reducible assumption) | assumption)
        have q164 : x4_1 < (l0.length : Int) := of_decide_eq_true (by first | (with_reducible assumption) | assumption)
        obtain ⟨ad164, A164_2, c164_2, e164, hx164_0, hx164_1, hx164_2, hl164_2, hi164_2⟩ := at_T60 HR0.out x4_1 p164 q164
        cases e164
        replace hx164_0 := (HB.out.cell (World.block_lt_of_cell? w _ hx164_0)).trans hx164_0
        replace hx164_1 := (HB.out.cell (World.block_lt_of_cell? w _ hx164_1)).trans hx164_1
        replace hx164_2 := (HB.out.cell (World.block_lt_of_cell? w _ hx164_2)).trans hx164_2
        have HR164_2 := z0f hi164_2
        have HC164_2 := z0f hl164_2
        clear hi164_2 hl164_2
        replace p164 := eq_true p164
        replace q164 := eq_true q164
        go_wp2_with (first | ((with_reducible refine gate_callee (f := 92) rfl ?_); refine goesL_ (some 20) rfl rfl Try.func92 (by kernel_rfl) rfl #[.agg #[.int .i64 ((rd_T60 l0 x4_1).f0), .int .i64 ((rd_T60 l0 x4_1).f1), .slice A164_2 ((rd_T60 l0 x4_1).f2).length c164_2]] rfl (by (try simp only [List.map_toArray, List.map_cons, List.map_nil]); first | done | rfl | (simp only [List.length_drop, List.length_take]; rfl)) ?_; (with_reducible refine (laws_toPicture.calls k1 ((rd_T60 l0 x4_1).f0) ((rd_T60 l0 x4_1).f1) _ _ ((rd_T60 l0 x4_1).f2) t165 t166 t167 _ ?side1 ?side2 A8.out).mono ?_); (case side1 => repeat (first | exact HR164_2.out | exact (y9f HR164_2.out HB.out) | (with_reducible refine y2f ?_ _) | (with_reducible refine y3f ?_ _) | (with_reducible refine y4f ?_))); (case side2 => exact HC164_2.out); rintro e w11 ⟨v168, rfl, ho0, hb⟩; refine ⟨_, rfl, ?_⟩; have n0_ := z0f (Kd.S_elder' (by (with_reducible repeat (first | apply Kd.S_alloc | apply Kd.S_drewN | apply Kd.S_drew)); exact HO_3.out) (Kd.R_base ho0) hb); have n1_ := z0f (Kd.R_lower ho0 (y7f (by repeat (first | (with_reducible first | exact HB.out | apply z4f | apply z5f | apply z6f) | exact HB.out)))); have n2_ := z0f (y6f (by repeat (first | (with_reducible first | exact HB.out | apply z4f | apply z5f | apply z6f) | exact HB.out)) hb); clear HO_3; clear HB; have HO_3 := n0_; have HO169 := n1_; have HB := n2_; clear n0_ n1_ n2_; (try clear hb); (try clear ho0); have p10 : 0 ≤ (x4_1 : Int) := of_decide_eq_true (by first | (with_reducible assumption) | assumption); have q10 : (x4_1 : Int) < ((x3_1.length : Int) : Int) := of_decide_eq_true (by first | (with_reducible assumption) | assumption); obtain ⟨go10, co10, eo10, gb10, gl10, cl10, HG10⟩ := Kd.S_form HO_3.out (by omega); (first | cases eo10 | (injection eo10 with ea_ en_ ec_; (first | subst ea_ | (injection ea_ with ea_; subst ea_)); subst ec_; clear en_)); have GB10 := z0f gb10; have GG10 := z0f HG10; clear gb10 gl10 HG10; obtain ⟨_, ce10, hcl10, hM10, hcc10, hfr10, _, _⟩ := Kd.S_elem HO_3.out z25 (x4_1 : Int) p10 q10; obtain ⟨ve10_2, rfl, ge10_2⟩ := k25_openM hM10; have hx10_0 : w11.cell? ⟨go10, (x4_1 : Int).toNat * 3, none⟩ = some (.int .i64 ((rd_T25 x3_1 x4_1).f0)) := hcc10 0 _ rfl; have hx10_1 : w11.cell? ⟨go10, (x4_1 : Int).toNat * 3 + 1, none⟩ = some (.int .i64 ((rd_T25 x3_1 x4_1).f1)) := hcc10 1 _ rfl; have hx10_2 : w11.cell? ⟨go10, (x4_1 : Int).toNat * 3 + 2, none⟩ = some (ve10_2) := hcc10 2 _ rfl; have hf10_0 : w11.frozen? ⟨go10, (x4_1 : Int).toNat * 3, none⟩ = false := hfr10 0; have hf10_1 : w11.frozen? ⟨go10, (x4_1 : Int).toNat * 3 + 1, none⟩ = false := hfr10 1; have hf10_2 : w11.frozen? ⟨go10, (x4_1 : Int).toNat * 3 + 2, none⟩ = false := hfr10 2; clear hcl10 hcc10 hfr10 hM10; replace p10 := eq_true p10; replace q10 := eq_true q10; have n_ := z0f (Kd.S_mono (ok' := (fun k_ => some k_ ≠ (v168 : Value).ownBlock)) HO_3.out (fun k_ hk => hk.2)); clear HO_3; have HO_3 := n_; clear n_; have HX12 := z0f (show Kd.S k25 25 w11 w.heap.size (fun k_ => ((fun _ => True)) k_ ∧ ¬ ((fun k_ => some k_ = (v168 : Value).ownBlock)) k_) (.slice (some ⟨go10, 0, none⟩) x3_1.length co10) x3_1 from (by (with_reducible repeat (first | apply Kd.S_alloc | apply Kd.S_drewN | apply Kd.S_drew)); exact Kd.S_mono HO_3.out (fun k_ hk => ⟨trivial, fun e_ => hk e_⟩))); obtain ⟨oki12, ce12, hcl12, hM12, hcc12, hfr12, hoki12, hH12⟩ := Kd.S_elem HX12.out z25 (x4_1 : Int) (of_decide_eq_true (by first | (with_reducible assumption) | assumption)) (by have h_ : (x4_1 : Int) < ((x3_1.length : Int) : Int) := of_decide_eq_true (by first | (with_reducible assumption) | assumption); first | exact h_ | (have e_ := (Kd.S_reads' HO_3.out).1; omega) | simpa using h_); obtain ⟨ve12_2, rfl, ge12_2⟩ := k25_openM hM12; have HP12 := Kd.S_seg hH12 (of_decide_eq_true (by first | (with_reducible assumption) | assumption)) (by have h_ : (x4_1 : Int) < ((x3_1.length : Int) : Int) := of_decide_eq_true (by first | (with_reducible assumption) | assumption); first | exact h_ | (have e_ := (Kd.S_reads' HO_3.out).1; omega) | simpa using h_) (seg := [.int .i64 t165, .int .i64 t166, v168]) (j := 0) (show 3 ≤ 3 from by decide) (x' := (⟨t165, t166, t167⟩ : S25)) (k25_mkM _ _ _ (⟨t165, t166, t167⟩ : S25) (x6f (Kd.R_tight rfl (x6f (ok' := fun k_ => ((fun _ => True)) k_ ∧ k_ ≠ go10) (Kd.R_apart' (HO169.out) (Kd.S_typed HO_3.out) (by decide)) (fun k_ hk => ⟨trivial, fun e_ => (hk.2) (by rw [e_]; rfl)⟩))) (fun _ h_ => Or.inr (h_)))) (fun _ hk => hk) (fun k_ hk_ => ((x6f (ok' := fun k_ => ((fun _ => True)) k_ ∧ k_ ≠ go10) (Kd.R_apart' (HO169.out) (Kd.S_typed HO_3.out) (by decide)) (fun k_ hk => ⟨trivial, fun e_ => (hk.2) (by rw [e_]; rfl)⟩))).1 k_ hk_.symm); have hx12_0 := hcc12 0 _ rfl; (try simp only [show (k25).sz = 3 from rfl, Nat.mul_one, Nat.add_zero] at hx12_0); have hf12_0 := hfr12 0; (try simp only [show (k25).sz = 3 from rfl, Nat.mul_one, Nat.add_zero] at hf12_0); have hx12_1 := hcc12 1 _ rfl; (try simp only [show (k25).sz = 3 from rfl, Nat.mul_one, Nat.add_zero] at hx12_1); have hf12_1 := hfr12 1; (try simp only [show (k25).sz = 3 from rfl, Nat.mul_one, Nat.add_zero] at hf12_1); have hx12_2 := hcc12 2 _ rfl; (try simp only [show (k25).sz = 3 from rfl, Nat.mul_one, Nat.add_zero] at hx12_2); have hf12_2 := hfr12 2; (try simp only [show (k25).sz = 3 from rfl, Nat.mul_one, Nat.add_zero] at hf12_2); clear hcl12 hcc12 hfr12 hM12 hoki12 hH12) | ((with_reducible refine gate_store (t := 25) (p := 21) rfl ?_); refine store_event (t := 25) (p := 21) (v := ?vo_w13) (w1 := (((w11.setCell ⟨go10, (x4_1 : Int).toNat * 3, none⟩ (.int .i64 t165)).setCell ⟨go10, (x4_1 : Int).toNat * 3 + 1, none⟩ (.int .i64 t166)).setCell ⟨go10, (x4_1 : Int).toNat * 3 + 2, none⟩ (v168))) ?hg ?ho ?hn ?hr ?_; (case ho => rfl); (case hg => rfl); (case hn => rfl); (case hr => first | (go_simp; done) | (go_simp; rfl) | (obtain ⟨_, _, eo_⟩ := Kd.R_slice HO169.out; subst eo_; first | (go_simp; done) | (go_simp; rfl))); intro w13 hw; have hg : w11.grownBy w13 (some go10) := (by rw [hw]; exact HP12.2); have hp_ : Kd.S k25 25 w13 w.heap.size (fun _ => True) (.slice (some ⟨go10, 0, none⟩) x3_1.length co10) y170 := (by rw [hw, Ny170.out]; exact HP12.1); clear HP12; have n0_ := z0f (hp_); have n1_ := z0f ((by rw [hw]; exact z7f (z7f (z7f (HB.out) GB10.out) GB10.out) GB10.out : Below w.heap.size w w13)); clear HO_3; clear HB; clear HO169; have HO_3 := n0_; have HB := n1_; clear n0_ n1_; clear hg hw hp_))
        go_roundg k1
        case measure => have := HK1.out; omega
        case rel => exact ⟨(y170), (wrap64 (x4_1 + 1)), (by first | rfl | (simp; done) | (simp [*]; done)), H', ⟨by have := HK1.out; omega⟩, ⟨by (with_reducible repeat (first | apply Kd.S_alloc | apply Kd.S_drewN | apply Kd.S_drew)); exact HO_3.out⟩, ⟨by repeat (first | (with_reducible first | exact HB.out | apply z4f | apply z5f | apply z6f) | exact HB.out)⟩⟩
       ·rw [if_neg c9] at H
        exact absurd H (by simp)
      ·rw [if_neg c7] at H
       exact absurd H (by simp)
     ·rw [if_neg c6] at H
      have c6b0 : decide (x4_1 < (l0.length : Int)) = false := decide_eq_false c6
      clear c6
      obtain rfl := Option.some.inj H
      go_wp2
      go_ret
      exact ⟨_, by first | rfl | (simp [errW_none, errW_some] <;> rfl) | (simp [*, errW_none, errW_some] <;> rfl), by (with_reducible repeat (first | apply Kd.S_alloc | apply Kd.S_drewN | apply Kd.S_drew)); exact HO_3.out, by repeat (first | (with_reducible first | exact HB.out | apply z4f | apply z5f | apply z6f) | exact HB.out)⟩
  ·rw [if_neg c3] at H
   exact absurd H (by simp)
 ·rw [if_neg c2] at H
  exact absurd H (by simp)

/-! ### laws_toDesk: function 52 -/
def laws_toDesk.f (k : Nat) (a0_0 : Int) (a0_1 : Int) (l0_2 : List Int) (a0_3 : Int) (a0_4 : Int) (l0_5 : List Int) (l0_6 : List (S60)) : Option (Int × Int × List Int × Int × Int × List Int × (List (S25))) := (laws_toPicture.f k a0_0 a0_1 l0_2).bind fun bt174 => ((laws_toMatrix.f k a0_3 a0_4 l0_5).bind fun bt179 => ((laws_toPictureS.f k l0_6).bind fun t184 => (some (bt174.1, bt174.2.1, bt174.2.2, bt179.1, bt179.2.1, bt179.2.2, t184))))
theorem laws_toDesk.mono : ∀ a0 a1 a2 a3 a4 a5 a6 k, LeO (laws_toDesk.f k a0 a1 a2 a3 a4 a5 a6) (laws_toDesk.f (k + 1) a0 a1 a2 a3 a4 a5 a6) := by
 intro a0 a1 a2 a3 a4 a5 a6 k
 unfold laws_toDesk.f
 repeat' first
   | (with_reducible exact laws_toMatrix.mono _ _ _ _)
   | (with_reducible exact laws_toPicture.mono _ _ _ _)
   | (with_reducible exact laws_toPictureS.mono _ _)
   | (with_reducible exact LeO.refl _)
   | (with_reducible exact LeO.none _)
   | (with_reducible refine LeO.ite ?_ ?_)
   | (with_reducible refine LeO.bind ?_ (fun _ => ?_))
   | exact laws_toMatrix.mono _ _ _ _
   | exact laws_toPicture.mono _ _ _ _
   | exact laws_toPictureS.mono _ _
   | exact LeO.none _
   | refine LeO.ite ?_ ?_
   | refine LeO.bind ?_ (fun _ => ?_)
set_option maxHeartbeats 8000000 in
set_option maxRecDepth 100000 in
theorem laws_toDesk.calls (k : Nat) (a0_0 : Int) (a0_1 : Int) (A0_2 : Option Addr) (c0_2 : Nat) (l0_2 : List Int) (a0_3 : Int) (a0_4 : Int) (A0_5 : Option Addr) (c0_5 : Nat) (l0_5 : List Int) (A0_6 : Option Addr) (c0_6 : Nat) (l0_6 : List (S60)) (r1 : Int) (r2 : Int) (r3 : List Int) (r4 : Int) (r5 : Int) (r6 : List Int) (r7 : List (S25)) (w : World) (hr0_2 : Kd.C (Kd.int .i64) w A0_2 l0_2.length l0_2) (hc0_2 : l0_2.length ≤ c0_2) (hr0_5 : Kd.C (Kd.int .i64) w A0_5 l0_5.length l0_5) (hc0_5 : l0_5.length ≤ c0_5) (hr0_6 : Kd.C k60 w A0_6 l0_6.length l0_6) (hc0_6 : l0_6.length ≤ c0_6) (h : laws_toDesk.f k a0_0 a0_1 l0_2 a0_3 a0_4 l0_5 l0_6 = some (r1, r2, r3, r4, r5, r6, r7)) :
  Calls Try.prog 52 #[.agg #[.int .i64 a0_0, .int .i64 a0_1, .slice A0_2 l0_2.length c0_2, .int .i64 a0_3, .int .i64 a0_4, .slice A0_5 l0_5.length c0_5, .slice A0_6 l0_6.length c0_6]] w fun e w' => ∃ v2_ v5_ v6_ : Value, e = .returned (.agg #[.int .i64 r1, .int .i64 r2, v2_, .int .i64 r4, .int .i64 r5, v5_, v6_]) ∧ Kd.R (Kd.int .i64) 3 w' w.heap.size (fun k_ => some k_ ≠ (v5_ : Value).ownBlock) v2_ r3 ∧ Kd.R (Kd.int .i64) 3 w' w.heap.size (fun k_ => some k_ ≠ (v2_ : Value).ownBlock) v5_ r6 ∧ Kd.S k25 25 w' w.heap.size (fun k_ => some k_ ≠ (v2_ : Value).ownBlock ∧ some k_ ≠ (v5_ : Value).ownBlock) v6_ r7 ∧ Below w.heap.size w w' := by
 have hu64 := Try.underlying64
 have hu68 := Try.underlying68
 have hu60 := Try.underlying60
 have hu25 := Try.underlying25
 have hu61 := Try.underlying61
 have hu39 := Try.underlying39
 have HR0_2 := z0f hr0_2
 have HC0_2 := z0f hc0_2
 clear hr0_2 hc0_2
 have HR0_5 := z0f hr0_5
 have HC0_5 := z0f hc0_5
 clear hr0_5 hc0_5
 have HR0_6 := z0f hr0_6
 have HC0_6 := z0f hc0_6
 clear hr0_6 hc0_6
 have HB := z0f (Below.refl w.heap.size w)
 have H : ((laws_toPicture.f k a0_0 a0_1 l0_2).bind fun bt174 => ((laws_toMatrix.f k a0_3 a0_4 l0_5).bind fun bt179 => ((laws_toPictureS.f k l0_6).bind fun t184 => (some (bt174.1, bt174.2.1, bt174.2.2, bt179.1, bt179.2.1, bt179.2.2, t184))))) = some (r1, r2, r3, r4, r5, r6, r7) := h
 clear h
 replace H := Option.bind_eq_some_iff.mp H
 obtain ⟨⟨t174, t175, t176⟩, A20, H⟩ := H
 replace H : ((laws_toMatrix.f k a0_3 a0_4 l0_5).bind fun bt179 => ((laws_toPictureS.f k l0_6).bind fun t184 => (some (t174, t175, t176, bt179.1, bt179.2.1, bt179.2.2, t184)))) = some (r1, r2, r3, r4, r5, r6, r7) := H
 have A2 := z0f A20
 clear A20
 replace H := Option.bind_eq_some_iff.mp H
 obtain ⟨⟨t179, t180, t181⟩, A30, H⟩ := H
 replace H : ((laws_toPictureS.f k l0_6).bind fun t184 => (some (t174, t175, t176, t179, t180, t181, t184))) = some (r1, r2, r3, r4, r5, r6, r7) := H
 have A3 := z0f A30
 clear A30
 replace H := Option.bind_eq_some_iff.mp H
 obtain ⟨t184, A40, H⟩ := H
 replace H : (some (t174, t175, t176, t179, t180, t181, t184)) = some (r1, r2, r3, r4, r5, r6, r7) := H
 have A4 := z0f A40
 clear A40
 simp only [Option.some.injEq, Prod.mk.injEq] at H
 obtain ⟨rfl, rfl, rfl, rfl, rfl, rfl, rfl⟩ := H
 go_enter Try.func52, Try.ntmps52
 go_wp2_with (first | ((with_reducible refine gate_dst (N := 1) rfl ?_); refine box_event ?hg (N := 1) ?hd (cs := #[.int .i64 a0_0, .int .i64 a0_1, .slice A0_2 l0_2.length c0_2, .int .i64 a0_3, .int .i64 a0_4, .slice A0_5 l0_5.length c0_5, .slice A0_6 l0_6.length c0_6]) (t := 64) ?hr ?_; (case hd => rfl); (case hg => rfl); (case hr => first | (go_simp; done) | (go_simp; rfl)); intro gb171 hg w5 hbox hb; have n0_ := z0f (y6f (by repeat (first | (with_reducible first | exact HB.out | apply z4f | apply z5f | apply z6f) | exact HB.out)) hb); have n1_ := z0f (hbox); have n2_ := z0f ((by rw [hg]; exact (y7f (by repeat (first | (with_reducible first | exact HB.out | apply z4f | apply z5f | apply z6f) | exact HB.out))) : w.heap.size ≤ gb171)); have n3_ := z0f ((by rw [hg]; exact (y7f (by repeat (first | (with_reducible first | exact HB.out | apply z4f | apply z5f | apply z6f) | exact HB.out))) : w.heap.size ≤ gb171)); clear HB; have HB := n0_; have BK171 := n1_; have GW171 := n2_; have GE171 := n3_; clear n0_ n1_ n2_ n3_; clear hb hbox hg) | ((with_reducible refine gate_dst (N := 2) rfl ?_); refine box_event ?hg (N := 2) ?hd (cs := #[.int .i64 0, .int .i64 0, .slice none 0 0, .int .i64 0, .int .i64 0, .slice none 0 0, .slice none 0 0]) (t := 68) ?hr ?_; (case hd => rfl); (case hg => rfl); (case hr => first | (go_simp; done) | (go_simp; rfl)); intro gb172 hg w6 hbox hb; have n0_ := z0f (y5f (g := gb171) (o := .cells #[.int .i64 a0_0, .int .i64 a0_1, .slice A0_2 l0_2.length c0_2, .int .i64 a0_3, .int .i64 a0_4, .slice A0_5 l0_5.length c0_5, .slice A0_6 l0_6.length c0_6] 64 (0, 0)) (by (with_reducible repeat (first | refine z1f ?_ _ | refine z3f ?_ | refine z2f ?_ _)); exact BK171.out) hb); have n1_ := z0f (y6f (by repeat (first | (with_reducible first | exact HB.out | apply z4f | apply z5f | apply z6f | refine z7f ?_ GE171.out) | exact HB.out)) hb); have n2_ := z0f (hbox); have n3_ := z0f ((by rw [hg]; exact (y7f (by repeat (first | (with_reducible first | exact HB.out | apply z4f | apply z5f | apply z6f | refine z7f ?_ GE171.out) | exact HB.out))) : w.heap.size ≤ gb172)); have n4_ := z0f ((by rw [hg]; exact (y7f (by repeat (first | (with_reducible first | exact HB.out | apply z4f | apply z5f | apply z6f | refine z7f ?_ GE171.out) | exact HB.out))) : w.heap.size ≤ gb172)); have n5_ := z0f ((by rw [hg]; exact Nat.ne_of_lt (blk_lt (g := gb171) (o := .cells #[.int .i64 a0_0, .int .i64 a0_1, .slice A0_2 l0_2.length c0_2, .int .i64 a0_3, .int .i64 a0_4, .slice A0_5 l0_5.length c0_5, .slice A0_6 l0_6.length c0_6] 64 (0, 0)) (by (with_reducible repeat (first | refine z1f ?_ _ | refine z3f ?_ | refine z2f ?_ _)); exact BK171.out)) : gb171 ≠ gb172)); have n6_ := z0f ((by rw [hg]; exact Nat.ne_of_gt (blk_lt (g := gb171) (o := .cells #[.int .i64 a0_0, .int .i64 a0_1, .slice A0_2 l0_2.length c0_2, .int .i64 a0_3, .int .i64 a0_4, .slice A0_5 l0_5.length c0_5, .slice A0_6 l0_6.length c0_6] 64 (0, 0)) (by (with_reducible repeat (first | refine z1f ?_ _ | refine z3f ?_ | refine z2f ?_ _)); exact BK171.out)) : gb172 ≠ gb171)); clear BK171; clear HB; have BK171 := n0_; have HB := n1_; have BK172 := n2_; have GW172 := n3_; have GE172 := n4_; have NB171_172 := n5_; have NB172_171 := n6_; clear n0_ n1_ n2_ n3_ n4_ n5_ n6_; clear hb hbox hg) | ((with_reducible refine gate_dst (N := 3) rfl ?_); refine box_event ?hg (N := 3) ?hd (cs := #[.int .i64 0, .int .i64 0, .slice none 0 0, .int .i64 0, .int .i64 0, .slice none 0 0, .slice none 0 0]) (t := 68) ?hr ?_; (case hd => rfl); (case hg => rfl); (case hr => first | (go_simp; done) | (go_simp; rfl)); intro gb173 hg w7 hbox hb; have n0_ := z0f (y5f (g := gb171) (o := .cells #[.int .i64 a0_0, .int .i64 a0_1, .slice A0_2 l0_2.length c0_2, .int .i64 a0_3, .int .i64 a0_4, .slice A0_5 l0_5.length c0_5, .slice A0_6 l0_6.length c0_6] 64 (0, 0)) (by (with_reducible repeat (first | refine z1f ?_ _ | refine z3f ?_ | refine z2f ?_ _)); exact BK171.out) hb); have n1_ := z0f (y5f (g := gb172) (o := .cells #[.int .i64 0, .int .i64 0, .slice none 0 0, .int .i64 0, .int .i64 0, .slice none 0 0, .slice none 0 0] 68 (0, 0)) (by (with_reducible repeat (first | refine z1f ?_ _ | refine z3f ?_ | refine z2f ?_ _)); exact BK172.out) hb); have n2_ := z0f (y6f (by repeat (first | (with_reducible first | exact HB.out | apply z4f | apply z5f | apply z6f | refine z7f ?_ GE171.out | refine z7f ?_ GE172.out) | exact HB.out)) hb); have n3_ := z0f (hbox); have n4_ := z0f ((by rw [hg]; exact (y7f (by repeat (first | (with_reducible first | exact HB.out | apply z4f | apply z5f | apply z6f | refine z7f ?_ GE171.out | refine z7f ?_ GE172.out) | exact HB.out))) : w.heap.size ≤ gb173)); have n5_ := z0f ((by rw [hg]; exact (y7f (by repeat (first | (with_reducible first | exact HB.out | apply z4f | apply z5f | apply z6f | refine z7f ?_ GE171.out | refine z7f ?_ GE172.out) | exact HB.out))) : w.heap.size ≤ gb173)); have n6_ := z0f ((by rw [hg]; exact Nat.ne_of_lt (blk_lt (g := gb171) (o := .cells #[.int .i64 a0_0, .int .i64 a0_1, .slice A0_2 l0_2.length c0_2, .int .i64 a0_3, .int .i64 a0_4, .slice A0_5 l0_5.length c0_5, .slice A0_6 l0_6.length c0_6] 64 (0, 0)) (by (with_reducible repeat (first | refine z1f ?_ _ | refine z3f ?_ | refine z2f ?_ _)); exact BK171.out)) : gb171 ≠ gb173)); have n7_ := z0f ((by rw [hg]; exact Nat.ne_of_gt (blk_lt (g := gb171) (o := .cells #[.int .i64 a0_0, .int .i64 a0_1, .slice A0_2 l0_2.length c0_2, .int .i64 a0_3, .int .i64 a0_4, .slice A0_5 l0_5.length c0_5, .slice A0_6 l0_6.length c0_6] 64 (0, 0)) (by (with_reducible repeat (first | refine z1f ?_ _ | refine z3f ?_ | refine z2f ?_ _)); exact BK171.out)) : gb173 ≠ gb171)); have n8_ := z0f ((by rw [hg]; exact Nat.ne_of_lt (blk_lt (g := gb172) (o := .cells #[.int .i64 0, .int .i64 0, .slice none 0 0, .int .i64 0, .int .i64 0, .slice none 0 0, .slice none 0 0] 68 (0, 0)) (by (with_reducible repeat (first | refine z1f ?_ _ | refine z3f ?_ | refine z2f ?_ _)); exact BK172.out)) : gb172 ≠ gb173)); have n9_ := z0f ((by rw [hg]; exact Nat.ne_of_gt (blk_lt (g := gb172) (o := .cells #[.int .i64 0, .int .i64 0, .slice none 0 0, .int .i64 0, .int .i64 0, .slice none 0 0, .slice none 0 0] 68 (0, 0)) (by (with_reducible repeat (first | refine z1f ?_ _ | refine z3f ?_ | refine z2f ?_ _)); exact BK172.out)) : gb173 ≠ gb172)); clear BK171; clear BK172; clear HB; have BK171 := n0_; have BK172 := n1_; have HB := n2_; have BK173 := n3_; have GW173 := n4_; have GE173 := n5_; have NB171_173 := n6_; have NB173_171 := n7_; have NB172_173 := n8_; have NB173_172 := n9_; clear n0_ n1_ n2_ n3_ n4_ n5_ n6_ n7_ n8_ n9_; clear hb hbox hg; have hnb8 := NB171_172.out; have hnc8 := NB172_171.out; have hnb9 := NB171_173.out; have hnc9 := NB173_171.out; have hcz10_0 : w7.cell? ⟨gb171, 0, none⟩ = some (.int .i64 a0_0) := (x3f BK171.out 0).trans rfl; have hcz10_1 : w7.cell? ⟨gb171, 1, none⟩ = some (.int .i64 a0_1) := (x3f BK171.out 1).trans rfl; have hcz10_2 : w7.cell? ⟨gb171, 2, none⟩ = some (.slice A0_2 l0_2.length c0_2) := (x3f BK171.out 2).trans rfl; have hcz10_3 : w7.cell? ⟨gb171, 3, none⟩ = some (.int .i64 a0_3) := (x3f BK171.out 3).trans rfl; have hcz10_4 : w7.cell? ⟨gb171, 4, none⟩ = some (.int .i64 a0_4) := (x3f BK171.out 4).trans rfl; have hcz10_5 : w7.cell? ⟨gb171, 5, none⟩ = some (.slice A0_5 l0_5.length c0_5) := (x3f BK171.out 5).trans rfl; have hcz10_6 : w7.cell? ⟨gb171, 6, none⟩ = some (.slice A0_6 l0_6.length c0_6) := (x3f BK171.out 6).trans rfl; have hfz10_0 := x2f BK171.out 0; have hfz10_1 := x2f BK171.out 1; have hfz10_2 := x2f BK171.out 2; have hfz10_3 := x2f BK171.out 3; have hfz10_4 := x2f BK171.out 4; have hfz10_5 := x2f BK171.out 5; have hfz10_6 := x2f BK171.out 6) | ((with_reducible refine gate_callee (f := 92) rfl ?_); refine goesL_ (some 6) rfl rfl Try.func92 (by kernel_rfl) rfl #[.agg #[.int .i64 a0_0, .int .i64 a0_1, .slice A0_2 l0_2.length c0_2]] rfl (by (try simp only [List.map_toArray, List.map_cons, List.map_nil]); first | done | rfl | (simp only [List.length_drop, List.length_take]; rfl)) ?_; (with_reducible refine (laws_toPicture.calls k a0_0 a0_1 _ _ l0_2 t174 t175 t176 _ ?side1 ?side2 A2.out).mono ?_); (case side1 => repeat (first | exact HR0_2.out | exact (y9f HR0_2.out HB.out) | (with_reducible refine y2f ?_ _) | (with_reducible refine y3f ?_ _) | (with_reducible refine y4f ?_))); (case side2 => exact HC0_2.out); rintro e w11 ⟨v177, rfl, ho0, hb⟩; refine ⟨_, rfl, ?_⟩; have n0_ := z0f (Kd.R_lower ho0 (y7f (by repeat (first | (with_reducible first | exact HB.out | apply z4f | apply z5f | apply z6f | refine z7f ?_ GE171.out | refine z7f ?_ GE172.out | refine z7f ?_ GE173.out) | exact HB.out)))); have n1_ := z0f (y5f (g := gb171) (o := .cells #[.int .i64 a0_0, .int .i64 a0_1, .slice A0_2 l0_2.length c0_2, .int .i64 a0_3, .int .i64 a0_4, .slice A0_5 l0_5.length c0_5, .slice A0_6 l0_6.length c0_6] 64 (0, 0)) (by (with_reducible repeat (first | refine z1f ?_ _ | refine z3f ?_ | refine z2f ?_ _)); exact BK171.out) hb); have n2_ := z0f (y5f (g := gb172) (o := .cells #[.int .i64 0, .int .i64 0, .slice none 0 0, .int .i64 0, .int .i64 0, .slice none 0 0, .slice none 0 0] 68 (0, 0)) (by (with_reducible repeat (first | refine z1f ?_ _ | refine z3f ?_ | refine z2f ?_ _)); exact BK172.out) hb); have n3_ := z0f (y5f (g := gb173) (o := .cells #[.int .i64 0, .int .i64 0, .slice none 0 0, .int .i64 0, .int .i64 0, .slice none 0 0, .slice none 0 0] 68 (0, 0)) (by (with_reducible repeat (first | refine z1f ?_ _ | refine z3f ?_ | refine z2f ?_ _)); exact BK173.out) hb); have n4_ := z0f (y6f (by repeat (first | (with_reducible first | exact HB.out | apply z4f | apply z5f | apply z6f | refine z7f ?_ GE171.out | refine z7f ?_ GE172.out | refine z7f ?_ GE173.out) | exact HB.out)) hb); clear BK171; clear BK172; clear BK173; clear HB; have HO178 := n0_; have BK171 := n1_; have BK172 := n2_; have BK173 := n3_; have HB := n4_; clear n0_ n1_ n2_ n3_ n4_; (try clear hb); (try clear ho0); have hnb12 := NB173_172.out; have hnc12 := NB172_173.out; have hcz13_0 : w11.cell? ⟨gb173, 0, none⟩ = some (.int .i64 0) := (x3f BK173.out 0).trans rfl; have hcz13_1 : w11.cell? ⟨gb173, 1, none⟩ = some (.int .i64 0) := (x3f BK173.out 1).trans rfl; have hcz13_2 : w11.cell? ⟨gb173, 2, none⟩ = some (.slice none 0 0) := (x3f BK173.out 2).trans rfl; have hcz13_3 : w11.cell? ⟨gb173, 3, none⟩ = some (.int .i64 0) := (x3f BK173.out 3).trans rfl; have hcz13_4 : w11.cell? ⟨gb173, 4, none⟩ = some (.int .i64 0) := (x3f BK173.out 4).trans rfl; have hcz13_5 : w11.cell? ⟨gb173, 5, none⟩ = some (.slice none 0 0) := (x3f BK173.out 5).trans rfl; have hcz13_6 : w11.cell? ⟨gb173, 6, none⟩ = some (.slice none 0 0) := (x3f BK173.out 6).trans rfl; have hfz13_0 := x2f BK173.out 0; have hfz13_1 := x2f BK173.out 1; have hfz13_2 := x2f BK173.out 2; have hfz13_3 := x2f BK173.out 3; have hfz13_4 := x2f BK173.out 4; have hfz13_5 := x2f BK173.out 5; have hfz13_6 := x2f BK173.out 6; obtain ⟨Ao14, co14, eo14⟩ := Kd.R_slice HO178.out; subst eo14; have hcz15_0 : w11.cell? ⟨gb171, 0, none⟩ = some (.int .i64 a0_0) := (x3f BK171.out 0).trans rfl; have hcz15_1 : w11.cell? ⟨gb171, 1, none⟩ = some (.int .i64 a0_1) := (x3f BK171.out 1).trans rfl; have hcz15_2 : w11.cell? ⟨gb171, 2, none⟩ = some (.slice A0_2 l0_2.length c0_2) := (x3f BK171.out 2).trans rfl; have hcz15_3 : w11.cell? ⟨gb171, 3, none⟩ = some (.int .i64 a0_3) := (x3f BK171.out 3).trans rfl; have hcz15_4 : w11.cell? ⟨gb171, 4, none⟩ = some (.int .i64 a0_4) := (x3f BK171.out 4).trans rfl; have hcz15_5 : w11.cell? ⟨gb171, 5, none⟩ = some (.slice A0_5 l0_5.length c0_5) := (x3f BK171.out 5).trans rfl; have hcz15_6 : w11.cell? ⟨gb171, 6, none⟩ = some (.slice A0_6 l0_6.length c0_6) := (x3f BK171.out 6).trans rfl; have hfz15_0 := x2f BK171.out 0; have hfz15_1 := x2f BK171.out 1; have hfz15_2 := x2f BK171.out 2; have hfz15_3 := x2f BK171.out 3; have hfz15_4 := x2f BK171.out 4; have hfz15_5 := x2f BK171.out 5; have hfz15_6 := x2f BK171.out 6) | ((with_reducible refine gate_callee (f := 93) rfl ?_); refine goesL_ (some 10) rfl rfl Try.func93 (by kernel_rfl) rfl #[.agg #[.int .i64 a0_3, .int .i64 a0_4, .slice A0_5 l0_5.length c0_5]] rfl (by (try simp only [List.map_toArray, List.map_cons, List.map_nil]); first | done | rfl | (simp only [List.length_drop, List.length_take]; rfl)) ?_; (with_reducible refine (laws_toMatrix.calls k a0_3 a0_4 _ _ l0_5 t179 t180 t181 _ ?side1 ?side2 A3.out).mono ?_); (case side1 => exact y9f HR0_5.out (by repeat (first | (with_reducible first | exact HB.out | apply z4f | apply z5f | apply z6f | refine z7f ?_ GE171.out | refine z7f ?_ GE172.out | refine z7f ?_ GE173.out) | exact HB.out))); (case side2 => exact HC0_5.out); rintro e w16 ⟨v182, rfl, ho0, hb⟩; refine ⟨_, rfl, ?_⟩; have n0_ := z0f (Kd.R_elder' (by (with_reducible repeat (first | apply z8f | apply z9f | apply y1f)); exact (x6f (x1f (p := ⟨gb173, 2, none⟩) (x1f (p := ⟨gb173, 1, none⟩) (x1f (p := ⟨gb173, 0, none⟩) (x7f HO178.out BK173.out (by decide)) (fun _ hk => hk.2) (.int .i64 t174)) (fun _ hk => hk.2) (.int .i64 t175)) (fun _ hk => hk.2) (.slice Ao14 t176.length co14)) (fun _ h_ => h_.1))) (Kd.R_base ho0) hb); have n1_ := z0f (Kd.R_lower (Kd.R_new' ho0 (Kd.R_lt (by (with_reducible repeat (first | apply z8f | apply z9f | apply y1f)); exact (x6f (x1f (p := ⟨gb173, 2, none⟩) (x1f (p := ⟨gb173, 1, none⟩) (x1f (p := ⟨gb173, 0, none⟩) (x7f HO178.out BK173.out (by decide)) (fun _ hk => hk.2) (.int .i64 t174)) (fun _ hk => hk.2) (.int .i64 t175)) (fun _ hk => hk.2) (.slice Ao14 t176.length co14)) (fun _ h_ => h_.1))))) (y7f (by repeat (first | (with_reducible first | exact HB.out | apply z4f | apply z5f | apply z6f | refine z7f ?_ GE171.out | refine z7f ?_ GE172.out | refine z7f ?_ GE173.out) | exact HB.out)))); have n2_ := z0f (y5f (g := gb171) (o := .cells #[.int .i64 a0_0, .int .i64 a0_1, .slice A0_2 l0_2.length c0_2, .int .i64 a0_3, .int .i64 a0_4, .slice A0_5 l0_5.length c0_5, .slice A0_6 l0_6.length c0_6] 64 (0, 0)) (by (with_reducible repeat (first | refine z1f ?_ _ | refine z3f ?_ | refine z2f ?_ _)); refine x8f ?_ NB171_173.out _; (with_reducible repeat (first | refine z1f ?_ _ | refine z3f ?_ | refine z2f ?_ _)); refine x8f ?_ NB171_173.out _; (with_reducible repeat (first | refine z1f ?_ _ | refine z3f ?_ | refine z2f ?_ _)); refine x8f ?_ NB171_173.out _; (with_reducible repeat (first | refine z1f ?_ _ | refine z3f ?_ | refine z2f ?_ _)); exact BK171.out) hb); have n3_ := z0f (y5f (g := gb172) (o := .cells #[.int .i64 0, .int .i64 0, .slice none 0 0, .int .i64 0, .int .i64 0, .slice none 0 0, .slice none 0 0] 68 (0, 0)) (by (with_reducible repeat (first | refine z1f ?_ _ | refine z3f ?_ | refine z2f ?_ _)); refine x8f ?_ NB172_173.out _; (with_reducible repeat (first | refine z1f ?_ _ | refine z3f ?_ | refine z2f ?_ _)); refine x8f ?_ NB172_173.out _; (with_reducible repeat (first | refine z1f ?_ _ | refine z3f ?_ | refine z2f ?_ _)); refine x8f ?_ NB172_173.out _; (with_reducible repeat (first | refine z1f ?_ _ | refine z3f ?_ | refine z2f ?_ _)); exact BK172.out) hb); have n4_ := z0f (y5f (g := gb173) (o := .cells #[.int .i64 t174, .int .i64 t175, .slice Ao14 t176.length co14, .int .i64 0, .int .i64 0, .slice none 0 0, .slice none 0 0] 68 (0, 0)) (by (with_reducible repeat (first | refine z1f ?_ _ | refine z3f ?_ | refine z2f ?_ _)); refine blk_put (cs := #[.int .i64 t174, .int .i64 t175, .slice none 0 0, .int .i64 0, .int .i64 0, .slice none 0 0, .slice none 0 0]) ?_ 2 _ rfl; (with_reducible repeat (first | refine z1f ?_ _ | refine z3f ?_ | refine z2f ?_ _)); refine blk_put (cs := #[.int .i64 t174, .int .i64 0, .slice none 0 0, .int .i64 0, .int .i64 0, .slice none 0 0, .slice none 0 0]) ?_ 1 _ rfl; (with_reducible repeat (first | refine z1f ?_ _ | refine z3f ?_ | refine z2f ?_ _)); refine blk_put (cs := #[.int .i64 0, .int .i64 0, .slice none 0 0, .int .i64 0, .int .i64 0, .slice none 0 0, .slice none 0 0]) ?_ 0 _ rfl; (with_reducible repeat (first | refine z1f ?_ _ | refine z3f ?_ | refine z2f ?_ _)); exact BK173.out) hb); have n5_ := z0f (y6f (by repeat (first | (with_reducible first | exact HB.out | apply z4f | apply z5f | apply z6f | refine z7f ?_ GE171.out | refine z7f ?_ GE172.out | refine z7f ?_ GE173.out) | exact HB.out)) hb); clear HO178; clear BK171; clear BK172; clear BK173; clear HB; have HO178 := n0_; have HO183 := n1_; have BK171 := n2_; have BK172 := n3_; have BK173 := n4_; have HB := n5_; clear n0_ n1_ n2_ n3_ n4_ n5_; (try clear hb); (try clear ho0); have hcz17_0 : w16.cell? ⟨gb173, 0, none⟩ = some (.int .i64 t174) := (x3f BK173.out 0).trans rfl; have hcz17_1 : w16.cell? ⟨gb173, 1, none⟩ = some (.int .i64 t175) := (x3f BK173.out 1).trans rfl; have hcz17_2 : w16.cell? ⟨gb173, 2, none⟩ = some (.slice Ao14 t176.length co14) := (x3f BK173.out 2).trans rfl; have hcz17_3 : w16.cell? ⟨gb173, 3, none⟩ = some (.int .i64 0) := (x3f BK173.out 3).trans rfl; have hcz17_4 : w16.cell? ⟨gb173, 4, none⟩ = some (.int .i64 0) := (x3f BK173.out 4).trans rfl; have hcz17_5 : w16.cell? ⟨gb173, 5, none⟩ = some (.slice none 0 0) := (x3f BK173.out 5).trans rfl; have hcz17_6 : w16.cell? ⟨gb173, 6, none⟩ = some (.slice none 0 0) := (x3f BK173.out 6).trans rfl; have hfz17_0 := x2f BK173.out 0; have hfz17_1 := x2f BK173.out 1; have hfz17_2 := x2f BK173.out 2; have hfz17_3 := x2f BK173.out 3; have hfz17_4 := x2f BK173.out 4; have hfz17_5 := x2f BK173.out 5; have hfz17_6 := x2f BK173.out 6; obtain ⟨Ao18, co18, eo18⟩ := Kd.R_slice HO183.out; subst eo18; have hcz19_0 : w16.cell? ⟨gb171, 0, none⟩ = some (.int .i64 a0_0) := (x3f BK171.out 0).trans rfl; have hcz19_1 : w16.cell? ⟨gb171, 1, none⟩ = some (.int .i64 a0_1) := (x3f BK171.out 1).trans rfl; have hcz19_2 : w16.cell? ⟨gb171, 2, none⟩ = some (.slice A0_2 l0_2.length c0_2) := (x3f BK171.out 2).trans rfl; have hcz19_3 : w16.cell? ⟨gb171, 3, none⟩ = some (.int .i64 a0_3) := (x3f BK171.out 3).trans rfl; have hcz19_4 : w16.cell? ⟨gb171, 4, none⟩ = some (.int .i64 a0_4) := (x3f BK171.out 4).trans rfl; have hcz19_5 : w16.cell? ⟨gb171, 5, none⟩ = some (.slice A0_5 l0_5.length c0_5) := (x3f BK171.out 5).trans rfl; have hcz19_6 : w16.cell? ⟨gb171, 6, none⟩ = some (.slice A0_6 l0_6.length c0_6) := (x3f BK171.out 6).trans rfl; have hfz19_0 := x2f BK171.out 0; have hfz19_1 := x2f BK171.out 1; have hfz19_2 := x2f BK171.out 2; have hfz19_3 := x2f BK171.out 3; have hfz19_4 := x2f BK171.out 4; have hfz19_5 := x2f BK171.out 5; have hfz19_6 := x2f BK171.out 6) | ((with_reducible refine gate_callee (f := 94) rfl ?_); refine goesL_ (some 14) rfl rfl Try.func94 (by kernel_rfl) rfl #[.slice A0_6 l0_6.length c0_6] rfl (by (try simp only [List.map_toArray, List.map_cons, List.map_nil]); first | done | rfl | (simp only [List.length_drop, List.length_take]; rfl)) ?_; (with_reducible refine (laws_toPictureS.calls k _ _ l0_6 t184 _ ?side1 ?side2 A4.out).mono ?_); (case side1 => exact y9f HR0_6.out (by repeat (first | (with_reducible first | exact HB.out | apply z4f | apply z5f | apply z6f | refine z7f ?_ GE171.out | refine z7f ?_ GE172.out | refine z7f ?_ GE173.out) | exact HB.out))); (case side2 => exact HC0_6.out); rintro e w20 ⟨v185, rfl, ho0, hb⟩; refine ⟨_, rfl, ?_⟩; have n0_ := z0f (Kd.R_below (by (with_reducible repeat (first | apply z8f | apply z9f | apply y1f)); exact (x6f (x1f (p := ⟨gb173, 5, none⟩) (x1f (p := ⟨gb173, 4, none⟩) (x1f (p := ⟨gb173, 3, none⟩) (x7f HO178.out BK173.out (by decide)) (fun _ hk => hk.2) (.int .i64 t179)) (fun _ hk => hk.2) (.int .i64 t180)) (fun _ hk => hk.2) (.slice Ao18 t181.length co18)) (fun _ h_ => h_.1))) hb); have n1_ := z0f (Kd.R_below (by (with_reducible repeat (first | apply z8f | apply z9f | apply y1f)); exact (x6f (x1f (p := ⟨gb173, 5, none⟩) (x1f (p := ⟨gb173, 4, none⟩) (x1f (p := ⟨gb173, 3, none⟩) (x7f HO183.out BK173.out (by decide)) (fun _ hk => hk.2) (.int .i64 t179)) (fun _ hk => hk.2) (.int .i64 t180)) (fun _ hk => hk.2) (.slice Ao18 t181.length co18)) (fun _ h_ => h_.1))) hb); have n2_ := z0f (Kd.S_lower (Kd.S_new' (Kd.S_new' ho0 (Kd.R_lt (by (with_reducible repeat (first | apply z8f | apply z9f | apply y1f)); exact (x6f (x1f (p := ⟨gb173, 5, none⟩) (x1f (p := ⟨gb173, 4, none⟩) (x1f (p := ⟨gb173, 3, none⟩) (x7f HO178.out BK173.out (by decide)) (fun _ hk => hk.2) (.int .i64 t179)) (fun _ hk => hk.2) (.int .i64 t180)) (fun _ hk => hk.2) (.slice Ao18 t181.length co18)) (fun _ h_ => h_.1))))) (Kd.R_lt (by (with_reducible repeat (first | apply z8f | apply z9f | apply y1f)); exact (x6f (x1f (p := ⟨gb173, 5, none⟩) (x1f (p := ⟨gb173, 4, none⟩) (x1f (p := ⟨gb173, 3, none⟩) (x7f HO183.out BK173.out (by decide)) (fun _ hk => hk.2) (.int .i64 t179)) (fun _ hk => hk.2) (.int .i64 t180)) (fun _ hk => hk.2) (.slice Ao18 t181.length co18)) (fun _ h_ => h_.1))))) (y7f (by repeat (first | (with_reducible first | exact HB.out | apply z4f | apply z5f | apply z6f | refine z7f ?_ GE171.out | refine z7f ?_ GE172.out | refine z7f ?_ GE173.out) | exact HB.out)))); have n3_ := z0f (y5f (g := gb171) (o := .cells #[.int .i64 a0_0, .int .i64 a0_1, .slice A0_2 l0_2.length c0_2, .int .i64 a0_3, .int .i64 a0_4, .slice A0_5 l0_5.length c0_5, .slice A0_6 l0_6.length c0_6] 64 (0, 0)) (by (with_reducible repeat (first | refine z1f ?_ _ | refine z3f ?_ | refine z2f ?_ _)); refine x8f ?_ NB171_173.out _; (with_reducible repeat (first | refine z1f ?_ _ | refine z3f ?_ | refine z2f ?_ _)); refine x8f ?_ NB171_173.out _; (with_reducible repeat (first | refine z1f ?_ _ | refine z3f ?_ | refine z2f ?_ _)); refine x8f ?_ NB171_173.out _; (with_reducible repeat (first | refine z1f ?_ _ | refine z3f ?_ | refine z2f ?_ _)); exact BK171.out) hb); have n4_ := z0f (y5f (g := gb172) (o := .cells #[.int .i64 0, .int .i64 0, .slice none 0 0, .int .i64 0, .int .i64 0, .slice none 0 0, .slice none 0 0] 68 (0, 0)) (by (with_reducible repeat (first | refine z1f ?_ _ | refine z3f ?_ | refine z2f ?_ _)); refine x8f ?_ NB172_173.out _; (with_reducible repeat (first | refine z1f ?_ _ | refine z3f ?_ | refine z2f ?_ _)); refine x8f ?_ NB172_173.out _; (with_reducible repeat (first | refine z1f ?_ _ | refine z3f ?_ | refine z2f ?_ _)); refine x8f ?_ NB172_173.out _; (with_reducible repeat (first | refine z1f ?_ _ | refine z3f ?_ | refine z2f ?_ _)); exact BK172.out) hb); have n5_ := z0f (y5f (g := gb173) (o := .cells #[.int .i64 t174, .int .i64 t175, .slice Ao14 t176.length co14, .int .i64 t179, .int .i64 t180, .slice Ao18 t181.length co18, .slice none 0 0] 68 (0, 0)) (by (with_reducible repeat (first | refine z1f ?_ _ | refine z3f ?_ | refine z2f ?_ _)); refine blk_put (cs := #[.int .i64 t174, .int .i64 t175, .slice Ao14 t176.length co14, .int .i64 t179, .int .i64 t180, .slice none 0 0, .slice none 0 0]) ?_ 5 _ rfl; (with_reducible repeat (first | refine z1f ?_ _ | refine z3f ?_ | refine z2f ?_ _)); refine blk_put (cs := #[.int .i64 t174, .int .i64 t175, .slice Ao14 t176.length co14, .int .i64 t179, .int .i64 0, .slice none 0 0, .slice none 0 0]) ?_ 4 _ rfl; (with_reducible repeat (first | refine z1f ?_ _ | refine z3f ?_ | refine z2f ?_ _)); refine blk_put (cs := #[.int .i64 t174, .int .i64 t175, .slice Ao14 t176.length co14, .int .i64 0, .int .i64 0, .slice none 0 0, .slice none 0 0]) ?_ 3 _ rfl; (with_reducible repeat (first | refine z1f ?_ _ | refine z3f ?_ | refine z2f ?_ _)); exact BK173.out) hb); have n6_ := z0f (y6f (by repeat (first | (with_reducible first | exact HB.out | apply z4f | apply z5f | apply z6f | refine z7f ?_ GE171.out | refine z7f ?_ GE172.out | refine z7f ?_ GE173.out) | exact HB.out)) hb); clear HO178; clear HO183; clear BK171; clear BK172; clear BK173; clear HB; have HO178 := n0_; have HO183 := n1_; have HO186 := n2_; have BK171 := n3_; have BK172 := n4_; have BK173 := n5_; have HB := n6_; clear n0_ n1_ n2_ n3_ n4_ n5_ n6_; (try clear hb); (try clear ho0); obtain ⟨Ao21, co21, eo21⟩ := Kd.S_slice HO186.out; subst eo21; have hcz22_0 : w20.cell? ⟨gb173, 0, none⟩ = some (.int .i64 t174) := (x3f BK173.out 0).trans rfl; have hcz22_1 : w20.cell? ⟨gb173, 1, none⟩ = some (.int .i64 t175) := (x3f BK173.out 1).trans rfl; have hcz22_2 : w20.cell? ⟨gb173, 2, none⟩ = some (.slice Ao14 t176.length co14) := (x3f BK173.out 2).trans rfl; have hcz22_3 : w20.cell? ⟨gb173, 3, none⟩ = some (.int .i64 t179) := (x3f BK173.out 3).trans rfl; have hcz22_4 : w20.cell? ⟨gb173, 4, none⟩ = some (.int .i64 t180) := (x3f BK173.out 4).trans rfl; have hcz22_5 : w20.cell? ⟨gb173, 5, none⟩ = some (.slice Ao18 t181.length co18) := (x3f BK173.out 5).trans rfl; have hcz22_6 : w20.cell? ⟨gb173, 6, none⟩ = some (.slice none 0 0) := (x3f BK173.out 6).trans rfl; have hfz22_0 := x2f BK173.out 0; have hfz22_1 := x2f BK173.out 1; have hfz22_2 := x2f BK173.out 2; have hfz22_3 := x2f BK173.out 3; have hfz22_4 := x2f BK173.out 4; have hfz22_5 := x2f BK173.out 5; have hfz22_6 := x2f BK173.out 6; have hcz23_0 : w20.cell? ⟨gb172, 0, none⟩ = some (.int .i64 0) := (x3f BK172.out 0).trans rfl; have hcz23_1 : w20.cell? ⟨gb172, 1, none⟩ = some (.int .i64 0) := (x3f BK172.out 1).trans rfl; have hcz23_2 : w20.cell? ⟨gb172, 2, none⟩ = some (.slice none 0 0) := (x3f BK172.out 2).trans rfl; have hcz23_3 : w20.cell? ⟨gb172, 3, none⟩ = some (.int .i64 0) := (x3f BK172.out 3).trans rfl; have hcz23_4 : w20.cell? ⟨gb172, 4, none⟩ = some (.int .i64 0) := (x3f BK172.out 4).trans rfl; have hcz23_5 : w20.cell? ⟨gb172, 5, none⟩ = some (.slice none 0 0) := (x3f BK172.out 5).trans rfl; have hcz23_6 : w20.cell? ⟨gb172, 6, none⟩ = some (.slice none 0 0) := (x3f BK172.out 6).trans rfl; have hfz23_0 := x2f BK172.out 0; have hfz23_1 := x2f BK172.out 1; have hfz23_2 := x2f BK172.out 2; have hfz23_3 := x2f BK172.out 3; have hfz23_4 := x2f BK172.out 4; have hfz23_5 := x2f BK172.out 5; have hfz23_6 := x2f BK172.out 6))
 refine bodyPost_ret (results_cell_row rfl _ _ gb172 68 #[.int .i64 t174, .int .i64 t175, .slice Ao14 t176.length co14, .int .i64 t179, .int .i64 t180, .slice Ao18 t181.length co18, .slice Ao21 t184.length co21] (0, 0) _ rfl (by (with_reducible repeat (first | refine z1f ?_ _ | refine z3f ?_ | refine z2f ?_ _)); refine blk_put (cs := #[.int .i64 t174, .int .i64 t175, .slice Ao14 t176.length co14, .int .i64 t179, .int .i64 t180, .slice Ao18 t181.length co18, .slice none 0 0]) ?_ 6 _ rfl; (with_reducible repeat (first | refine z1f ?_ _ | refine z3f ?_ | refine z2f ?_ _)); refine blk_put (cs := #[.int .i64 t174, .int .i64 t175, .slice Ao14 t176.length co14, .int .i64 t179, .int .i64 t180, .slice none 0 0, .slice none 0 0]) ?_ 5 _ rfl; (with_reducible repeat (first | refine z1f ?_ _ | refine z3f ?_ | refine z2f ?_ _)); refine blk_put (cs := #[.int .i64 t174, .int .i64 t175, .slice Ao14 t176.length co14, .int .i64 t179, .int .i64 0, .slice none 0 0, .slice none 0 0]) ?_ 4 _ rfl; (with_reducible repeat (first | refine z1f ?_ _ | refine z3f ?_ | refine z2f ?_ _)); refine blk_put (cs := #[.int .i64 t174, .int .i64 t175, .slice Ao14 t176.length co14, .int .i64 0, .int .i64 0, .slice none 0 0, .slice none 0 0]) ?_ 3 _ rfl; (with_reducible repeat (first | refine z1f ?_ _ | refine z3f ?_ | refine z2f ?_ _)); refine blk_put (cs := #[.int .i64 t174, .int .i64 t175, .slice none 0 0, .int .i64 0, .int .i64 0, .slice none 0 0, .slice none 0 0]) ?_ 2 _ rfl; (with_reducible repeat (first | refine z1f ?_ _ | refine z3f ?_ | refine z2f ?_ _)); refine blk_put (cs := #[.int .i64 t174, .int .i64 0, .slice none 0 0, .int .i64 0, .int .i64 0, .slice none 0 0, .slice none 0 0]) ?_ 1 _ rfl; (with_reducible repeat (first | refine z1f ?_ _ | refine z3f ?_ | refine z2f ?_ _)); refine blk_put (cs := #[.int .i64 0, .int .i64 0, .slice none 0 0, .int .i64 0, .int .i64 0, .slice none 0 0, .slice none 0 0]) ?_ 0 _ rfl; (with_reducible repeat (first | refine z1f ?_ _ | refine z3f ?_ | refine z2f ?_ _)); refine x8f ?_ NB172_173.out _; (with_reducible repeat (first | refine z1f ?_ _ | refine z3f ?_ | refine z2f ?_ _)); exact BK172.out) Try.underlying68 rfl (by kernel_rfl)) rfl ?_
 exact ⟨_, _, _, by first | rfl | (simp [errW_none, errW_some] <;> rfl) | (simp [*, errW_none, errW_some] <;> rfl), by (with_reducible repeat (first | apply z8f | apply z9f | apply y1f)); exact x6f (x1f (p := ⟨gb172, 6, none⟩) (x1f (p := ⟨gb172, 5, none⟩) (x1f (p := ⟨gb172, 4, none⟩) (x1f (p := ⟨gb172, 3, none⟩) (x1f (p := ⟨gb172, 2, none⟩) (x1f (p := ⟨gb172, 1, none⟩) (x1f (p := ⟨gb172, 0, none⟩) (x1f (p := ⟨gb173, 6, none⟩) (x7f (x7f HO178.out BK173.out (by decide)) BK172.out (by decide)) (fun _ hk => hk.1.2) (.slice Ao21 t184.length co21)) (fun _ hk => hk.2) (.int .i64 t174)) (fun _ hk => hk.2) (.int .i64 t175)) (fun _ hk => hk.2) (.slice Ao14 t176.length co14)) (fun _ hk => hk.2) (.int .i64 t179)) (fun _ hk => hk.2) (.int .i64 t180)) (fun _ hk => hk.2) (.slice Ao18 t181.length co18)) (fun _ hk => hk.2) (.slice Ao21 t184.length co21)) (fun _ hk => hk.1.1.2), by (with_reducible repeat (first | apply z8f | apply z9f | apply y1f)); exact x6f (x1f (p := ⟨gb172, 6, none⟩) (x1f (p := ⟨gb172, 5, none⟩) (x1f (p := ⟨gb172, 4, none⟩) (x1f (p := ⟨gb172, 3, none⟩) (x1f (p := ⟨gb172, 2, none⟩) (x1f (p := ⟨gb172, 1, none⟩) (x1f (p := ⟨gb172, 0, none⟩) (x1f (p := ⟨gb173, 6, none⟩) (x7f (x7f HO183.out BK173.out (by decide)) BK172.out (by decide)) (fun _ hk => hk.1.2) (.slice Ao21 t184.length co21)) (fun _ hk => hk.2) (.int .i64 t174)) (fun _ hk => hk.2) (.int .i64 t175)) (fun _ hk => hk.2) (.slice Ao14 t176.length co14)) (fun _ hk => hk.2) (.int .i64 t179)) (fun _ hk => hk.2) (.int .i64 t180)) (fun _ hk => hk.2) (.slice Ao18 t181.length co18)) (fun _ hk => hk.2) (.slice Ao21 t184.length co21)) (fun _ hk => hk.1.1.2), by (with_reducible repeat (first | apply Kd.S_alloc | apply Kd.S_drewN | apply Kd.S_drew)); exact Kd.S_mono (Kd.S_far (p := ⟨gb172, 6, none⟩) (Kd.S_far (p := ⟨gb172, 5, none⟩) (Kd.S_far (p := ⟨gb172, 4, none⟩) (Kd.S_far (p := ⟨gb172, 3, none⟩) (Kd.S_far (p := ⟨gb172, 2, none⟩) (Kd.S_far (p := ⟨gb172, 1, none⟩) (Kd.S_far (p := ⟨gb172, 0, none⟩) (Kd.S_far (p := ⟨gb173, 6, none⟩) (Kd.S_types (Kd.S_types HO186.out BK173.out (by decide)) BK172.out (by decide)) (fun _ hk => hk.1.2) (.slice Ao21 t184.length co21)) (fun _ hk => hk.2) (.int .i64 t174)) (fun _ hk => hk.2) (.int .i64 t175)) (fun _ hk => hk.2) (.slice Ao14 t176.length co14)) (fun _ hk => hk.2) (.int .i64 t179)) (fun _ hk => hk.2) (.int .i64 t180)) (fun _ hk => hk.2) (.slice Ao18 t181.length co18)) (fun _ hk => hk.2) (.slice Ao21 t184.length co21)) (fun _ hk => ⟨hk.1.1.1.2, hk.1.1.2⟩), by repeat (first | (with_reducible first | exact HB.out | apply z4f | apply z5f | apply z6f | refine z7f ?_ GE171.out | refine z7f ?_ GE172.out | refine z7f ?_ GE173.out) | exact HB.out)⟩

/-! ### impl_celled: function 73 -/
def impl_celled.f (a0 : Int) (a1 : Int) : Option (Bool) := if a0 ≥ 1 then (if a0 ≤ 256 then (if a1 ≥ 1 then (if a1 ≤ 256 then (some (decide ((wrap64 (a0 * a1)) ≤ 256))) else (some false)) else (some false)) else (some false)) else (some false)
set_option maxHeartbeats 8000000 in
set_option maxRecDepth 100000 in
theorem impl_celled.calls (a0 : Int) (a1 : Int) (r : Bool) (w : World) (h : impl_celled.f a0 a1 = some r) :
  Calls Try.prog 73 #[.int .i64 a0, .int .i64 a1] w fun e w' => e = .returned (.bool r) ∧ Drawn0 w w' := by
 have H : (if a0 ≥ 1 then (if a0 ≤ 256 then (if a1 ≥ 1 then (if a1 ≤ 256 then (some (decide ((wrap64 (a0 * a1)) ≤ 256))) else (some false)) else (some false)) else (some false)) else (some false)) = some r := h
 clear h
 by_cases c3 : a0 ≥ 1
 ·rw [if_pos c3] at H
  have c3b0 : decide (1 ≤ a0) = true := decide_eq_true c3
  clear c3
  by_cases c4 : a0 ≤ 256
  ·rw [if_pos c4] at H
   have c4b0 : decide (a0 ≤ 256) = true := decide_eq_true c4
   clear c4
   by_cases c5 : a1 ≥ 1
   ·rw [if_pos c5] at H
    have c5b0 : decide (1 ≤ a1) = true := decide_eq_true c5
    clear c5
    by_cases c6 : a1 ≤ 256
    ·rw [if_pos c6] at H
     have c6b0 : decide (a1 ≤ 256) = true := decide_eq_true c6
     clear c6
     obtain rfl := Option.some.inj H
     go_enter Try.func73, Try.ntmps73
     go_wp2
     go_ret
     exact ⟨by first | rfl | (simp; done) | (simp [*]; done), by repeat (first | exact Drawn0.refl _ | apply Drawn0.step)⟩
    ·rw [if_neg c6] at H
     have c6b0 : decide (a1 ≤ 256) = false := decide_eq_false c6
     clear c6
     obtain rfl := Option.some.inj H
     go_enter Try.func73, Try.ntmps73
     go_wp2
     go_ret
     exact ⟨by first | rfl | (simp; done) | (simp [*]; done), by repeat (first | exact Drawn0.refl _ | apply Drawn0.step)⟩
   ·rw [if_neg c5] at H
    have c5b0 : decide (1 ≤ a1) = false := decide_eq_false c5
    clear c5
    obtain rfl := Option.some.inj H
    go_enter Try.func73, Try.ntmps73
    go_wp2
    go_ret
    exact ⟨by first | rfl | (simp; done) | (simp [*]; done), by repeat (first | exact Drawn0.refl _ | apply Drawn0.step)⟩
  ·rw [if_neg c4] at H
   have c4b0 : decide (a0 ≤ 256) = false := decide_eq_false c4
   clear c4
   obtain rfl := Option.some.inj H
   go_enter Try.func73, Try.ntmps73
   go_wp2
   go_ret
   exact ⟨by first | rfl | (simp; done) | (simp [*]; done), by repeat (first | exact Drawn0.refl _ | apply Drawn0.step)⟩
 ·rw [if_neg c3] at H
  have c3b0 : decide (1 ≤ a0) = false := decide_eq_false c3
  clear c3
  obtain rfl := Option.some.inj H
  go_enter Try.func73, Try.ntmps73
  go_wp2
  go_ret
  exact ⟨by first | rfl | (simp; done) | (simp [*]; done), by repeat (first | exact Drawn0.refl _ | apply Drawn0.step)⟩

/-! ### impl_IsMatrix: function 30 -/
def impl_IsMatrix.f (a0_0 a0_1 : Int) (l0_2 : List Int) : Option Bool := if l0_2.length ≤ 140737488355328 then some (Ext.mtxB a0_0 a0_1 l0_2) else none
theorem impl_IsMatrix.calls (a0_0 a0_1 : Int) (A0_2 : Option Addr) (c0_2 : Nat) (l0_2 : List Int) (r : Bool) (w : World) (hr0_2 : Kd.C (Kd.int .i64) w A0_2 l0_2.length l0_2) (hc0_2 : l0_2.length ≤ c0_2) (h : impl_IsMatrix.f a0_0 a0_1 l0_2 = some r) :
  Calls Try.prog 30 #[.agg #[.int .i64 a0_0, .int .i64 a0_1, .slice A0_2 l0_2.length c0_2]] w fun e w' => e = .returned (.bool r) ∧ Below w.heap.size w w' := by
 unfold impl_IsMatrix.f at h
 split at h
 ·rename_i hl
  obtain rfl := Option.some.inj h
  exact Ext.IsMatrix a0_0 a0_1 A0_2 c0_2 l0_2 w hr0_2 hl
 ·exact absurd h (by simp)

/-! ### impl_within: function 68 -/
-- SKIP loop.example/g03229/impl.within$1
-- SKIP slices.ContainsFunc[[]int,int]
-- SKIP slices.IndexFunc[[]int,int]
def impl_within.f (l0 : List Int) (a1 : Int) : Option Bool := if l0.length ≤ 140737488355328 then some (l0.all fun n => decide (0 ≤ n ∧ n ≤ a1)) else none
theorem impl_within.calls (A0 : Option Addr) (c0 : Nat) (l0 : List Int) (a1 : Int) (r : Bool) (w : World) (hr0 : Kd.C (Kd.int .i64) w A0 l0.length l0) (hc0 : l0.length ≤ c0) (h : impl_within.f l0 a1 = some r) :
  Calls Try.prog 68 #[.slice A0 l0.length c0, .int .i64 a1] w fun e w' => e = .returned (.bool r) ∧ Below w.heap.size w w' := by
 unfold impl_within.f at h
 split at h
 ·rename_i hl
  obtain rfl := Option.some.inj h
  exact Ext.within A0 c0 l0 a1 w hr0 hl
 ·exact absurd h (by simp)

/-! ### impl_sized: function 74 -/
def impl_sized.f (a0 : Int) (a1 : Int) : Option (Bool) := if a0 ≥ 1 then (if a0 ≤ 64 then (if a1 ≥ 1 then (if a1 ≤ 64 then (some (decide ((wrap64 (a0 * a1)) ≤ 1024))) else (some false)) else (some false)) else (some false)) else (some false)
set_option maxHeartbeats 8000000 in
set_option maxRecDepth 100000 in
theorem impl_sized.calls (a0 : Int) (a1 : Int) (r : Bool) (w : World) (h : impl_sized.f a0 a1 = some r) :
  Calls Try.prog 74 #[.int .i64 a0, .int .i64 a1] w fun e w' => e = .returned (.bool r) ∧ Drawn0 w w' := by
 have H : (if a0 ≥ 1 then (if a0 ≤ 64 then (if a1 ≥ 1 then (if a1 ≤ 64 then (some (decide ((wrap64 (a0 * a1)) ≤ 1024))) else (some false)) else (some false)) else (some false)) else (some false)) = some r := h
 clear h
 by_cases c3 : a0 ≥ 1
 ·rw [if_pos c3] at H
  have c3b0 : decide (1 ≤ a0) = true := decide_eq_true c3
  clear c3
  by_cases c4 : a0 ≤ 64
  ·rw [if_pos c4] at H
   have c4b0 : decide (a0 ≤ 64) = true := decide_eq_true c4
   clear c4
   by_cases c5 : a1 ≥ 1
   ·rw [if_pos c5] at H
    have c5b0 : decide (1 ≤ a1) = true := decide_eq_true c5
    clear c5
    by_cases c6 : a1 ≤ 64
    ·rw [if_pos c6] at H
     have c6b0 : decide (a1 ≤ 64) = true := decide_eq_true c6
     clear c6
     obtain rfl := Option.some.inj H
     go_enter Try.func74, Try.ntmps74
     go_wp2
     go_ret
     exact ⟨by first | rfl | (simp; done) | (simp [*]; done), by repeat (first | exact Drawn0.refl _ | apply Drawn0.step)⟩
    ·rw [if_neg c6] at H
     have c6b0 : decide (a1 ≤ 64) = false := decide_eq_false c6
     clear c6
     obtain rfl := Option.some.inj H
     go_enter Try.func74, Try.ntmps74
     go_wp2
     go_ret
     exact ⟨by first | rfl | (simp; done) | (simp [*]; done), by repeat (first | exact Drawn0.refl _ | apply Drawn0.step)⟩
   ·rw [if_neg c5] at H
    have c5b0 : decide (1 ≤ a1) = false := decide_eq_false c5
    clear c5
    obtain rfl := Option.some.inj H
    go_enter Try.func74, Try.ntmps74
    go_wp2
    go_ret
    exact ⟨by first | rfl | (simp; done) | (simp [*]; done), by repeat (first | exact Drawn0.refl _ | apply Drawn0.step)⟩
  ·rw [if_neg c4] at H
   have c4b0 : decide (a0 ≤ 64) = false := decide_eq_false c4
   clear c4
   obtain rfl := Option.some.inj H
   go_enter Try.func74, Try.ntmps74
   go_wp2
   go_ret
   exact ⟨by first | rfl | (simp; done) | (simp [*]; done), by repeat (first | exact Drawn0.refl _ | apply Drawn0.step)⟩
 ·rw [if_neg c3] at H
  have c3b0 : decide (1 ≤ a0) = false := decide_eq_false c3
  clear c3
  obtain rfl := Option.some.inj H
  go_enter Try.func74, Try.ntmps74
  go_wp2
  go_ret
  exact ⟨by first | rfl | (simp; done) | (simp [*]; done), by repeat (first | exact Drawn0.refl _ | apply Drawn0.step)⟩

/-! ### impl_IsPicture: function 67 -/
def impl_IsPicture.f (a0_0 : Int) (a0_1 : Int) (l0_2 : List Int) : Option (Bool) := (impl_sized.f a0_0 a0_1).bind fun t188 => (if t188 = true then (if (l0_2.length : Int) = (wrap64 (a0_0 * a0_1)) then ((impl_within.f l0_2 255).bind fun t189 => (some t189)) else (some false)) else (some false))
set_option maxHeartbeats 8000000 in
set_option maxRecDepth 100000 in
theorem impl_IsPicture.calls (a0_0 : Int) (a0_1 : Int) (A0_2 : Option Addr) (c0_2 : Nat) (l0_2 : List Int) (r : Bool) (w : World) (hr0_2 : Kd.C (Kd.int .i64) w A0_2 l0_2.length l0_2) (hc0_2 : l0_2.length ≤ c0_2) (h : impl_IsPicture.f a0_0 a0_1 l0_2 = some r) :
  Calls Try.prog 67 #[.agg #[.int .i64 a0_0, .int .i64 a0_1, .slice A0_2 l0_2.length c0_2]] w fun e w' => e = .returned (.bool r) ∧ Below w.heap.size w w' := by
 have hu25 := Try.underlying25
 have HR0_2 := z0f hr0_2
 have HC0_2 := z0f hc0_2
 clear hr0_2 hc0_2
 have HB := z0f (Below.refl w.heap.size w)
 have H : ((impl_sized.f a0_0 a0_1).bind fun t188 => (if t188 = true then (if (l0_2.length : Int) = (wrap64 (a0_0 * a0_1)) then ((impl_within.f l0_2 255).bind fun t189 => (some t189)) else (some false)) else (some false))) = some r := h
 clear h
 replace H := Option.bind_eq_some_iff.mp H
 obtain ⟨t188, A20, H⟩ := H
 replace H : (if t188 = true then (if (l0_2.length : Int) = (wrap64 (a0_0 * a0_1)) then ((impl_within.f l0_2 255).bind fun t189 => (some t189)) else (some false)) else (some false)) = some r := H
 have A2 := z0f A20
 clear A20
 by_cases c3 : t188 = true
 ·subst c3
  have H1 : (if (l0_2.length : Int) = (wrap64 (a0_0 * a0_1)) then ((impl_within.f l0_2 255).bind fun t189 => (some t189)) else (some false)) = some r := by rw [if_pos rfl] at H; first | exact H | (simp only [if_true] at H ⊢; exact H)
  clear H
  have H := H1
  clear H1
  by_cases c4 : (l0_2.length : Int) = (wrap64 (a0_0 * a0_1))
  ·rw [if_pos c4] at H
   have c4b0 : ((l0_2.length : Int) == (wrap64 (a0_0 * a0_1))) = true := beq_iff_eq.mpr c4
   have c4b1 : ((l0_2.length : Int) != (wrap64 (a0_0 * a0_1))) = false := bne_eq_false_iff_eq.mpr c4
   clear c4
   replace H := Option.bind_eq_some_iff.mp H
   obtain ⟨t189, A50, H⟩ := H
   replace H : (some t189) = some r := H
   have A5 := z0f A50
   clear A50
   obtain rfl := Option.some.inj H
   go_enter Try.func67, Try.ntmps67
   go_wp2_with (first | ((with_reducible refine gate_dst (N := 1) rfl ?_); (try (refine gate_guard (by rfl) ?_; dsimp only)); refine box_event ?hg (N := 1) ?hd (cs := #[.int .i64 a0_0, .int .i64 a0_1, .slice A0_2 l0_2.length c0_2]) (t := 25) ?hr ?_; (case hd => rfl); (case hg => rfl); (case hr => first | (go_simp; done) | (go_simp; rfl)); intro gb187 hg w6 hbox hb; have n0_ := z0f (y6f (by repeat (first | (with_reducible first | exact HB.out | apply z4f | apply z5f | apply z6f) | exact HB.out)) hb); have n1_ := z0f (hbox); have n2_ := z0f ((by rw [hg]; exact (y7f (by repeat (first | (with_reducible first | exact HB.out | apply z4f | apply z5f | apply z6f) | exact HB.out))) : w.heap.size ≤ gb187)); have n3_ := z0f ((by rw [hg]; exact (y7f (by repeat (first | (with_reducible first | exact HB.out | apply z4f | apply z5f | apply z6f) | exact HB.out))) : w.heap.size ≤ gb187)); clear HB; have HB := n0_; have BK187 := n1_; have GW187 := n2_; have GE187 := n3_; clear n0_ n1_ n2_ n3_; clear hb hbox hg; have hcz7_0 : w6.cell? ⟨gb187, 0, none⟩ = some (.int .i64 a0_0) := (x3f BK187.out 0).trans rfl; have hcz7_1 : w6.cell? ⟨gb187, 1, none⟩ = some (.int .i64 a0_1) := (x3f BK187.out 1).trans rfl; have hcz7_2 : w6.cell? ⟨gb187, 2, none⟩ = some (.slice A0_2 l0_2.length c0_2) := (x3f BK187.out 2).trans rfl; have hfz7_0 := x2f BK187.out 0; have hfz7_1 := x2f BK187.out 1; have hfz7_2 := x2f BK187.out 2) | ((with_reducible refine gate_callee (f := 74) rfl ?_); refine goesL_ (some 7) rfl rfl Try.func74 (by kernel_rfl) rfl #[.int .i64 a0_0, .int .i64 a0_1] rfl (by (try simp only [List.map_toArray, List.map_cons, List.map_nil]); first | done | rfl | (simp only [List.length_drop, List.length_take]; rfl)) ?_; (with_reducible refine (impl_sized.calls a0_0 a0_1 true _ A2.out).mono ?_); rintro e w' ⟨rfl, ⟨nd, rfl⟩⟩; refine ⟨_, rfl, ?_⟩) | (go_at_call 68; (with_reducible refine (impl_within.calls _ _ l0_2 255 t189 _ ?side1 ?side2 A5.out).mono ?_); (case side1 => repeat (first | exact (y9f HR0_2.out (by repeat (first | (with_reducible first | exact HB.out | apply z4f | apply z5f | apply z6f | refine z7f ?_ GE187.out) | exact HB.out))) | (with_reducible refine y2f ?_ _) | (with_reducible refine y3f ?_ _) | (with_reducible refine y4f ?_))); (case side2 => exact HC0_2.out); rintro e w8 ⟨rfl, hb⟩; have n0_ := z0f (y5f (g := gb187) (o := .cells #[.int .i64 a0_0, .int .i64 a0_1, .slice A0_2 l0_2.length c0_2] 25 (0, 0)) (by (with_reducible repeat (first | refine z1f ?_ _ | refine z3f ?_ | refine z2f ?_ _)); exact BK187.out) hb); have n1_ := z0f (y6f (by repeat (first | (with_reducible first | exact HB.out | apply z4f | apply z5f | apply z6f | refine z7f ?_ GE187.out) | exact HB.out)) hb); clear BK187; clear HB; have BK187 := n0_; have HB := n1_; clear n0_ n1_; (try clear hb)))
   go_ret
   exact ⟨by first | rfl | (simp [errW_none, errW_some] <;> rfl) | (simp [*, errW_none, errW_some] <;> rfl), by repeat (first | (with_reducible first | exact HB.out | apply z4f | apply z5f | apply z6f | refine z7f ?_ GE187.out) | exact HB.out)⟩
  ·rw [if_neg c4] at H
   have c4b0 : ((l0_2.length : Int) == (wrap64 (a0_0 * a0_1))) = false := beq_eq_false_iff_ne.mpr c4
   have c4b1 : ((l0_2.length : Int) != (wrap64 (a0_0 * a0_1))) = true := bne_iff_ne.mpr c4
   obtain rfl := Option.some.inj H
   go_enter Try.func67, Try.ntmps67
   go_wp2_with (first | ((with_reducible refine gate_dst (N := 1) rfl ?_); (try (refine gate_guard (by rfl) ?_; dsimp only)); refine box_event ?hg (N := 1) ?hd (cs := #[.int .i64 a0_0, .int .i64 a0_1, .slice A0_2 l0_2.length c0_2]) (t := 25) ?hr ?_; (case hd => rfl); (case hg => rfl); (case hr => first | (go_simp; done) | (go_simp; rfl)); intro gb187 hg w9 hbox hb; have n0_ := z0f (y6f (by repeat (first | (with_reducible first | exact HB.out | apply z4f | apply z5f | apply z6f) | exact HB.out)) hb); have n1_ := z0f (hbox); have n2_ := z0f ((by rw [hg]; exact (y7f (by repeat (first | (with_reducible first | exact HB.out | apply z4f | apply z5f | apply z6f) | exact HB.out))) : w.heap.size ≤ gb187)); have n3_ := z0f ((by rw [hg]; exact (y7f (by repeat (first | (with_reducible first | exact HB.out | apply z4f | apply z5f | apply z6f) | exact HB.out))) : w.heap.size ≤ gb187)); clear HB; have HB := n0_; have BK187 := n1_; have GW187 := n2_; have GE187 := n3_; clear n0_ n1_ n2_ n3_; clear hb hbox hg; have hcz10_0 : w9.cell? ⟨gb187, 0, none⟩ = some (.int .i64 a0_0) := (x3f BK187.out 0).trans rfl; have hcz10_1 : w9.cell? ⟨gb187, 1, none⟩ = some (.int .i64 a0_1) := (x3f BK187.out 1).trans rfl; have hcz10_2 : w9.cell? ⟨gb187, 2, none⟩ = some (.slice A0_2 l0_2.length c0_2) := (x3f BK187.out 2).trans rfl; have hfz10_0 := x2f BK187.out 0; have hfz10_1 := x2f BK187.out 1; have hfz10_2 := x2f BK187.out 2) | ((with_reducible refine gate_callee (f := 74) rfl ?_); refine goesL_ (some 7) rfl rfl Try.func74 (by kernel_rfl) rfl #[.int .i64 a0_0, .int .i64 a0_1] rfl (by (try simp only [List.map_toArray, List.map_cons, List.map_nil]); first | done | rfl | (simp only [List.length_drop, List.length_take]; rfl)) ?_; (with_reducible refine (impl_sized.calls a0_0 a0_1 true _ A2.out).mono ?_); rintro e w' ⟨rfl, ⟨nd, rfl⟩⟩; refine ⟨_, rfl, ?_⟩))
   go_ret
   exact ⟨by first | rfl | (simp [errW_none, errW_some] <;> rfl) | (simp [*, errW_none, errW_some] <;> rfl), by repeat (first | (with_reducible first | exact HB.out | apply z4f | apply z5f | apply z6f | refine z7f ?_ GE187.out) | exact HB.out)⟩
 ·replace c3 := Bool.eq_false_iff.mpr c3
  subst c3
  have H1 : (some false) = some r := by rw [if_neg (show ¬ (false = true) by decide)] at H; first | exact H | (simp only [if_true] at H ⊢; exact H)
  clear H
  have H := H1
  clear H1
  obtain rfl := Option.some.inj H
  go_enter Try.func67, Try.ntmps67
  go_wp2_with (first | ((with_reducible refine gate_dst (N := 1) rfl ?_); (try (refine gate_guard (by rfl) ?_; dsimp only)); refine box_event ?hg (N := 1) ?hd (cs := #[.int .i64 a0_0, .int .i64 a0_1, .slice A0_2 l0_2.length c0_2]) (t := 25) ?hr ?_; (case hd => rfl); (case hg => rfl); (case hr => first | (go_simp; done) | (go_simp; rfl)); intro gb187 hg w11 hbox hb; have n0_ := z0f (y6f (by repeat (first | (with_reducible first | exact HB.out | apply z4f | apply z5f | apply z6f) | exact HB.out)) hb); have n1_ := z0f (hbox); have n2_ := z0f ((by rw [hg]; exact (y7f (by repeat (first | (with_reducible first | exact HB.out | apply z4f | apply z5f | apply z6f) | exact HB.out))) : w.heap.size ≤ gb187)); have n3_ := z0f ((by rw [hg]; exact (y7f (by repeat (first | (with_reducible first | exact HB.out | apply z4f | apply z5f | apply z6f) | exact HB.out))) : w.heap.size ≤ gb187)); clear HB; have HB := n0_; have BK187 := n1_; have GW187 := n2_; have GE187 := n3_; clear n0_ n1_ n2_ n3_; clear hb hbox hg; have hcz12_0 : w11.cell? ⟨gb187, 0, none⟩ = some (.int .i64 a0_0) := (x3f BK187.out 0).trans rfl; have hcz12_1 : w11.cell? ⟨gb187, 1, none⟩ = some (.int .i64 a0_1) := (x3f BK187.out 1).trans rfl; have hcz12_2 : w11.cell? ⟨gb187, 2, none⟩ = some (.slice A0_2 l0_2.length c0_2) := (x3f BK187.out 2).trans rfl; have hfz12_0 := x2f BK187.out 0; have hfz12_1 := x2f BK187.out 1; have hfz12_2 := x2f BK187.out 2) | ((with_reducible refine gate_callee (f := 74) rfl ?_); refine goesL_ (some 7) rfl rfl Try.func74 (by kernel_rfl) rfl #[.int .i64 a0_0, .int .i64 a0_1] rfl (by (try simp only [List.map_toArray, List.map_cons, List.map_nil]); first | done | rfl | (simp only [List.length_drop, List.length_take]; rfl)) ?_; (with_reducible refine (impl_sized.calls a0_0 a0_1 false _ A2.out).mono ?_); rintro e w' ⟨rfl, ⟨nd, rfl⟩⟩; refine ⟨_, rfl, ?_⟩))
  go_ret
  exact ⟨by first | rfl | (simp [errW_none, errW_some] <;> rfl) | (simp [*, errW_none, errW_some] <;> rfl), by repeat (first | (with_reducible first | exact HB.out | apply z4f | apply z5f | apply z6f | refine z7f ?_ GE187.out) | exact HB.out)⟩

/-! ### impl_IsPlate: function 21 -/
def impl_IsPlate.f (a0_0 : Int) (a0_1 : Int) (l0_2 : List Int) : Option (Bool) := (impl_IsPicture.f a0_0 a0_1 l0_2).bind fun t191 => (if t191 = true then ((impl_within.f l0_2 1).bind fun t192 => (some t192)) else (some false))
set_option maxHeartbeats 8000000 in
set_option maxRecDepth 100000 in
theorem impl_IsPlate.calls (a0_0 : Int) (a0_1 : Int) (A0_2 : Option Addr) (c0_2 : Nat) (l0_2 : List Int) (r : Bool) (w : World) (hr0_2 : Kd.C (Kd.int .i64) w A0_2 l0_2.length l0_2) (hc0_2 : l0_2.length ≤ c0_2) (h : impl_IsPlate.f a0_0 a0_1 l0_2 = some r) :
  Calls Try.prog 21 #[.agg #[.int .i64 a0_0, .int .i64 a0_1, .slice A0_2 l0_2.length c0_2]] w fun e w' => e = .returned (.bool r) ∧ Below w.heap.size w w' := by
 have hu25 := Try.underlying25
 have HR0_2 := z0f hr0_2
 have HC0_2 := z0f hc0_2
 clear hr0_2 hc0_2
 have HB := z0f (Below.refl w.heap.size w)
 have H : ((impl_IsPicture.f a0_0 a0_1 l0_2).bind fun t191 => (if t191 = true then ((impl_within.f l0_2 1).bind fun t192 => (some t192)) else (some false))) = some r := h
 clear h
 replace H := Option.bind_eq_some_iff.mp H
 obtain ⟨t191, A20, H⟩ := H
 replace H : (if t191 = true then ((impl_within.f l0_2 1).bind fun t192 => (some t192)) else (some false)) = some r := H
 have A2 := z0f A20
 clear A20
 by_cases c3 : t191 = true
 ·subst c3
  have H1 : ((impl_within.f l0_2 1).bind fun t192 => (some t192)) = some r := by rw [if_pos rfl] at H; first | exact H | (simp only [if_true] at H ⊢; exact H)
  clear H
  have H := H1
  clear H1
  replace H := Option.bind_eq_some_iff.mp H
  obtain ⟨t192, A40, H⟩ := H
  replace H : (some t192) = some r := H
  have A4 := z0f A40
  clear A40
  obtain rfl := Option.some.inj H
  go_enter Try.func21, Try.ntmps21
  go_wp2_with (first | ((with_reducible refine gate_dst (N := 1) rfl ?_); refine box_event ?hg (N := 1) ?hd (cs := #[.int .i64 a0_0, .int .i64 a0_1, .slice A0_2 l0_2.length c0_2]) (t := 25) ?hr ?_; (case hd => rfl); (case hg => rfl); (case hr => first | (go_simp; done) | (go_simp; rfl)); intro gb190 hg w5 hbox hb; have n0_ := z0f (y6f (by repeat (first | (with_reducible first | exact HB.out | apply z4f | apply z5f | apply z6f) | exact HB.out)) hb); have n1_ := z0f (hbox); have n2_ := z0f ((by rw [hg]; exact (y7f (by repeat (first | (with_reducible first | exact HB.out | apply z4f | apply z5f | apply z6f) | exact HB.out))) : w.heap.size ≤ gb190)); have n3_ := z0f ((by rw [hg]; exact (y7f (by repeat (first | (with_reducible first | exact HB.out | apply z4f | apply z5f | apply z6f) | exact HB.out))) : w.heap.size ≤ gb190)); clear HB; have HB := n0_; have BK190 := n1_; have GW190 := n2_; have GE190 := n3_; clear n0_ n1_ n2_ n3_; clear hb hbox hg; have hcz6_0 : w5.cell? ⟨gb190, 0, none⟩ = some (.int .i64 a0_0) := (x3f BK190.out 0).trans rfl; have hcz6_1 : w5.cell? ⟨gb190, 1, none⟩ = some (.int .i64 a0_1) := (x3f BK190.out 1).trans rfl; have hcz6_2 : w5.cell? ⟨gb190, 2, none⟩ = some (.slice A0_2 l0_2.length c0_2) := (x3f BK190.out 2).trans rfl; have hfz6_0 := x2f BK190.out 0; have hfz6_1 := x2f BK190.out 1; have hfz6_2 := x2f BK190.out 2) | ((with_reducible refine gate_callee (f := 67) rfl ?_); refine goesL_ (some 4) rfl rfl Try.func67 (by kernel_rfl) rfl #[.agg #[.int .i64 a0_0, .int .i64 a0_1, .slice A0_2 l0_2.length c0_2]] rfl (by (try simp only [List.map_toArray, List.map_cons, List.map_nil]); first | done | rfl | (simp only [List.length_drop, List.length_take]; rfl)) ?_; (with_reducible refine (impl_IsPicture.calls a0_0 a0_1 _ _ l0_2 true _ ?side1 ?side2 A2.out).mono ?_); (case side1 => repeat (first | exact HR0_2.out | exact (y9f HR0_2.out HB.out) | (with_reducible refine y2f ?_ _) | (with_reducible refine y3f ?_ _) | (with_reducible refine y4f ?_))); (case side2 => exact HC0_2.out); rintro e w7 ⟨rfl, hb⟩; refine ⟨_, rfl, ?_⟩; have n0_ := z0f (y5f (g := gb190) (o := .cells #[.int .i64 a0_0, .int .i64 a0_1, .slice A0_2 l0_2.length c0_2] 25 (0, 0)) (by (with_reducible repeat (first | refine z1f ?_ _ | refine z3f ?_ | refine z2f ?_ _)); exact BK190.out) hb); have n1_ := z0f (y6f (by repeat (first | (with_reducible first | exact HB.out | apply z4f | apply z5f | apply z6f | refine z7f ?_ GE190.out) | exact HB.out)) hb); clear BK190; clear HB; have BK190 := n0_; have HB := n1_; clear n0_ n1_; (try clear hb); have hcz8_0 : w7.cell? ⟨gb190, 0, none⟩ = some (.int .i64 a0_0) := (x3f BK190.out 0).trans rfl; have hcz8_1 : w7.cell? ⟨gb190, 1, none⟩ = some (.int .i64 a0_1) := (x3f BK190.out 1).trans rfl; have hcz8_2 : w7.cell? ⟨gb190, 2, none⟩ = some (.slice A0_2 l0_2.length c0_2) := (x3f BK190.out 2).trans rfl; have hfz8_0 := x2f BK190.out 0; have hfz8_1 := x2f BK190.out 1; have hfz8_2 := x2f BK190.out 2) | (go_at_call 68; (with_reducible refine (impl_within.calls _ _ l0_2 1 t192 _ ?side1 ?side2 A4.out).mono ?_); (case side1 => repeat (first | exact HR0_2.out | exact (y9f HR0_2.out HB.out) | (with_reducible refine y2f ?_ _) | (with_reducible refine y3f ?_ _) | (with_reducible refine y4f ?_))); (case side2 => exact HC0_2.out); rintro e w9 ⟨rfl, hb⟩; have n0_ := z0f (y5f (g := gb190) (o := .cells #[.int .i64 a0_0, .int .i64 a0_1, .slice A0_2 l0_2.length c0_2] 25 (0, 0)) (by (with_reducible repeat (first | refine z1f ?_ _ | refine z3f ?_ | refine z2f ?_ _)); exact BK190.out) hb); have n1_ := z0f (y6f (by repeat (first | (with_reducible first | exact HB.out | apply z4f | apply z5f | apply z6f | refine z7f ?_ GE190.out) | exact HB.out)) hb); clear BK190; clear HB; have BK190 := n0_; have HB := n1_; clear n0_ n1_; (try clear hb)))
  go_ret
  exact ⟨by first | rfl | (simp [errW_none, errW_some] <;> rfl) | (simp [*, errW_none, errW_some] <;> rfl), by repeat (first | (with_reducible first | exact HB.out | apply z4f | apply z5f | apply z6f | refine z7f ?_ GE190.out) | exact HB.out)⟩
 ·replace c3 := Bool.eq_false_iff.mpr c3
  subst c3
  have H1 : (some false) = some r := by rw [if_neg (show ¬ (false = true) by decide)] at H; first | exact H | (simp only [if_true] at H ⊢; exact H)
  clear H
  have H := H1
  clear H1
  obtain rfl := Option.some.inj H
  go_enter Try.func21, Try.ntmps21
  go_wp2_with (first | ((with_reducible refine gate_dst (N := 1) rfl ?_); refine box_event ?hg (N := 1) ?hd (cs := #[.int .i64 a0_0, .int .i64 a0_1, .slice A0_2 l0_2.length c0_2]) (t := 25) ?hr ?_; (case hd => rfl); (case hg => rfl); (case hr => first | (go_simp; done) | (go_simp; rfl)); intro gb190 hg w10 hbox hb; have n0_ := z0f (y6f (by repeat (first | (with_reducible first | exact HB.out | apply z4f | apply z5f | apply z6f) | exact HB.out)) hb); have n1_ := z0f (hbox); have n2_ := z0f ((by rw [hg]; exact (y7f (by repeat (first | (with_reducible first | exact HB.out | apply z4f | apply z5f | apply z6f) | exact HB.out))) : w.heap.size ≤ gb190)); have n3_ := z0f ((by rw [hg]; exact (y7f (by repeat (first | (with_reducible first | exact HB.out | apply z4f | apply z5f | apply z6f) | exact HB.out))) : w.heap.size ≤ gb190)); clear HB; have HB := n0_; have BK190 := n1_; have GW190 := n2_; have GE190 := n3_; clear n0_ n1_ n2_ n3_; clear hb hbox hg; have hcz11_0 : w10.cell? ⟨gb190, 0, none⟩ = some (.int .i64 a0_0) := (x3f BK190.out 0).trans rfl; have hcz11_1 : w10.cell? ⟨gb190, 1, none⟩ = some (.int .i64 a0_1) := (x3f BK190.out 1).trans rfl; have hcz11_2 : w10.cell? ⟨gb190, 2, none⟩ = some (.slice A0_2 l0_2.length c0_2) := (x3f BK190.out 2).trans rfl; have hfz11_0 := x2f BK190.out 0; have hfz11_1 := x2f BK190.out 1; have hfz11_2 := x2f BK190.out 2) | ((with_reducible refine gate_callee (f := 67) rfl ?_); refine goesL_ (some 4) rfl rfl Try.func67 (by kernel_rfl) rfl #[.agg #[.int .i64 a0_0, .int .i64 a0_1, .slice A0_2 l0_2.length c0_2]] rfl (by (try simp only [List.map_toArray, List.map_cons, List.map_nil]); first | done | rfl | (simp only [List.length_drop, List.length_take]; rfl)) ?_; (with_reducible refine (impl_IsPicture.calls a0_0 a0_1 _ _ l0_2 false _ ?side1 ?side2 A2.out).mono ?_); (case side1 => repeat (first | exact HR0_2.out | exact (y9f HR0_2.out HB.out) | (with_reducible refine y2f ?_ _) | (with_reducible refine y3f ?_ _) | (with_reducible refine y4f ?_))); (case side2 => exact HC0_2.out); rintro e w12 ⟨rfl, hb⟩; refine ⟨_, rfl, ?_⟩; have n0_ := z0f (y5f (g := gb190) (o := .cells #[.int .i64 a0_0, .int .i64 a0_1, .slice A0_2 l0_2.length c0_2] 25 (0, 0)) (by (with_reducible repeat (first | refine z1f ?_ _ | refine z3f ?_ | refine z2f ?_ _)); exact BK190.out) hb); have n1_ := z0f (y6f (by repeat (first | (with_reducible first | exact HB.out | apply z4f | apply z5f | apply z6f | refine z7f ?_ GE190.out) | exact HB.out)) hb); clear BK190; clear HB; have BK190 := n0_; have HB := n1_; clear n0_ n1_; (try clear hb)))
  go_ret
  exact ⟨by first | rfl | (simp [errW_none, errW_some] <;> rfl) | (simp [*, errW_none, errW_some] <;> rfl), by repeat (first | (with_reducible first | exact HB.out | apply z4f | apply z5f | apply z6f | refine z7f ?_ GE190.out) | exact HB.out)⟩

/-! ### impl_alike: function 80 -/
def impl_alike.f (a0_0 : Int) (a0_1 : Int) (l0_2 : List Int) (a1_0 : Int) (a1_1 : Int) (l1_2 : List Int) : Option (Bool) := (impl_IsPicture.f a0_0 a0_1 l0_2).bind fun t195 => (if t195 = true then ((impl_IsPicture.f a1_0 a1_1 l1_2).bind fun t196 => (if t196 = true then (if a0_0 = a1_0 then (some (a0_1 == a1_1)) else (some false)) else (some false))) else (some false))
set_option maxHeartbeats 8000000 in
set_option maxRecDepth 100000 in
theorem impl_alike.calls (a0_0 : Int) (a0_1 : Int) (A0_2 : Option Addr) (c0_2 : Nat) (l0_2 : List Int) (a1_0 : Int) (a1_1 : Int) (A1_2 : Option Addr) (c1_2 : Nat) (l1_2 : List Int) (r : Bool) (w : World) (hr0_2 : Kd.C (Kd.int .i64) w A0_2 l0_2.length l0_2) (hc0_2 : l0_2.length ≤ c0_2) (hr1_2 : Kd.C (Kd.int .i64) w A1_2 l1_2.length l1_2) (hc1_2 : l1_2.length ≤ c1_2) (h : impl_alike.f a0_0 a0_1 l0_2 a1_0 a1_1 l1_2 = some r) :
  Calls Try.prog 80 #[.agg #[.int .i64 a0_0, .int .i64 a0_1, .slice A0_2 l0_2.length c0_2], .agg #[.int .i64 a1_0, .int .i64 a1_1, .slice A1_2 l1_2.length c1_2]] w fun e w' => e = .returned (.bool r) ∧ Below w.heap.size w w' := by
 have hu25 := Try.underlying25
 have HR0_2 := z0f hr0_2
 have HC0_2 := z0f hc0_2
 clear hr0_2 hc0_2
 have HR1_2 := z0f hr1_2
 have HC1_2 := z0f hc1_2
 clear hr1_2 hc1_2
 have HB := z0f (Below.refl w.heap.size w)
 have H : ((impl_IsPicture.f a0_0 a0_1 l0_2).bind fun t195 => (if t195 = true then ((impl_IsPicture.f a1_0 a1_1 l1_2).bind fun t196 => (if t196 = true then (if a0_0 = a1_0 then (some (a0_1 == a1_1)) else (some false)) else (some false))) else (some false))) = some r := h
 clear h
 replace H := Option.bind_eq_some_iff.mp H
 obtain ⟨t195, A30, H⟩ := H
 replace H : (if t195 = true then ((impl_IsPicture.f a1_0 a1_1 l1_2).bind fun t196 => (if t196 = true then (if a0_0 = a1_0 then (some (a0_1 == a1_1)) else (some false)) else (some false))) else (some false)) = some r := H
 have A3 := z0f A30
 clear A30
 by_cases c4 : t195 = true
 ·subst c4
  have H1 : ((impl_IsPicture.f a1_0 a1_1 l1_2).bind fun t196 => (if t196 = true then (if a0_0 = a1_0 then (some (a0_1 == a1_1)) else (some false)) else (some false))) = some r := by rw [if_pos rfl] at H; first | exact H | (simp only [if_true] at H ⊢; exact H)
  clear H
  have H := H1
  clear H1
  replace H := Option.bind_eq_some_iff.mp H
  obtain ⟨t196, A50, H⟩ := H
  replace H : (if t196 = true then (if a0_0 = a1_0 then (some (a0_1 == a1_1)) else (some false)) else (some false)) = some r := H
  have A5 := z0f A50
  clear A50
  by_cases c6 : t196 = true
  ·subst c6
   have H1 : (if a0_0 = a1_0 then (some (a0_1 == a1_1)) else (some false)) = some r := by rw [if_pos rfl] at H; first | exact H | (simp only [if_true] at H ⊢; exact H)
   clear H
   have H := H1
   clear H1
   by_cases c7 : a0_0 = a1_0
   ·rw [if_pos c7] at H
    have c7b0 : (a0_0 == a1_0) = true := beq_iff_eq.mpr c7
    have c7b1 : (a0_0 != a1_0) = false := bne_eq_false_iff_eq.mpr c7
    clear c7
    obtain rfl := Option.some.inj H
    go_enter Try.func80, Try.ntmps80
    go_wp2_with (first | ((with_reducible refine gate_dst (N := 2) rfl ?_); refine box_event ?hg (N := 2) ?hd (cs := #[.int .i64 a0_0, .int .i64 a0_1, .slice A0_2 l0_2.length c0_2]) (t := 25) ?hr ?_; (case hd => rfl); (case hg => rfl); (case hr => first | (go_simp; done) | (go_simp; rfl)); intro gb193 hg w8 hbox hb; have n0_ := z0f (y6f (by repeat (first | (with_reducible first | exact HB.out | apply z4f | apply z5f | apply z6f) | exact HB.out)) hb); have n1_ := z0f (hbox); have n2_ := z0f ((by rw [hg]; exact (y7f (by repeat (first | (with_reducible first | exact HB.out | apply z4f | apply z5f | apply z6f) | exact HB.out))) : w.heap.size ≤ gb193)); have n3_ := z0f ((by rw [hg]; exact (y7f (by repeat (first | (with_reducible first | exact HB.out | apply z4f | apply z5f | apply z6f) | exact HB.out))) : w.heap.size ≤ gb193)); clear HB; have HB := n0_; have BK193 := n1_; have GW193 := n2_; have GE193 := n3_; clear n0_ n1_ n2_ n3_; clear hb hbox hg) | ((with_reducible refine gate_dst (N := 3) rfl ?_); refine box_event ?hg (N := 3) ?hd (cs := #[.int .i64 a1_0, .int .i64 a1_1, .slice A1_2 l1_2.length c1_2]) (t := 25) ?hr ?_; (case hd => rfl); (case hg => rfl); (case hr => first | (go_simp; done) | (go_simp; rfl)); intro gb194 hg w9 hbox hb; have n0_ := z0f (y5f (g := gb193) (o := .cells #[.int .i64 a0_0, .int .i64 a0_1, .slice A0_2 l0_2.length c0_2] 25 (0, 0)) (by (with_reducible repeat (first | refine z1f ?_ _ | refine z3f ?_ | refine z2f ?_ _)); exact BK193.out) hb); have n1_ := z0f (y6f (by repeat (first | (with_reducible first | exact HB.out | apply z4f | apply z5f | apply z6f | refine z7f ?_ GE193.out) | exact HB.out)) hb); have n2_ := z0f (hbox); have n3_ := z0f ((by rw [hg]; exact (y7f (by repeat (first | (with_reducible first | exact HB.out | apply z4f | apply z5f | apply z6f | refine z7f ?_ GE193.out) | exact HB.out))) : w.heap.size ≤ gb194)); have n4_ := z0f ((by rw [hg]; exact (y7f (by repeat (first | (with_reducible first | exact HB.out | apply z4f | apply z5f | apply z6f | refine z7f ?_ GE193.out) | exact HB.out))) : w.heap.size ≤ gb194)); have n5_ := z0f ((by rw [hg]; exact Nat.ne_of_lt (blk_lt (g := gb193) (o := .cells #[.int .i64 a0_0, .int .i64 a0_1, .slice A0_2 l0_2.length c0_2] 25 (0, 0)) (by (with_reducible repeat (first | refine z1f ?_ _ | refine z3f ?_ | refine z2f ?_ _)); exact BK193.out)) : gb193 ≠ gb194)); have n6_ := z0f ((by rw [hg]; exact Nat.ne_of_gt (blk_lt (g := gb193) (o := .cells #[.int .i64 a0_0, .int .i64 a0_1, .slice A0_2 l0_2.length c0_2] 25 (0, 0)) (by (with_reducible repeat (first | refine z1f ?_ _ | refine z3f ?_ | refine z2f ?_ _)); exact BK193.out)) : gb194 ≠ gb193)); clear BK193; clear HB; have BK193 := n0_; have HB := n1_; have BK194 := n2_; have GW194 := n3_; have GE194 := n4_; have NB193_194 := n5_; have NB194_193 := n6_; clear n0_ n1_ n2_ n3_ n4_ n5_ n6_; clear hb hbox hg; have hnb10 := NB193_194.out; have hnc10 := NB194_193.out; have hcz11_0 : w9.cell? ⟨gb193, 0, none⟩ = some (.int .i64 a0_0) := (x3f BK193.out 0).trans rfl; have hcz11_1 : w9.cell? ⟨gb193, 1, none⟩ = some (.int .i64 a0_1) := (x3f BK193.out 1).trans rfl; have hcz11_2 : w9.cell? ⟨gb193, 2, none⟩ = some (.slice A0_2 l0_2.length c0_2) := (x3f BK193.out 2).trans rfl; have hfz11_0 := x2f BK193.out 0; have hfz11_1 := x2f BK193.out 1; have hfz11_2 := x2f BK193.out 2) | ((with_reducible refine gate_callee (f := 67) rfl ?_); refine goesL_ (some 6) rfl rfl Try.func67 (by kernel_rfl) rfl #[.agg #[.int .i64 a0_0, .int .i64 a0_1, .slice A0_2 l0_2.length c0_2]] rfl (by (try simp only [List.map_toArray, List.map_cons, List.map_nil]); first | done | rfl | (simp only [List.length_drop, List.length_take]; rfl)) ?_; (with_reducible refine (impl_IsPicture.calls a0_0 a0_1 _ _ l0_2 true _ ?side1 ?side2 A3.out).mono ?_); (case side1 => repeat (first | exact HR0_2.out | exact (y9f HR0_2.out HB.out) | (with_reducible refine y2f ?_ _) | (with_reducible refine y3f ?_ _) | (with_reducible refine y4f ?_))); (case side2 => exact HC0_2.out); rintro e w12 ⟨rfl, hb⟩; refine ⟨_, rfl, ?_⟩; have n0_ := z0f (y5f (g := gb193) (o := .cells #[.int .i64 a0_0, .int .i64 a0_1, .slice A0_2 l0_2.length c0_2] 25 (0, 0)) (by (with_reducible repeat (first | refine z1f ?_ _ | refine z3f ?_ | refine z2f ?_ _)); exact BK193.out) hb); have n1_ := z0f (y5f (g := gb194) (o := .cells #[.int .i64 a1_0, .int .i64 a1_1, .slice A1_2 l1_2.length c1_2] 25 (0, 0)) (by (with_reducible repeat (first | refine z1f ?_ _ | refine z3f ?_ | refine z2f ?_ _)); exact BK194.out) hb); have n2_ := z0f (y6f (by repeat (first | (with_reducible first | exact HB.out | apply z4f | apply z5f | apply z6f | refine z7f ?_ GE193.out | refine z7f ?_ GE194.out) | exact HB.out)) hb); clear BK193; clear BK194; clear HB; have BK193 := n0_; have BK194 := n1_; have HB := n2_; clear n0_ n1_ n2_; (try clear hb); have hcz13_0 : w12.cell? ⟨gb194, 0, none⟩ = some (.int .i64 a1_0) := (x3f BK194.out 0).trans rfl; have hcz13_1 : w12.cell? ⟨gb194, 1, none⟩ = some (.int .i64 a1_1) := (x3f BK194.out 1).trans rfl; have hcz13_2 : w12.cell? ⟨gb194, 2, none⟩ = some (.slice A1_2 l1_2.length c1_2) := (x3f BK194.out 2).trans rfl; have hfz13_0 := x2f BK194.out 0; have hfz13_1 := x2f BK194.out 1; have hfz13_2 := x2f BK194.out 2) | (go_at_call 67; (with_reducible refine (impl_IsPicture.calls a1_0 a1_1 _ _ l1_2 true _ ?side1 ?side2 A5.out).mono ?_); (case side1 => repeat (first | exact HR1_2.out | exact (y9f HR1_2.out HB.out) | (with_reducible refine y2f ?_ _) | (with_reducible refine y3f ?_ _) | (with_reducible refine y4f ?_))); (case side2 => exact HC1_2.out); rintro e w14 ⟨rfl, hb⟩; have n0_ := z0f (y5f (g := gb193) (o := .cells #[.int .i64 a0_0, .int .i64 a0_1, .slice A0_2 l0_2.length c0_2] 25 (0, 0)) (by (with_reducible repeat (first | refine z1f ?_ _ | refine z3f ?_ | refine z2f ?_ _)); exact BK193.out) hb); have n1_ := z0f (y5f (g := gb194) (o := .cells #[.int .i64 a1_0, .int .i64 a1_1, .slice A1_2 l1_2.length c1_2] 25 (0, 0)) (by (with_reducible repeat (first | refine z1f ?_ _ | refine z3f ?_ | refine z2f ?_ _)); exact BK194.out) hb); have n2_ := z0f (y6f (by repeat (first | (with_reducible first | exact HB.out | apply z4f | apply z5f | apply z6f | refine z7f ?_ GE193.out | refine z7f ?_ GE194.out) | exact HB.out)) hb); clear BK193; clear BK194; clear HB; have BK193 := n0_; have BK194 := n1_; have HB := n2_; clear n0_ n1_ n2_; (try clear hb); have hcz15_0 : w14.cell? ⟨gb193, 0, none⟩ = some (.int .i64 a0_0) := (x3f BK193.out 0).trans rfl; have hcz15_1 : w14.cell? ⟨gb193, 1, none⟩ = some (.int .i64 a0_1) := (x3f BK193.out 1).trans rfl; have hcz15_2 : w14.cell? ⟨gb193, 2, none⟩ = some (.slice A0_2 l0_2.length c0_2) := (x3f BK193.out 2).trans rfl; have hfz15_0 := x2f BK193.out 0; have hfz15_1 := x2f BK193.out 1; have hfz15_2 := x2f BK193.out 2; have hcz16_0 : w14.cell? ⟨gb194, 0, none⟩ = some (.int .i64 a1_0) := (x3f BK194.out 0).trans rfl; have hcz16_1 : w14.cell? ⟨gb194, 1, none⟩ = some (.int .i64 a1_1) := (x3f BK194.out 1).trans rfl; have hcz16_2 : w14.cell? ⟨gb194, 2, none⟩ = some (.slice A1_2 l1_2.length c1_2) := (x3f BK194.out 2).trans rfl; have hfz16_0 := x2f BK194.out 0; have hfz16_1 := x2f BK194.out 1; have hfz16_2 := x2f BK194.out 2))
    go_ret
    exact ⟨by first | rfl | (simp [errW_none, errW_some] <;> rfl) | (simp [*, errW_none, errW_some] <;> rfl), by repeat (first | (with_reducible first | exact HB.out | apply z4f | apply z5f | apply z6f | refine z7f ?_ GE193.out | refine z7f ?_ GE194.out) | exact HB.out)⟩
   ·rw [if_neg c7] at H
    have c7b0 : (a0_0 == a1_0) = false := beq_eq_false_iff_ne.mpr c7
    have c7b1 : (a0_0 != a1_0) = true := bne_iff_ne.mpr c7
    obtain rfl := Option.some.inj H
    go_enter Try.func80, Try.ntmps80
    go_wp2_with (first | ((with_reducible refine gate_dst (N := 2) rfl ?_); refine box_event ?hg (N := 2) ?hd (cs := #[.int .i64 a0_0, .int .i64 a0_1, .slice A0_2 l0_2.length c0_2]) (t := 25) ?hr ?_; (case hd => rfl); (case hg => rfl); (case hr => first | (go_simp; done) | (go_simp; rfl)); intro gb193 hg w17 hbox hb; have n0_ := z0f (y6f (by repeat (first | (with_reducible first | exact HB.out | apply z4f | apply z5f | apply z6f) | exact HB.out)) hb); have n1_ := z0f (hbox); have n2_ := z0f ((by rw [hg]; exact (y7f (by repeat (first | (with_reducible first | exact HB.out | apply z4f | apply z5f | apply z6f) | exact HB.out))) : w.heap.size ≤ gb193)); have n3_ := z0f ((by rw [hg]; exact (y7f (by repeat (first | (with_reducible first | exact HB.out | apply z4f | apply z5f | apply z6f) | exact HB.out))) : w.heap.size ≤ gb193)); clear HB; have HB := n0_; have BK193 := n1_; have GW193 := n2_; have GE193 := n3_; clear n0_ n1_ n2_ n3_; clear hb hbox hg) | ((with_reducible refine gate_dst (N := 3) rfl ?_); refine box_event ?hg (N := 3) ?hd (cs := #[.int .i64 a1_0, .int .i64 a1_1, .slice A1_2 l1_2.length c1_2]) (t := 25) ?hr ?_; (case hd => rfl); (case hg => rfl); (case hr => first | (go_simp; done) | (go_simp; rfl)); intro gb194 hg w18 hbox hb; have n0_ := z0f (y5f (g := gb193) (o := .cells #[.int .i64 a0_0, .int .i64 a0_1, .slice A0_2 l0_2.length c0_2] 25 (0, 0)) (by (with_reducible repeat (first | refine z1f ?_ _ | refine z3f ?_ | refine z2f ?_ _)); exact BK193.out) hb); have n1_ := z0f (y6f (by repeat (first | (with_reducible first | exact HB.out | apply z4f | apply z5f | apply z6f | refine z7f ?_ GE193.out) | exact HB.out)) hb); have n2_ := z0f (hbox); have n3_ := z0f ((by rw [hg]; exact (y7f (by repeat (first | (with_reducible first | exact HB.out | apply z4f | apply z5f | apply z6f | refine z7f ?_ GE193.out) | exact HB.out))) : w.heap.size ≤ gb194)); have n4_ := z0f ((by rw [hg]; exact (y7f (by repeat (first | (with_reducible first | exact HB.out | apply z4f | apply z5f | apply z6f | refine z7f ?_ GE193.out) | exact HB.out))) : w.heap.size ≤ gb194)); have n5_ := z0f ((by rw [hg]; exact Nat.ne_of_lt (blk_lt (g := gb193) (o := .cells #[.int .i64 a0_0, .int .i64 a0_1, .slice A0_2 l0_2.length c0_2] 25 (0, 0)) (by (with_reducible repeat (first | refine z1f ?_ _ | refine z3f ?_ | refine z2f ?_ _)); exact BK193.out)) : gb193 ≠ gb194)); have n6_ := z0f ((by rw [hg]; exact Nat.ne_of_gt (blk_lt (g := gb193) (o := .cells #[.int .i64 a0_0, .int .i64 a0_1, .slice A0_2 l0_2.length c0_2] 25 (0, 0)) (by (with_reducible repeat (first | refine z1f ?_ _ | refine z3f ?_ | refine z2f ?_ _)); exact BK193.out)) : gb194 ≠ gb193)); clear BK193; clear HB; have BK193 := n0_; have HB := n1_; have BK194 := n2_; have GW194 := n3_; have GE194 := n4_; have NB193_194 := n5_; have NB194_193 := n6_; clear n0_ n1_ n2_ n3_ n4_ n5_ n6_; clear hb hbox hg; have hnb19 := NB193_194.out; have hnc19 := NB194_193.out; have hcz20_0 : w18.cell? ⟨gb193, 0, none⟩ = some (.int .i64 a0_0) := (x3f BK193.out 0).trans rfl; have hcz20_1 : w18.cell? ⟨gb193, 1, none⟩ = some (.int .i64 a0_1) := (x3f BK193.out 1).trans rfl; have hcz20_2 : w18.cell? ⟨gb193, 2, none⟩ = some (.slice A0_2 l0_2.length c0_2) := (x3f BK193.out 2).trans rfl; have hfz20_0 := x2f BK193.out 0; have hfz20_1 := x2f BK193.out 1; have hfz20_2 := x2f BK193.out 2) | ((with_reducible refine gate_callee (f := 67) rfl ?_); refine goesL_ (some 6) rfl rfl Try.func67 (by kernel_rfl) rfl #[.agg #[.int .i64 a0_0, .int .i64 a0_1, .slice A0_2 l0_2.length c0_2]] rfl (by (try simp only [List.map_toArray, List.map_cons, List.map_nil]); first | done | rfl | (simp only [List.length_drop, List.length_take]; rfl)) ?_; (with_reducible refine (impl_IsPicture.calls a0_0 a0_1 _ _ l0_2 true _ ?side1 ?side2 A3.out).mono ?_); (case side1 => repeat (first | exact HR0_2.out | exact (y9f HR0_2.out HB.out) | (with_reducible refine y2f ?_ _) | (with_reducible refine y3f ?_ _) | (with_reducible refine y4f ?_))); (case side2 => exact HC0_2.out); rintro e w21 ⟨rfl, hb⟩; refine ⟨_, rfl, ?_⟩; have n0_ := z0f (y5f (g := gb193) (o := .cells #[.int .i64 a0_0, .int .i64 a0_1, .slice A0_2 l0_2.length c0_2] 25 (0, 0)) (by (with_reducible repeat (first | refine z1f ?_ _ | refine z3f ?_ | refine z2f ?_ _)); exact BK193.out) hb); have n1_ := z0f (y5f (g := gb194) (o := .cells #[.int .i64 a1_0, .int .i64 a1_1, .slice A1_2 l1_2.length c1_2] 25 (0, 0)) (by (with_reducible repeat (first | refine z1f ?_ _ | refine z3f ?_ | refine z2f ?_ _)); exact BK194.out) hb); have n2_ := z0f (y6f (by repeat (first | (with_reducible first | exact HB.out | apply z4f | apply z5f | apply z6f | refine z7f ?_ GE193.out | refine z7f ?_ GE194.out) | exact HB.out)) hb); clear BK193; clear BK194; clear HB; have BK193 := n0_; have BK194 := n1_; have HB := n2_; clear n0_ n1_ n2_; (try clear hb); have hcz22_0 : w21.cell? ⟨gb194, 0, none⟩ = some (.int .i64 a1_0) := (x3f BK194.out 0).trans rfl; have hcz22_1 : w21.cell? ⟨gb194, 1, none⟩ = some (.int .i64 a1_1) := (x3f BK194.out 1).trans rfl; have hcz22_2 : w21.cell? ⟨gb194, 2, none⟩ = some (.slice A1_2 l1_2.length c1_2) := (x3f BK194.out 2).trans rfl; have hfz22_0 := x2f BK194.out 0; have hfz22_1 := x2f BK194.out 1; have hfz22_2 := x2f BK194.out 2) | (go_at_call 67; (with_reducible refine (impl_IsPicture.calls a1_0 a1_1 _ _ l1_2 true _ ?side1 ?side2 A5.out).mono ?_); (case side1 => repeat (first | exact HR1_2.out | exact (y9f HR1_2.out HB.out) | (with_reducible refine y2f ?_ _) | (with_reducible refine y3f ?_ _) | (with_reducible refine y4f ?_))); (case side2 => exact HC1_2.out); rintro e w23 ⟨rfl, hb⟩; have n0_ := z0f (y5f (g := gb193) (o := .cells #[.int .i64 a0_0, .int .i64 a0_1, .slice A0_2 l0_2.length c0_2] 25 (0, 0)) (by (with_reducible repeat (first | refine z1f ?_ _ | refine z3f ?_ | refine z2f ?_ _)); exact BK193.out) hb); have n1_ := z0f (y5f (g := gb194) (o := .cells #[.int .i64 a1_0, .int .i64 a1_1, .slice A1_2 l1_2.length c1_2] 25 (0, 0)) (by (with_reducible repeat (first | refine z1f ?_ _ | refine z3f ?_ | refine z2f ?_ _)); exact BK194.out) hb); have n2_ := z0f (y6f (by repeat (first | (with_reducible first | exact HB.out | apply z4f | apply z5f | apply z6f | refine z7f ?_ GE193.out | refine z7f ?_ GE194.out) | exact HB.out)) hb); clear BK193; clear BK194; clear HB; have BK193 := n0_; have BK194 := n1_; have HB := n2_; clear n0_ n1_ n2_; (try clear hb); have hcz24_0 : w23.cell? ⟨gb193, 0, none⟩ = some (.int .i64 a0_0) := (x3f BK193.out 0).trans rfl; have hcz24_1 : w23.cell? ⟨gb193, 1, none⟩ = some (.int .i64 a0_1) := (x3f BK193.out 1).trans rfl; have hcz24_2 : w23.cell? ⟨gb193, 2, none⟩ = some (.slice A0_2 l0_2.length c0_2) := (x3f BK193.out 2).trans rfl; have hfz24_0 := x2f BK193.out 0; have hfz24_1 := x2f BK193.out 1; have hfz24_2 := x2f BK193.out 2; have hcz25_0 : w23.cell? ⟨gb194, 0, none⟩ = some (.int .i64 a1_0) := (x3f BK194.out 0).trans rfl; have hcz25_1 : w23.cell? ⟨gb194, 1, none⟩ = some (.int .i64 a1_1) := (x3f BK194.out 1).trans rfl; have hcz25_2 : w23.cell? ⟨gb194, 2, none⟩ = some (.slice A1_2 l1_2.length c1_2) := (x3f BK194.out 2).trans rfl; have hfz25_0 := x2f BK194.out 0; have hfz25_1 := x2f BK194.out 1; have hfz25_2 := x2f BK194.out 2))
    go_ret
    exact ⟨by first | rfl | (simp [errW_none, errW_some] <;> rfl) | (simp [*, errW_none, errW_some] <;> rfl), by repeat (first | (with_reducible first | exact HB.out | apply z4f | apply z5f | apply z6f | refine z7f ?_ GE193.out | refine z7f ?_ GE194.out) | exact HB.out)⟩
  ·replace c6 := Bool.eq_false_iff.mpr c6
   subst c6
   have H1 : (some false) = some r := by rw [if_neg (show ¬ (false = true) by decide)] at H; first | exact H | (simp only [if_true] at H ⊢; exact H)
   clear H
   have H := H1
   clear H1
   obtain rfl := Option.some.inj H
   go_enter Try.func80, Try.ntmps80
   go_wp2_with (first | ((with_reducible refine gate_dst (N := 2) rfl ?_); refine box_event ?hg (N := 2) ?hd (cs := #[.int .i64 a0_0, .int .i64 a0_1, .slice A0_2 l0_2.length c0_2]) (t := 25) ?hr ?_; (case hd => rfl); (case hg => rfl); (case hr => first | (go_simp; done) | (go_simp; rfl)); intro gb193 hg w26 hbox hb; have n0_ := z0f (y6f (by repeat (first | (with_reducible first | exact HB.out | apply z4f | apply z5f | apply z6f) | exact HB.out)) hb); have n1_ := z0f (hbox); have n2_ := z0f ((by rw [hg]; exact (y7f (by repeat (first | (with_reducible first | exact HB.out | apply z4f | apply z5f | apply z6f) | exact HB.out))) : w.heap.size ≤ gb193)); have n3_ := z0f ((by rw [hg]; exact (y7f (by repeat (first | (with_reducible first | exact HB.out | apply z4f | apply z5f | apply z6f) | exact HB.out))) : w.heap.size ≤ gb193)); clear HB; have HB := n0_; have BK193 := n1_; have GW193 := n2_; have GE193 := n3_; clear n0_ n1_ n2_ n3_; clear hb hbox hg) | ((with_reducible refine gate_dst (N := 3) rfl ?_); refine box_event ?hg (N := 3) ?hd (cs := #[.int .i64 a1_0, .int .i64 a1_1, .slice A1_2 l1_2.length c1_2]) (t := 25) ?hr ?_; (case hd => rfl); (case hg => rfl); (case hr => first | (go_simp; done) | (go_simp; rfl)); intro gb194 hg w27 hbox hb; have n0_ := z0f (y5f (g := gb193) (o := .cells #[.int .i64 a0_0, .int .i64 a0_1, .slice A0_2 l0_2.length c0_2] 25 (0, 0)) (by (with_reducible repeat (first | refine z1f ?_ _ | refine z3f ?_ | refine z2f ?_ _)); exact BK193.out) hb); have n1_ := z0f (y6f (by repeat (first | (with_reducible first | exact HB.out | apply z4f | apply z5f | apply z6f | refine z7f ?_ GE193.out) | exact HB.out)) hb); have n2_ := z0f (hbox); have n3_ := z0f ((by rw [hg]; exact (y7f (by repeat (first | (with_reducible first | exact HB.out | apply z4f | apply z5f | apply z6f | refine z7f ?_ GE193.out) | exact HB.out))) : w.heap.size ≤ gb194)); have n4_ := z0f ((by rw [hg]; exact (y7f (by repeat (first | (with_reducible first | exact HB.out | apply z4f | apply z5f | apply z6f | refine z7f ?_ GE193.out) | exact HB.out))) : w.heap.size ≤ gb194)); have n5_ := z0f ((by rw [hg]; exact Nat.ne_of_lt (blk_lt (g := gb193) (o := .cells #[.int .i64 a0_0, .int .i64 a0_1, .slice A0_2 l0_2.length c0_2] 25 (0, 0)) (by (with_reducible repeat (first | refine z1f ?_ _ | refine z3f ?_ | refine z2f ?_ _)); exact BK193.out)) : gb193 ≠ gb194)); have n6_ := z0f ((by rw [hg]; exact Nat.ne_of_gt (blk_lt (g := gb193) (o := .cells #[.int .i64 a0_0, .int .i64 a0_1, .slice A0_2 l0_2.length c0_2] 25 (0, 0)) (by (with_reducible repeat (first | refine z1f ?_ _ | refine z3f ?_ | refine z2f ?_ _)); exact BK193.out)) : gb194 ≠ gb193)); clear BK193; clear HB; have BK193 := n0_; have HB := n1_; have BK194 := n2_; have GW194 := n3_; have GE194 := n4_; have NB193_194 := n5_; have NB194_193 := n6_; clear n0_ n1_ n2_ n3_ n4_ n5_ n6_; clear hb hbox hg; have hnb28 := NB193_194.out; have hnc28 := NB194_193.out; have hcz29_0 : w27.cell? ⟨gb193, 0, none⟩ = some (.int .i64 a0_0) := (x3f BK193.out 0).trans rfl; have hcz29_1 : w27.cell? ⟨gb193, 1, none⟩ = some (.int .i64 a0_1) := (x3f BK193.out 1).trans rfl; have hcz29_2 : w27.cell? ⟨gb193, 2, none⟩ = some (.slice A0_2 l0_2.length c0_2) := (x3f BK193.out 2).trans rfl; have hfz29_0 := x2f BK193.out 0; have hfz29_1 := x2f BK193.out 1; have hfz29_2 := x2f BK193.out 2) | ((with_reducible refine gate_callee (f := 67) rfl ?_); refine goesL_ (some 6) rfl rfl Try.func67 (by kernel_rfl) rfl #[.agg #[.int .i64 a0_0, .int .i64 a0_1, .slice A0_2 l0_2.length c0_2]] rfl (by (try simp only [List.map_toArray, List.map_cons, List.map_nil]); first | done | rfl | (simp only [List.length_drop, List.length_take]; rfl)) ?_; (with_reducible refine (impl_IsPicture.calls a0_0 a0_1 _ _ l0_2 true _ ?side1 ?side2 A3.out).mono ?_); (case side1 => repeat (first | exact HR0_2.out | exact (y9f HR0_2.out HB.out) | (with_reducible refine y2f ?_ _) | (with_reducible refine y3f ?_ _) | (with_reducible refine y4f ?_))); (case side2 => exact HC0_2.out); rintro e w30 ⟨rfl, hb⟩; refine ⟨_, rfl, ?_⟩; have n0_ := z0f (y5f (g := gb193) (o := .cells #[.int .i64 a0_0, .int .i64 a0_1, .slice A0_2 l0_2.length c0_2] 25 (0, 0)) (by (with_reducible repeat (first | refine z1f ?_ _ | refine z3f ?_ | refine z2f ?_ _)); exact BK193.out) hb); have n1_ := z0f (y5f (g := gb194) (o := .cells #[.int .i64 a1_0, .int .i64 a1_1, .slice A1_2 l1_2.length c1_2] 25 (0, 0)) (by (with_reducible repeat (first | refine z1f ?_ _ | refine z3f ?_ | refine z2f ?_ _)); exact BK194.out) hb); have n2_ := z0f (y6f (by repeat (first | (with_reducible first | exact HB.out | apply z4f | apply z5f | apply z6f | refine z7f ?_ GE193.out | refine z7f ?_ GE194.out) | exact HB.out)) hb); clear BK193; clear BK194; clear HB; have BK193 := n0_; have BK194 := n1_; have HB := n2_; clear n0_ n1_ n2_; (try clear hb); have hcz31_0 : w30.cell? ⟨gb194, 0, none⟩ = some (.int .i64 a1_0) := (x3f BK194.out 0).trans rfl; have hcz31_1 : w30.cell? ⟨gb194, 1, none⟩ = some (.int .i64 a1_1) := (x3f BK194.out 1).trans rfl; have hcz31_2 : w30.cell? ⟨gb194, 2, none⟩ = some (.slice A1_2 l1_2.length c1_2) := (x3f BK194.out 2).trans rfl; have hfz31_0 := x2f BK194.out 0; have hfz31_1 := x2f BK194.out 1; have hfz31_2 := x2f BK194.out 2) | (go_at_call 67; (with_reducible refine (impl_IsPicture.calls a1_0 a1_1 _ _ l1_2 false _ ?side1 ?side2 A5.out).mono ?_); (case side1 => repeat (first | exact HR1_2.out | exact (y9f HR1_2.out HB.out) | (with_reducible refine y2f ?_ _) | (with_reducible refine y3f ?_ _) | (with_reducible refine y4f ?_))); (case side2 => exact HC1_2.out); rintro e w32 ⟨rfl, hb⟩; have n0_ := z0f (y5f (g := gb193) (o := .cells #[.int .i64 a0_0, .int .i64 a0_1, .slice A0_2 l0_2.length c0_2] 25 (0, 0)) (by (with_reducible repeat (first | refine z1f ?_ _ | refine z3f ?_ | refine z2f ?_ _)); exact BK193.out) hb); have n1_ := z0f (y5f (g := gb194) (o := .cells #[.int .i64 a1_0, .int .i64 a1_1, .slice A1_2 l1_2.length c1_2] 25 (0, 0)) (by (with_reducible repeat (first | refine z1f ?_ _ | refine z3f ?_ | refine z2f ?_ _)); exact BK194.out) hb); have n2_ := z0f (y6f (by repeat (first | (with_reducible first | exact HB.out | apply z4f | apply z5f | apply z6f | refine z7f ?_ GE193.out | refine z7f ?_ GE194.out) | exact HB.out)) hb); clear BK193; clear BK194; clear HB; have BK193 := n0_; have BK194 := n1_; have HB := n2_; clear n0_ n1_ n2_; (try clear hb)))
   go_ret
   exact ⟨by first | rfl | (simp [errW_none, errW_some] <;> rfl) | (simp [*, errW_none, errW_some] <;> rfl), by repeat (first | (with_reducible first | exact HB.out | apply z4f | apply z5f | apply z6f | refine z7f ?_ GE193.out | refine z7f ?_ GE194.out) | exact HB.out)⟩
 ·replace c4 := Bool.eq_false_iff.mpr c4
  subst c4
  have H1 : (some false) = some r := by rw [if_neg (show ¬ (false = true) by decide)] at H; first | exact H | (simp only [if_true] at H ⊢; exact H)
  clear H
  have H := H1
  clear H1
  obtain rfl := Option.some.inj H
  go_enter Try.func80, Try.ntmps80
  go_wp2_with (first | ((with_reducible refine gate_dst (N := 2) rfl ?_); refine box_event ?hg (N := 2) ?hd (cs := #[.int .i64 a0_0, .int .i64 a0_1, .slice A0_2 l0_2.length c0_2]) (t := 25) ?hr ?_; (case hd => rfl); (case hg => rfl); (case hr => first | (go_simp; done) | (go_simp; rfl)); intro gb193 hg w33 hbox hb; have n0_ := z0f (y6f (by repeat (first | (with_reducible first | exact HB.out | apply z4f | apply z5f | apply z6f) | exact HB.out)) hb); have n1_ := z0f (hbox); have n2_ := z0f ((by rw [hg]; exact (y7f (by repeat (first | (with_reducible first | exact HB.out | apply z4f | apply z5f | apply z6f) | exact HB.out))) : w.heap.size ≤ gb193)); have n3_ := z0f ((by rw [hg]; exact (y7f (by repeat (first | (with_reducible first | exact HB.out | apply z4f | apply z5f | apply z6f) | exact HB.out))) : w.heap.size ≤ gb193)); clear HB; have HB := n0_; have BK193 := n1_; have GW193 := n2_; have GE193 := n3_; clear n0_ n1_ n2_ n3_; clear hb hbox hg) | ((with_reducible refine gate_dst (N := 3) rfl ?_); refine box_event ?hg (N := 3) ?hd (cs := #[.int .i64 a1_0, .int .i64 a1_1, .slice A1_2 l1_2.length c1_2]) (t := 25) ?hr ?_; (case hd => rfl); (case hg => rfl); (case hr => first | (go_simp; done) | (go_simp; rfl)); intro gb194 hg w34 hbox hb; have n0_ := z0f (y5f (g := gb193) (o := .cells #[.int .i64 a0_0, .int .i64 a0_1, .slice A0_2 l0_2.length c0_2] 25 (0, 0)) (by (with_reducible repeat (first | refine z1f ?_ _ | refine z3f ?_ | refine z2f ?_ _)); exact BK193.out) hb); have n1_ := z0f (y6f (by repeat (first | (with_reducible first | exact HB.out | apply z4f | apply z5f | apply z6f | refine z7f ?_ GE193.out) | exact HB.out)) hb); have n2_ := z0f (hbox); have n3_ := z0f ((by rw [hg]; exact (y7f (by repeat (first | (with_reducible first | exact HB.out | apply z4f | apply z5f | apply z6f | refine z7f ?_ GE193.out) | exact HB.out))) : w.heap.size ≤ gb194)); have n4_ := z0f ((by rw [hg]; exact (y7f (by repeat (first | (with_reducible first | exact HB.out | apply z4f | apply z5f | apply z6f | refine z7f ?_ GE193.out) | exact HB.out))) : w.heap.size ≤ gb194)); have n5_ := z0f ((by rw [hg]; exact Nat.ne_of_lt (blk_lt (g := gb193) (o := .cells #[.int .i64 a0_0, .int .i64 a0_1, .slice A0_2 l0_2.length c0_2] 25 (0, 0)) (by (with_reducible repeat (first | refine z1f ?_ _ | refine z3f ?_ | refine z2f ?_ _)); exact BK193.out)) : gb193 ≠ gb194)); have n6_ := z0f ((by rw [hg]; exact Nat.ne_of_gt (blk_lt (g := gb193) (o := .cells #[.int .i64 a0_0, .int .i64 a0_1, .slice A0_2 l0_2.length c0_2] 25 (0, 0)) (by (with_reducible repeat (first | refine z1f ?_ _ | refine z3f ?_ | refine z2f ?_ _)); exact BK193.out)) : gb194 ≠ gb193)); clear BK193; clear HB; have BK193 := n0_; have HB := n1_; have BK194 := n2_; have GW194 := n3_; have GE194 := n4_; have NB193_194 := n5_; have NB194_193 := n6_; clear n0_ n1_ n2_ n3_ n4_ n5_ n6_; clear hb hbox hg; have hnb35 := NB193_194.out; have hnc35 := NB194_193.out; have hcz36_0 : w34.cell? ⟨gb193, 0, none⟩ = some (.int .i64 a0_0) := (x3f BK193.out 0).trans rfl; have hcz36_1 : w34.cell? ⟨gb193, 1, none⟩ = some (.int .i64 a0_1) := (x3f BK193.out 1).trans rfl; have hcz36_2 : w34.cell? ⟨gb193, 2, none⟩ = some (.slice A0_2 l0_2.length c0_2) := (x3f BK193.out 2).trans rfl; have hfz36_0 := x2f BK193.out 0; have hfz36_1 := x2f BK193.out 1; have hfz36_2 := x2f BK193.out 2) | ((with_reducible refine gate_callee (f := 67) rfl ?_); refine goesL_ (some 6) rfl rfl Try.func67 (by kernel_rfl) rfl #[.agg #[.int .i64 a0_0, .int .i64 a0_1, .slice A0_2 l0_2.length c0_2]] rfl (by (try simp only [List.map_toArray, List.map_cons, List.map_nil]); first | done | rfl | (simp only [List.length_drop, List.length_take]; rfl)) ?_; (with_reducible refine (impl_IsPicture.calls a0_0 a0_1 _ _ l0_2 false _ ?side1 ?side2 A3.out).mono ?_); (case side1 => repeat (first | exact HR0_2.out | exact (y9f HR0_2.out HB.out) | (with_reducible refine y2f ?_ _) | (with_reducible refine y3f ?_ _) | (with_reducible refine y4f ?_))); (case side2 => exact HC0_2.out); rintro e w37 ⟨rfl, hb⟩; refine ⟨_, rfl, ?_⟩; have n0_ := z0f (y5f (g := gb193) (o := .cells #[.int .i64 a0_0, .int .i64 a0_1, .slice A0_2 l0_2.length c0_2] 25 (0, 0)) (by (with_reducible repeat (first | refine z1f ?_ _ | refine z3f ?_ | refine z2f ?_ _)); exact BK193.out) hb); have n1_ := z0f (y5f (g := gb194) (o := .cells #[.int .i64 a1_0, .int .i64 a1_1, .slice A1_2 l1_2.length c1_2] 25 (0, 0)) (by (with_reducible repeat (first | refine z1f ?_ _ | refine z3f ?_ | refine z2f ?_ _)); exact BK194.out) hb); have n2_ := z0f (y6f (by repeat (first | (with_reducible first | exact HB.out | apply z4f | apply z5f | apply z6f | refine z7f ?_ GE193.out | refine z7f ?_ GE194.out) | exact HB.out)) hb); clear BK193; clear BK194; clear HB; have BK193 := n0_; have BK194 := n1_; have HB := n2_; clear n0_ n1_ n2_; (try clear hb)))
  go_ret
  exact ⟨by first | rfl | (simp [errW_none, errW_some] <;> rfl) | (simp [*, errW_none, errW_some] <;> rfl), by repeat (first | (with_reducible first | exact HB.out | apply z4f | apply z5f | apply z6f | refine z7f ?_ GE193.out | refine z7f ?_ GE194.out) | exact HB.out)⟩

end Go.Proofs.Ytheihidfbalioaa.PFnExactDeskOk
