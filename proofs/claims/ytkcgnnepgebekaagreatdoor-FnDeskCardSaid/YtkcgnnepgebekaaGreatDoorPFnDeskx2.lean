/- Machine side of laws FnDesk: written for this claim by the kit's print program under this session's wip/tools/mp_setup.py (with contracts of the session's own, wip/ext). -/
import Derived.Test.YtkcgnnepgebekaaGreatDoorPFnDeskx0
import Derived.Test.YtkcgnnepgebekaaGreatDoorPFnDeskx1
namespace Go.Proofs.YtkcgnnepgebekaaGreatDoor.PFnDesk
open Go.RowKit Go.Proofs.YtkcgnnepgebekaaGreatDoorW.PrintWords Go.Proofs.YtkcgnnepgebekaaGreatDoorW.PrintLast Go.Proofs.YtkcgnnepgebekaaGreatDoorW.PrintMore
attribute [local go_sem] max2_int min2_int max_two min_two max_three min_three max_four min_four   -- for this text's walks alone
set_option linter.unusedVariables false
set_option linter.unusedSimpArgs false
-- squeezed: words under short names
set_option linter.defProp false in
def z0c := @Aside0.mk
set_option linter.defProp false in
def z1c := @blk_drewN
set_option linter.defProp false in
def z2c := @blk_alloc
set_option linter.defProp false in
def z3c := @blk_drew
set_option linter.defProp false in
def y2c := @Kd.C_alloc
set_option linter.defProp false in
def y3c := @Kd.C_drewN
set_option linter.defProp false in
def y4c := @Kd.C_drew
set_option linter.defProp false in
def x2c := @blk_frozen
set_option linter.defProp false in
def x3c := @blk_cell
def bsc_ (n m : Nat) : Array Bool := ((List.range n).map fun i => m.testBit i).toArray
theorem s1c_ {α : Type} (l : List α) (i : Nat) (a : α) : l.toArray.setIfInBounds i a = (l.set i a).toArray := List.setIfInBounds_toArray l i a
theorem s2c_ {α : Type} (a b : α) (l : List α) : (a :: l).set 0 b = b :: l := rfl
theorem s3c_ {α : Type} (a b : α) (n : Nat) (l : List α) : (a :: l).set (n + 1) b = a :: l.set n b := rfl

mutual
def impl_ranked.l0 (AT : Int → Int → Option Int) : Nat → Int → Int → Int → Int → Int → List Int → Option (Int × Int × List Int)
 | 0, _, _, _, _, _, _ => none
 | k + 1, x0, x13, x14, x125000, x125001, x125002 => if x14 < x13 then (impl_ranked.l1 AT k x0 x14 x13 x14 x0 0 x125000 x125001 x125002) else (some (x125000, x125001, x125002))
def impl_ranked.l1 (AT : Int → Int → Option Int) : Nat → Int → Int → Int → Int → Int → Int → Int → Int → List Int → Option (Int × Int × List Int)
 | 0, _, _, _, _, _, _, _, _, _ => none
 | k + 1, x0, x8, x13, x14, x17, x18, x125000, x125001, x125002 => if x18 < x17 then ((AT x18 x8).bind fun t125 => (if x125002.length < 17592186044416 then (impl_ranked.l1 AT k x0 x8 x13 x14 x17 (wrap64 (x18 + 1)) x125000 x125001 (x125002 ++ [t125])) else (none))) else (impl_ranked.l0 AT k x0 x13 (wrap64 (x14 + 1)) x125000 x125001 x125002)
end
def impl_ranked.f (AT : Int → Int → Option Int) (k : Nat) (a0 : Int) (a1 : Int)  : Option (Int × Int × List Int) := impl_ranked.l0 AT k a0 a1 0 a0 a1 ([] : List Int)
def impl_ranked.T8 : Bool × List (List Nat × List Nat) := (true, [([], []), ([0], [0]), ([], []), ([], []), ([], []), ([2, 3, 4], [2, 3, 4]), ([5], [5]), ([1, 6, 5], [1, 6]), ([0, 1, 2, 3, 4, 5, 6, 7], []), ([8, 7, 7, 0, 1, 2, 3, 4, 5, 6, 7], [7, 8])])
def impl_ranked.B8 : List Nat := [0, 1, 0, 0, 0, 28, 60, 127, 255, 511]
theorem impl_ranked.tab8 : rtab .any (opsOf Tryz.f30 8) = impl_ranked.T8 := by kernel_rfl
theorem impl_ranked.bits8 : waitsOk impl_ranked.T8.2 impl_ranked.B8 = true := by kernel_rfl
set_option maxHeartbeats 8000000 in
set_option maxRecDepth 100000 in
theorem impl_ranked.calls (k : Nat) (a0 : Int) (a1 : Int) (AT : Int → Int → Option Int) (gF : Nat) (lbF : Array Value) (r1 : Int) (r2 : Int) (r3 : List Int) (w : World) (eF : ∀ args w, (callFunc gF args).run Tryz.prog w = .ok (.enter gF args) w) (hAT : ∀ (x y : Int) (r : Int) (W : World), Below w.heap.size w W → AT x y = some r → Calls Tryz.prog gF (#[.int .i64 x, .int .i64 y] ++ lbF) W fun e w' => e = .returned (.int .i64 r) ∧ Below W.heap.size W w') (h : impl_ranked.f AT k a0 a1  = some (r1, r2, r3)) :
  Calls Tryz.prog 30 #[.int .i64 a0, .int .i64 a1, .func (.func gF) #[] lbF] w fun e w' => ∃ v2_ : Value, e = .returned (.agg #[.int .i64 r1, .int .i64 r2, v2_]) ∧ Kd.R (Kd.int .i64) 3 w' w.heap.size (fun _ => True) v2_ r3 ∧ Below w.heap.size w w' := by
 have HEF := z0c eF
 have HAT := z0c hAT
 clear eF hAT
 have hu31 := Tryz.underlying31
 have HB := z0c (Below.refl w.heap.size w)
 have H := h
 unfold impl_ranked.f at H
 clear h
 have H' := z0c H
 clear H
 go_enter Tryz.func30, Tryz.ntmps30
 go_wp2_with (first | ((with_reducible refine gate_dst (N := 6) rfl ?_); refine box_event rfl (N := 6) rfl (cs := #[.int .i64 0, .int .i64 0, .slice none 0 0]) (t := 31) (by first | (go_simp; done) | (go_simp; rfl)) ?_; intro gb123 hg w4 hbox hb; have n_ := a4 (dU HB.out hb) (hbox) (gE hg HB.out) (gE hg HB.out); clear HB; obtain ⟨HB, BK123, GW123, GE123⟩ := n_; have gi_123 := GEc.mk GE123.out; clear hb hbox hg) | ((with_reducible refine gate_dst (N := 7) rfl ?_); refine box_event rfl (N := 7) rfl (cs := #[.int .i64 0, .int .i64 0, .slice none 0 0]) (t := 31) (by first | (go_simp; done) | (go_simp; rfl)) ?_; intro gb124 hg w5 hbox hb; have n_ := a7 (bU BK123.out hb) (dU HB.out hb) (hbox) (gE hg HB.out) (gE hg HB.out) (nL hg BK123.out) (nG hg BK123.out); clear BK123 HB; obtain ⟨BK123, HB, BK124, GW124, GE124, NB123_124, NB124_123⟩ := n_; have gi_124 := GEc.mk GE124.out; clear hb hbox hg; have hnb6 := NB124_123.out; have hnc6 := NB123_124.out; have hcz7_0 : w5.cell? ⟨gb124, 0, none⟩ = some (.int .i64 0) := (x3c BK124.out 0).trans rfl; have hcz7_1 : w5.cell? ⟨gb124, 1, none⟩ = some (.int .i64 0) := (x3c BK124.out 1).trans rfl; have hcz7_2 : w5.cell? ⟨gb124, 2, none⟩ = some (.slice none 0 0) := (x3c BK124.out 2).trans rfl; have hfz7_0 := x2c BK124.out 0; have hfz7_1 := x2c BK124.out 1; have hfz7_2 := x2c BK124.out 2))
 go_loopg [14] k (fun kq v14 w' => ∃ (x14_1 : Int) (x125002_1 : List Int) (u125002 : Value), v14 = .int .i64 x14_1 ∧ Aside0 (impl_ranked.l0 AT kq a0 a1 x14_1 a0 a1 x125002_1 = some (r1, r2, r3)) ∧ Aside0 (kq ≤ k) ∧ Aside0 (Kd.R (Kd.int .i64) 3 w' w.heap.size (fun _ => True) u125002 x125002_1) ∧ Aside0 (w'.heap[gb123]? = some (.cells #[.int .i64 0, .int .i64 0, (.slice none 0 0)] 31 (0, 0))) ∧ Aside0 (w'.heap[gb124]? = some (.cells #[.int .i64 a0, .int .i64 a1, u125002] 31 (0, 0))) ∧ Aside0 (Below w.heap.size w w'))
 case atStart => exact ⟨(0), (([] : List Int)), (.slice none 0 0), (by first | rfl | (simp; done) | (simp [*]; done)), H', ⟨Nat.le_refl _⟩, ⟨by first | exact Kd.R_nil _ _ _ _ _ | exact Kd.N_nil _ _ _ _ _ | exact Kd.V_nil _ _ _ _ _ | exact Kd.Q_nil _ _ _ _ _ | exact Kd.S_nil _ _ _ _ _⟩, ⟨by (with_reducible repeat (first | refine z1c ?_ _ | refine z3c ?_ | refine z2c ?_ _)); refine blk_far ?_ NB123_124.out _; (with_reducible repeat (first | refine z1c ?_ _ | refine z3c ?_ | refine z2c ?_ _)); refine blk_far ?_ NB123_124.out _; (with_reducible repeat (first | refine z1c ?_ _ | refine z3c ?_ | refine z2c ?_ _)); refine blk_far ?_ NB123_124.out _; (with_reducible repeat (first | refine z1c ?_ _ | refine z3c ?_ | refine z2c ?_ _)); exact BK123.out⟩, ⟨by (with_reducible repeat (first | refine z1c ?_ _ | refine z3c ?_ | refine z2c ?_ _)); refine blk_put (cs := #[.int .i64 a0, .int .i64 a1, .slice none 0 0]) ?_ 2 _ rfl; (with_reducible repeat (first | refine z1c ?_ _ | refine z3c ?_ | refine z2c ?_ _)); refine blk_put (cs := #[.int .i64 a0, .int .i64 0, .slice none 0 0]) ?_ 1 _ rfl; (with_reducible repeat (first | refine z1c ?_ _ | refine z3c ?_ | refine z2c ?_ _)); refine blk_put (cs := #[.int .i64 0, .int .i64 0, .slice none 0 0]) ?_ 0 _ rfl; (with_reducible repeat (first | refine z1c ?_ _ | refine z3c ?_ | refine z2c ?_ _)); exact BK124.out⟩, ⟨dV HB.out⟩⟩
 case round =>
  clear H'
  try clear p2
  try clear c3
  try clear c6
  try clear hcz7_0
  try clear hcz7_1
  try clear hcz7_2
  try clear hfz7_0
  try clear hfz7_1
  try clear hfz7_2
  obtain ⟨x14_1, x125002_1, u125002, rfl, HA, HK1, Ha_, BK123, BK124, HB⟩ := hrel
  cases gk with
  | zero => exact absurd HA.out (by simp [impl_ranked.l0])
  | succ k1 =>
   have H := HA.out
   clear HA
   simp only [impl_ranked.l0] at H
   by_cases c8 : x14_1 < a1
   ·rw [if_pos c8] at H
    have c8b0 : decide (x14_1 < a1) = true := decide_eq_true c8
    clear c8
    have H' := z0c H
    clear H
    go_wp2
    go_loopg [18] k1 (fun kq v18 w' => ∃ (x18_2 : Int) (x125002_2 : List Int) (u125002 : Value), v18 = .int .i64 x18_2 ∧ Aside0 (impl_ranked.l1 AT kq a0 x14_1 a1 x14_1 a0 x18_2 a0 a1 x125002_2 = some (r1, r2, r3)) ∧ Aside0 (kq ≤ k1) ∧ Aside0 (Kd.R (Kd.int .i64) 3 w' w.heap.size (fun _ => True) u125002 x125002_2) ∧ Aside0 (w'.heap[gb123]? = some (.cells #[.int .i64 0, .int .i64 0, (.slice none 0 0)] 31 (0, 0))) ∧ Aside0 (w'.heap[gb124]? = some (.cells #[.int .i64 a0, .int .i64 a1, u125002] 31 (0, 0))) ∧ Aside0 (Below w.heap.size w w'))
    case atStart => exact ⟨(0), (x125002_1), (u125002), (by first | rfl | (simp; done) | (simp [*]; done)), H', ⟨Nat.le_refl _⟩, ⟨by (with_reducible repeat (first | apply Kd.R_alloc | apply Kd.R_drewN | apply Kd.R_drew)); exact Ha_.out⟩, ⟨by (with_reducible repeat (first | refine z1c ?_ _ | refine z3c ?_ | refine z2c ?_ _)); exact BK123.out⟩, ⟨by (with_reducible repeat (first | refine z1c ?_ _ | refine z3c ?_ | refine z2c ?_ _)); exact BK124.out⟩, ⟨dV HB.out⟩⟩
    case round =>
     clear H'
     try clear p2
     try clear c3
     try clear c6
     try clear c8
     try clear c8b0
     try clear hcz7_0
     try clear hcz7_1
     try clear hcz7_2
     try clear hfz7_0
     try clear hfz7_1
     try clear hfz7_2
     try clear p2
     obtain ⟨x18_2, x125002_2, u125002, rfl, HA, HK2, Ha_, BK123, BK124, HB⟩ := hrel
     cases gk with
     | zero => exact absurd HA.out (by simp [impl_ranked.l1])
     | succ k2 =>
      have H := HA.out
      clear HA
      simp only [impl_ranked.l1] at H
      by_cases c9 : x18_2 < a0
      ·rw [if_pos c9] at H
       have c9b0 : decide (x18_2 < a0) = true := decide_eq_true c9
       clear c9
       replace H := Option.bind_eq_some_iff.mp H
       obtain ⟨t125, A100, H⟩ := H
       (try dsimp only at H)
       have A10 := z0c A100
       clear A100
       by_cases c11 : x125002_2.length < 17592186044416
       ·rw [if_pos c11] at H
        have LMc11 := z0c c11
        clear c11
        obtain ⟨y126, hy126⟩ : ∃ y_ : List Int, y_ = (x125002_2 ++ [t125]) := ⟨_, rfl⟩
        replace H : (impl_ranked.l1 AT k2 a0 x14_1 a1 x14_1 a0 (wrap64 (x18_2 + 1)) a0 a1 y126) = some (r1, r2, r3) := by first | (rw [hy126]; with_reducible exact H) | (have H2_ := (Option.bind_some _ _).symm.trans H; rw [hy126]; with_reducible exact H2_) | (have H2_ := (Option.bind_some _ _).symm.trans H; with_reducible exact H2_) | with_reducible exact H | (rw [hy126]; exact H) | exact H
        have Ny126 := z0c hy126
        clear hy126
        have H' := z0c H
        clear H
        try go_wp2
        have n_ := a4 (Kd.R_drew Ha_.out) (z3c BK123.out) (z3c BK124.out) (below_drew1 HB.out); clear Ha_ BK123 BK124 HB; obtain ⟨Ha_, BK123, BK124, HB⟩ := n_
        refine start_ (n := 10) (S := fun w' => w'.cell? ⟨gb124, 0, none⟩ = some (.int .i64 a0) ∧ w'.cell? ⟨gb124, 1, none⟩ = some (.int .i64 a1) ∧ w'.cell? ⟨gb124, 2, none⟩ = some (u125002)) (ds := [9]) (bsc_ 10 0) (by kernel_rfl) rfl rfl ⟨(x3c BK124.out 0).trans rfl, (x3c BK124.out 1).trans rfl, (x3c BK124.out 2).trans rfl⟩ (fun hHeld => ?_); refine with_tabW impl_ranked.tab8 impl_ranked.bits8 (fun HT_ HW_ => ?_)
        generalize wr.drew = w12 at Ha_ BK123 BK124 HB hHeld ⊢
        refine pz 0 (some 21) ?_ (bsc_ 10 1) rfl rfl HT_.out (by kernel_rfl) (fun _ _ _ h => h) (Or.inl ⟨by rfl, ?_⟩) ?_ ?_ ?_
        rotate_left
        ·intro w'
         go_simp
         with_reducible rfl
        rotate_left
        ·simp only [Act.put, s1c_, s2c_, s3c_, i64_w, i32_w]
         rfl
        refine pz 2 (some 23) ?_ (bsc_ 10 5) rfl rfl HT_.out (by kernel_rfl) (fun _ _ _ h => h) (Or.inl ⟨by rfl, ?_⟩) ?_ ?_ ?_
        rotate_left
        ·intro w'
         go_simp
         with_reducible rfl
        rotate_left
        ·simp only [Act.put, s1c_, s2c_, s3c_, i64_w, i32_w]
         rfl
        refine pz 3 (some 24) ?_ (bsc_ 10 13) rfl rfl HT_.out (by kernel_rfl) (fun _ _ _ h => h) (Or.inl ⟨by rfl, ?_⟩) ?_ ?_ ?_
        rotate_left
        ·intro w'
         go_simp
         with_reducible rfl
        rotate_left
        ·simp only [Act.put, s1c_, s2c_, s3c_, i64_w, i32_w]
         rfl
        refine pz 4 (some 25) ?_ (bsc_ 10 29) rfl rfl HT_.out (by kernel_rfl) (fun _ _ _ h => h) (Or.inl ⟨by rfl, ?_⟩) ?_ ?_ ?_
        rotate_left
        ·intro w'
         go_simp
         with_reducible rfl
        rotate_left
        ·simp only [Act.put, s1c_, s2c_, s3c_, i64_w, i32_w]
         rfl
        refine take_ (i := 1) (N := some 22) (v := ?_) (a' := ?_) (bsc_ 10 31) rfl rfl (take_ofW HT_.out HW_.out (by kernel_rfl)) (fun _ _ _ h => h) (Or.inl ⟨by rfl, ?_⟩) hHeld ?_ ?_
        rotate_left
        ·rintro w' ⟨s0, s1, s2⟩
         go_simp
         with_reducible rfl
        rotate_left
        ·simp only [Act.put, s1c_, s2c_, s3c_, i64_w, i32_w]
         rfl
        refine one_ (i := 5) (N := some 26) (bsc_ 10 63) rfl rfl (one_of HT_.out (by kernel_rfl)) (by decide) (fun K hK => ?_)
        refine Ext.goesV_ HEF.out #[.int .i64 x18_2, .int .i64 x14_1] (by rfl) rfl rfl rfl (by (try simp only [List.map_toArray, List.map_cons, List.map_nil]); first | done | rfl | (simp only [List.length_drop, List.length_take]; rfl)) ?_
        with_reducible refine (HAT.out x18_2 x14_1 t125 _ (dV HB.out) A10.out).mono ?_
        rintro e w13 ⟨rfl, hb⟩
        refine ⟨_, rfl, ?_⟩
        have n_ := a4 (Kd.R_below (rV Ha_.out) hb) (bU BK123.out hb) (bU BK124.out hb) (dU HB.out hb); clear Ha_ BK123 BK124 HB; obtain ⟨Ha_, BK123, BK124, HB⟩ := n_
        (try clear hb)
        refine hK.out _ _ ⟨(x3c BK124.out 0).trans rfl, (x3c BK124.out 1).trans rfl, (x3c BK124.out 2).trans rfl⟩ (fun hHeld => ?_)
        clear hK K
        refine norm_ (a' := ?_) ?_ ?_
        rotate_left
        ·show Act.put _ (some 26) _ = _
         simp only [Act.put, s1c_, s2c_, s3c_, i64_w, i32_w]
         rfl
        refine one_ (i := 6) (N := some 27) (bsc_ 10 127) rfl rfl (one_of HT_.out (by kernel_rfl)) (by decide) (fun K hK => ?_)
        refine value_ (w1 := ?_) (v := ?_) (by rfl) rfl ?_ ?_
        rotate_left 2
        ·go_simp
         constructor
         ·rfl
         ·rfl
        refine hK.out _ _ ⟨(x3c (z2c BK124.out _) 0).trans rfl, (x3c (z2c BK124.out _) 1).trans rfl, (x3c (z2c BK124.out _) 2).trans rfl⟩ (fun hHeld => ?_)
        clear hK K
        refine norm_ (a' := ?_) ?_ ?_
        rotate_left
        ·show Act.put _ (some 27) _ = _
         simp only [Act.put, s1c_, s2c_, s3c_, i64_w, i32_w]
         rfl
        refine one_ (i := 7) (N := some 28) (bsc_ 10 255) rfl rfl (one_of HT_.out (by kernel_rfl)) (by decide) (fun K hK => ?_)
        refine Kd.R_append_step (Kd.int .i64) (w0 := w) w.heap.size (by rfl) (.tmp 22) (.tmp 27) 25 3 (.int .i64 0) 8 rfl Tryz.underlying25 info3 rfl (by decide) (by omega) u125002 x125002_2 t125 [.int .i64 t125] (fun _ => True) (fun _ => False) rfl rfl ?aP (fun _ hk => hk.elim) ?aF ?aO ?aB ?aS ?aL ?_
        (case aP => exact rfl)
        (case aB => exact (dV HB.out))
        (case aF => exact (fun _ _ => trivial))
        (case aO => exact (rV Ha_.out))
        (case aS => exact (below_size (dV HB.out)))
        (case aL => have := LMc11.out; omega)
        intro v127 w14 ho hb hg hat
        rw [← Ny126.out] at ho
        have n_ := a4 (blk_grown (bV BK123.out) hg (Kd.R_ne Ha_.out BK123.out (by decide))) (blk_grown (bV BK124.out) hg (Kd.R_ne Ha_.out BK124.out (by decide))) (hb) (ho); clear BK123 BK124 HB Ha_; obtain ⟨BK123, BK124, HB, HO128⟩ := n_
        clear ho hb hg hat
        obtain ⟨Ao15, co15, eo15⟩ := Kd.R_slice HO128.out
        (first | subst eo15 | (injection eo15 with f1_ f2_ f3_; have f4_ := f1_.symm; have f5_ := f3_.symm; clear f1_ f2_ f3_; subst f4_; subst f5_))
        refine hK.out _ _ ⟨(x3c BK124.out 0).trans rfl, (x3c BK124.out 1).trans rfl, (x3c BK124.out 2).trans rfl⟩ (fun hHeld => ?_)
        clear hK K
        refine norm_ (a' := ?_) ?_ ?_
        rotate_left
        ·show Act.put _ (some 28) _ = _
         simp only [Act.put, s1c_, s2c_, s3c_, i64_w, i32_w]
         rfl
        refine pz 8 (some 29) ?_ (bsc_ 10 511) rfl rfl HT_.out (by kernel_rfl) (fun _ _ _ h => h) (Or.inl ⟨by rfl, ?_⟩) ?_ ?_ ?_
        rotate_left
        ·intro w'
         go_simp
         with_reducible rfl
        rotate_left
        ·simp only [Act.put, s1c_, s2c_, s3c_, i64_w, i32_w]
         rfl
        refine last_ (i := 9) (N := none) (bsc_ 10 1023) rfl rfl (one_of HT_.out (by kernel_rfl)) (by decide) (fun K hK => ?_)
        have hs16 : w14.cell? ⟨gb124, 2, none⟩ = some (u125002) := (x3c BK124.out 2).trans rfl
        have hfs16 := x2c BK124.out 2
        have hns16_0 := NB123_124.out
        have hms16_0 := NB124_123.out
        refine skip_ (w1 := ?_) (by rfl) rfl ?_ ?_
        rotate_left
        ·go_simp
         rfl
        refine hK.out _ _ ?_
        clear hK K
        refine done_ (done_of HT_.out (by kernel_rfl)) ?_
        try go_wp2
        go_roundg k2
        case measure => have := HK1.out; have := HK2.out; omega
        case rel => exact ⟨(wrap64 (x18_2 + 1)), (y126), (.slice Ao15 y126.length co15), (by first | rfl | (simp; done) | (simp [*]; done)), H', ⟨by have := HK1.out; have := HK2.out; omega⟩, ⟨by (with_reducible repeat (first | apply Kd.R_alloc | apply Kd.R_drewN | apply Kd.R_drew)); exact Kd.R_mono (Kd.R_far (p := ⟨gb124, 2, none⟩) (Kd.R_types HO128.out BK124.out (by decide)) (fun _ hk => hk.2) (.slice Ao15 y126.length co15)) (fun _ hk => trivial)⟩, ⟨by (with_reducible repeat (first | refine z1c ?_ _ | refine z3c ?_ | refine z2c ?_ _)); refine blk_far ?_ NB123_124.out _; (with_reducible repeat (first | refine z1c ?_ _ | refine z3c ?_ | refine z2c ?_ _)); exact BK123.out⟩, ⟨by (with_reducible repeat (first | refine z1c ?_ _ | refine z3c ?_ | refine z2c ?_ _)); refine blk_put (cs := #[.int .i64 a0, .int .i64 a1, u125002]) ?_ 2 _ rfl; (with_reducible repeat (first | refine z1c ?_ _ | refine z3c ?_ | refine z2c ?_ _)); exact BK124.out⟩, ⟨dV HB.out⟩⟩
       ·rw [if_neg c11] at H
        exact absurd H (by simp)
      ·rw [if_neg c9] at H
       have c9b0 : decide (x18_2 < a0) = false := decide_eq_false c9
       clear c9
       have H' := z0c H
       clear H
       go_wp2
       go_roundg k2
       case measure => have := HK1.out; have := HK2.out; omega
       case rel => exact ⟨(wrap64 (x14_1 + 1)), (x125002_2), (u125002), (by first | rfl | (simp; done) | (simp [*]; done)), H', ⟨by have := HK1.out; have := HK2.out; omega⟩, ⟨by (with_reducible repeat (first | apply Kd.R_alloc | apply Kd.R_drewN | apply Kd.R_drew)); exact Ha_.out⟩, ⟨by (with_reducible repeat (first | refine z1c ?_ _ | refine z3c ?_ | refine z2c ?_ _)); exact BK123.out⟩, ⟨by (with_reducible repeat (first | refine z1c ?_ _ | refine z3c ?_ | refine z2c ?_ _)); exact BK124.out⟩, ⟨dV HB.out⟩⟩
   ·rw [if_neg c8] at H
    have c8b0 : decide (x14_1 < a1) = false := decide_eq_false c8
    clear c8
    simp only [Option.some.injEq, Prod.mk.injEq] at H
    obtain ⟨rfl, rfl, rfl⟩ := H
    have hnb17 := NB124_123.out
    have hnc17 := NB123_124.out
    have hcz18_0 : wr.cell? ⟨gb124, 0, none⟩ = some (.int .i64 a0) := (x3c BK124.out 0).trans rfl
    have hcz18_1 : wr.cell? ⟨gb124, 1, none⟩ = some (.int .i64 a1) := (x3c BK124.out 1).trans rfl
    have hcz18_2 : wr.cell? ⟨gb124, 2, none⟩ = some (u125002) := (x3c BK124.out 2).trans rfl
    have hfz18_0 := x2c BK124.out 0
    have hfz18_1 := x2c BK124.out 1
    have hfz18_2 := x2c BK124.out 2
    have hcz19_0 : wr.cell? ⟨gb123, 0, none⟩ = some (.int .i64 0) := (x3c BK123.out 0).trans rfl
    have hcz19_1 : wr.cell? ⟨gb123, 1, none⟩ = some (.int .i64 0) := (x3c BK123.out 1).trans rfl
    have hcz19_2 : wr.cell? ⟨gb123, 2, none⟩ = some (.slice none 0 0) := (x3c BK123.out 2).trans rfl
    have hfz19_0 := x2c BK123.out 0
    have hfz19_1 := x2c BK123.out 1
    have hfz19_2 := x2c BK123.out 2
    obtain ⟨Ao20, co20, eo20⟩ := Kd.R_slice Ha_.out
    subst eo20
    go_wp2
    refine bodyPost_ret (results_cell_row rfl _ _ gb123 31 #[.int .i64 a0, .int .i64 a1, .slice Ao20 x125002_1.length co20] (0, 0) _ rfl (by (with_reducible repeat (first | refine z1c ?_ _ | refine z3c ?_ | refine z2c ?_ _)); refine blk_put (cs := #[.int .i64 a0, .int .i64 a1, .slice none 0 0]) ?_ 2 _ rfl; (with_reducible repeat (first | refine z1c ?_ _ | refine z3c ?_ | refine z2c ?_ _)); refine blk_put (cs := #[.int .i64 a0, .int .i64 0, .slice none 0 0]) ?_ 1 _ rfl; (with_reducible repeat (first | refine z1c ?_ _ | refine z3c ?_ | refine z2c ?_ _)); refine blk_put (cs := #[.int .i64 0, .int .i64 0, .slice none 0 0]) ?_ 0 _ rfl; (with_reducible repeat (first | refine z1c ?_ _ | refine z3c ?_ | refine z2c ?_ _)); exact BK123.out) Tryz.underlying31 rfl (by kernel_rfl)) rfl ?_
    exact ⟨_, by first | rfl | (simp [errW_none, errW_some] <;> rfl) | (simp [*, errW_none, errW_some] <;> rfl), by (with_reducible repeat (first | apply Kd.R_alloc | apply Kd.R_drewN | apply Kd.R_drew)); exact Kd.R_mono (Kd.R_far (p := ⟨gb123, 2, none⟩) (Kd.R_far (p := ⟨gb123, 1, none⟩) (Kd.R_far (p := ⟨gb123, 0, none⟩) (Kd.R_types Ha_.out BK123.out (by decide)) (fun _ hk => hk.2) (.int .i64 a0)) (fun _ hk => hk.2) (.int .i64 a1)) (fun _ hk => hk.2) (.slice Ao20 x125002_1.length co20)) (fun _ hk => trivial), dV HB.out⟩

theorem impl_ranked.row {AT : Int → Int → Option Int} {g : Int → Int → Int} {W H y : Int} (hW : 1 ≤ W) (hW2 : W ≤ 1024) (hH : H ≤ 1024) (hWH : W * H ≤ 1024) (hy : 0 ≤ y) (hyH : y < H) (hAT : ∀ x, 0 ≤ x → x < W → AT x y = some (g x y)) (d : Nat) : ∀ (k : Nat) (x : Int), 0 ≤ x → x + d = W →
  impl_ranked.l1 AT (k + d + 1) W y H y W x W H (Ext.pref W g (y * W + x).toNat) = impl_ranked.l0 AT k W H (y + 1) W H (Ext.pref W g ((y + 1) * W).toNat) := by
 have hb := Ext.row_bound hW hy hyH
 induction d with
 | zero =>
  intro k x h0 hd
  obtain rfl : x = W := by omega
  rw [impl_ranked.l1, if_neg (by omega), Ext.wrap_in (by omega) (by omega), Int.add_mul, Int.one_mul]
 | succ d ih =>
  intro k x h0 hd
  rw [show k + (d + 1) + 1 = (k + d + 1) + 1 by omega, impl_ranked.l1, if_pos (by omega), hAT x h0 (by omega), Option.bind_some, if_pos (by rw [Ext.pref_length]; omega), Ext.wrap_in (by omega) (by omega), ← Ext.pref_step g hy h0 (by omega)]
  exact ih k (x + 1) (by omega) (by omega)
theorem impl_ranked.rows {AT : Int → Int → Option Int} {g : Int → Int → Int} {W H : Int} (hW : 1 ≤ W) (hW2 : W ≤ 1024) (hH : H ≤ 1024) (hWH : W * H ≤ 1024) (hAT : ∀ x y, 0 ≤ x → x < W → 0 ≤ y → y < H → AT x y = some (g x y)) (d : Nat) : ∀ (k : Nat) (y : Int), 0 ≤ y → y + d = H → d * (W.toNat + 2) < k →
  impl_ranked.l0 AT k W H y W H (Ext.pref W g (y * W).toNat) = some (W, H, Ext.grid W H g) := by
 induction d with
 | zero =>
  intro k y h0 hd hk
  obtain ⟨k, rfl⟩ : ∃ m, k = m + 1 := ⟨k - 1, by omega⟩
  obtain rfl : y = H := by omega
  rw [impl_ranked.l0, if_neg (by omega)]
  unfold Ext.grid; rw [Int.mul_comm y W]
 | succ d ih =>
  intro k y h0 hd hk
  rw [Nat.add_mul] at hk
  obtain ⟨k, rfl⟩ : ∃ m, k = (m + W.toNat + 1) + 1 := ⟨k - (W.toNat + 2), by omega⟩
  rw [impl_ranked.l0, if_pos (by omega)]
  have := impl_ranked.row hW hW2 hH hWH h0 (show y < H by omega) (fun x h1 h2 => hAT x y h1 h2 h0 (by omega)) W.toNat k 0 (by omega) (by omega)
  rw [Int.add_zero] at this
  rw [this]
  exact ih k (y + 1) (by omega) (by omega) (by omega)
theorem impl_ranked.tells {AT : Int → Int → Option Int} {g : Int → Int → Int} {W H : Int} (hW : 1 ≤ W) (hW2 : W ≤ 1024) (hH0 : 0 ≤ H) (hH : H ≤ 1024) (hWH : W * H ≤ 1024) (hAT : ∀ x y, 0 ≤ x → x < W → 0 ≤ y → y < H → AT x y = some (g x y)) :
  impl_ranked.f AT 4000 W H = some (W, H, Ext.grid W H g) := by
 unfold impl_ranked.f
 have h2 : H.toNat * (W.toNat + 2) < 4000 := by
  have : ((H.toNat * W.toNat : Nat) : Int) = W * H := by
   rw [Int.natCast_mul, show ((H.toNat : Nat) : Int) = H by omega, show ((W.toNat : Nat) : Int) = W by omega, Int.mul_comm]
  rw [Nat.mul_add]; omega
 have := impl_ranked.rows hW hW2 hH hWH hAT H.toNat 4000 0 (by omega) (by omega) h2
 rw [Int.zero_mul] at this
 exact this

def impl_mod.f (a0 : Int) (a1 : Int) : Option (Int) := if a1 = 0 then (none) else (if (Int.tmod a0 a1) < 0 then (some (wrap64 ((Int.tmod a0 a1) + a1))) else (some (Int.tmod a0 a1)))
set_option maxHeartbeats 8000000 in
set_option maxRecDepth 100000 in
theorem impl_mod.calls (a0 : Int) (a1 : Int) (r : Int) (w : World) (h : impl_mod.f a0 a1 = some r) :
  Calls Tryz.prog 33 #[.int .i64 a0, .int .i64 a1] w fun e w' => e = .returned (.int .i64 r) ∧ Drawn0 w w' := by
 have H := h
 unfold impl_mod.f at H
 clear h
 by_cases c3 : a1 = 0
 ·rw [if_pos c3] at H
  exact absurd H (by simp)
 ·rw [if_neg c3] at H
  have c3b0 : (a1 == 0) = false := beq_eq_false_iff_ne.mpr c3
  have c3b1 : (a1 != 0) = true := bne_iff_ne.mpr c3
  by_cases c4 : (Int.tmod a0 a1) < 0
  ·rw [if_pos c4] at H
   have c4b0 : decide ((Int.tmod a0 a1) < 0) = true := decide_eq_true c4
   clear c4
   obtain rfl := Option.some.inj H
   go_enter Tryz.func33, Tryz.ntmps33
   go_wp2
   go_ret
   exact ⟨by first | rfl | (simp; done) | (simp [*]; done), by repeat (first | exact Drawn0.refl _ | apply Drawn0.step)⟩
  ·rw [if_neg c4] at H
   have c4b0 : decide ((Int.tmod a0 a1) < 0) = false := decide_eq_false c4
   clear c4
   obtain rfl := Option.some.inj H
   go_enter Tryz.func33, Tryz.ntmps33
   go_wp2
   go_ret
   exact ⟨by first | rfl | (simp; done) | (simp [*]; done), by repeat (first | exact Drawn0.refl _ | apply Drawn0.step)⟩

def impl_rank.f (a0_0 : Int) (a0_1 : Int) (l0_2 : List Int) (a1 : Int) (a2 : Int) : Option (Int) := (impl_mod.f a2 a0_1).bind fun t130 => ((impl_mod.f a1 a0_0).bind fun t131 => (if 0 ≤ (wrap64 ((wrap64 (t130 * a0_0)) + t131)) then (if (wrap64 ((wrap64 (t130 * a0_0)) + t131)) < (l0_2.length : Int) then (some (rd l0_2 (wrap64 ((wrap64 (t130 * a0_0)) + t131)))) else (none)) else (none)))
set_option maxHeartbeats 8000000 in
set_option maxRecDepth 100000 in
theorem impl_rank.calls (a0_0 : Int) (a0_1 : Int) (A0_2 : Option Addr) (c0_2 : Nat) (l0_2 : List Int) (a1 : Int) (a2 : Int) (r : Int) (w : World) (hr0_2 : Kd.C (Kd.int .i64) w A0_2 l0_2.length l0_2) (hc0_2 : l0_2.length ≤ c0_2) (h : impl_rank.f a0_0 a0_1 l0_2 a1 a2 = some r) :
  Calls Tryz.prog 20 #[.agg #[.int .i64 a0_0, .int .i64 a0_1, .slice A0_2 l0_2.length c0_2], .int .i64 a1, .int .i64 a2] w fun e w' => e = .returned (.int .i64 r) ∧ Below w.heap.size w w' := by
 have hu31 := Tryz.underlying31
 have HR0_2 := z0c hr0_2
 have HC0_2 := z0c hc0_2
 clear hr0_2 hc0_2
 have HB := z0c (Below.refl w.heap.size w)
 have H := h
 unfold impl_rank.f at H
 clear h
 replace H := Option.bind_eq_some_iff.mp H
 obtain ⟨t130, A40, H⟩ := H
 (try dsimp only at H)
 have A4 := z0c A40
 clear A40
 replace H := Option.bind_eq_some_iff.mp H
 obtain ⟨t131, A50, H⟩ := H
 (try dsimp only at H)
 have A5 := z0c A50
 clear A50
 obtain ⟨ji6, hji6⟩ : ∃ j_ : Int, (wrap64 ((wrap64 (t130 * a0_0)) + t131)) = j_ := ⟨_, rfl⟩
 replace H : (if 0 ≤ (ji6) then (if (ji6) < (l0_2.length : Int) then (some (rd l0_2 (ji6))) else (none)) else (none)) = some r := by first | (rw [hji6] at H; exact H) | (simp only [hji6] at H ⊢; exact H)
 (try rw [hji6] at A4)
 (try rw [hji6] at A5)
 have hji6w : (IntKind.i64.wrap ((wrap64 (t130 * a0_0)) + t131)) = ji6 := (i64_w _).trans hji6
 by_cases c7 : 0 ≤ (ji6)
 ·rw [if_pos c7] at H
  have c7b0 : decide (0 ≤ (ji6)) = true := decide_eq_true c7
  clear c7
  by_cases c8 : (ji6) < (l0_2.length : Int)
  ·rw [if_pos c8] at H
   have c8b0 : decide ((ji6) < (l0_2.length : Int)) = true := decide_eq_true c8
   clear c8
   obtain rfl := Option.some.inj H
   have p132 : 0 ≤ ((ji6) : Int) := of_decide_eq_true (by first | (with_reducible assumption) | assumption)
   have q132 : (ji6) < (l0_2.length : Int) := of_decide_eq_true (by first | (with_reducible assumption) | assumption)
   obtain ⟨ad132, e132, hx132_0⟩ := Kd.at_int HR0_2.out (ji6) p132 q132
   cases e132
   try replace hx132_0 := (HB.out.cell (World.block_lt_of_cell? w _ hx132_0)).trans hx132_0
   replace p132 := eq_true p132
   replace q132 := eq_true q132
   go_enter Tryz.func20, Tryz.ntmps20
   go_wp2_with (first | ((with_reducible refine gate_dst (N := 3) rfl ?_); refine box_event rfl (N := 3) rfl (cs := #[.int .i64 a0_0, .int .i64 a0_1, .slice (some ad132) l0_2.length c0_2]) (t := 31) (by first | (go_simp; done) | (go_simp; rfl)) ?_; intro gb129 hg w9 hbox hb; have n_ := a4 (dU HB.out hb) (hbox) (gE hg HB.out) (gE hg HB.out); clear HB; obtain ⟨HB, BK129, GW129, GE129⟩ := n_; have gi_129 := GEc.mk GE129.out; clear hb hbox hg; have hcz10_0 : w9.cell? ⟨gb129, 0, none⟩ = some (.int .i64 a0_0) := (x3c BK129.out 0).trans rfl; have hcz10_1 : w9.cell? ⟨gb129, 1, none⟩ = some (.int .i64 a0_1) := (x3c BK129.out 1).trans rfl; have hcz10_2 : w9.cell? ⟨gb129, 2, none⟩ = some (.slice (some ad132) l0_2.length c0_2) := (x3c BK129.out 2).trans rfl; have hfz10_0 := x2c BK129.out 0; have hfz10_1 := x2c BK129.out 1; have hfz10_2 := x2c BK129.out 2) | (go_at_call 33; (with_reducible refine (impl_mod.calls a2 a0_1 t130 _ A4.out).mono ?_); rintro e w' ⟨rfl, ⟨nd, rfl⟩⟩; (try first | exact ⟨rfl, _, World.drewN_drewN _ _ _⟩ | exact ⟨rfl, _, Eq.trans (World.drewN_drewN _ _ _) (congrArg (World.drewN _) (Nat.add_assoc _ _ _))⟩)) | (go_at_call 33; (with_reducible refine (impl_mod.calls a1 a0_0 t131 _ A5.out).mono ?_); rintro e w' ⟨rfl, ⟨nd, rfl⟩⟩; (try first | exact ⟨rfl, _, World.drewN_drewN _ _ _⟩ | exact ⟨rfl, _, Eq.trans (World.drewN_drewN _ _ _) (congrArg (World.drewN _) (Nat.add_assoc _ _ _))⟩)))
   have hx132_0z_ := (HB.out.cell (World.block_lt_of_cell? w _ hx132_0)).trans hx132_0
   have hx132_0_ := ((below_alloc (w := w) HB.out (Obj.cells #[.int .i64 a0_0, .int .i64 a0_1, .slice (some ad132) l0_2.length c0_2] 31)).cell (World.block_lt_of_cell? w _ hx132_0)).trans hx132_0
   repeat (go_quiet (first | (go_at_call 33; (with_reducible refine (impl_mod.calls a2 a0_1 t130 _ A4.out).mono ?_); rintro e w' ⟨rfl, ⟨nd, rfl⟩⟩; (try first | exact ⟨rfl, _, World.drewN_drewN _ _ _⟩ | exact ⟨rfl, _, Eq.trans (World.drewN_drewN _ _ _) (congrArg (World.drewN _) (Nat.add_assoc _ _ _))⟩)) | (go_at_call 33; (with_reducible refine (impl_mod.calls a1 a0_0 t131 _ A5.out).mono ?_); rintro e w' ⟨rfl, ⟨nd, rfl⟩⟩; (try first | exact ⟨rfl, _, World.drewN_drewN _ _ _⟩ | exact ⟨rfl, _, Eq.trans (World.drewN_drewN _ _ _) (congrArg (World.drewN _) (Nat.add_assoc _ _ _))⟩))); try go_wp2_with (first | ((with_reducible refine gate_dst (N := 3) rfl ?_); refine box_event rfl (N := 3) rfl (cs := #[.int .i64 a0_0, .int .i64 a0_1, .slice (some ad132) l0_2.length c0_2]) (t := 31) (by first | (go_simp; done) | (go_simp; rfl)) ?_; intro gb129 hg w9 hbox hb; have n_ := a4 (dU HB.out hb) (hbox) (gE hg HB.out) (gE hg HB.out); clear HB; obtain ⟨HB, BK129, GW129, GE129⟩ := n_; have gi_129 := GEc.mk GE129.out; clear hb hbox hg; have hcz10_0 : w9.cell? ⟨gb129, 0, none⟩ = some (.int .i64 a0_0) := (x3c BK129.out 0).trans rfl; have hcz10_1 : w9.cell? ⟨gb129, 1, none⟩ = some (.int .i64 a0_1) := (x3c BK129.out 1).trans rfl; have hcz10_2 : w9.cell? ⟨gb129, 2, none⟩ = some (.slice (some ad132) l0_2.length c0_2) := (x3c BK129.out 2).trans rfl; have hfz10_0 := x2c BK129.out 0; have hfz10_1 := x2c BK129.out 1; have hfz10_2 := x2c BK129.out 2) | (go_at_call 33; (with_reducible refine (impl_mod.calls a2 a0_1 t130 _ A4.out).mono ?_); rintro e w' ⟨rfl, ⟨nd, rfl⟩⟩; (try first | exact ⟨rfl, _, World.drewN_drewN _ _ _⟩ | exact ⟨rfl, _, Eq.trans (World.drewN_drewN _ _ _) (congrArg (World.drewN _) (Nat.add_assoc _ _ _))⟩)) | (go_at_call 33; (with_reducible refine (impl_mod.calls a1 a0_0 t131 _ A5.out).mono ?_); rintro e w' ⟨rfl, ⟨nd, rfl⟩⟩; (try first | exact ⟨rfl, _, World.drewN_drewN _ _ _⟩ | exact ⟨rfl, _, Eq.trans (World.drewN_drewN _ _ _) (congrArg (World.drewN _) (Nat.add_assoc _ _ _))⟩))))
   go_ret
   exact ⟨by first | rfl | (simp [errW_none, errW_some] <;> rfl) | (simp only [← hji6]; first | rfl | (simp [errW_none, errW_some] <;> rfl)) | (simp [*, errW_none, errW_some] <;> rfl), dV HB.out⟩
  ·rw [if_neg c8] at H
   exact absurd H (by simp)
 ·rw [if_neg c7] at H
  exact absurd H (by simp)

def impl_DoubleMatrix_1.f (a0 : Int) (a1 : Int) (a2_0 : Int) (a2_1 : Int) (l2_2 : List Int) : Option (Int) := if a2_1 = 0 then (none) else (if (wrap64 (Int.tdiv a1 a2_1)) = 0 then (if a2_0 = 0 then (none) else (if (wrap64 (Int.tdiv a0 a2_0)) = 0 then ((impl_rank.f a2_0 a2_1 l2_2 a0 a1).bind fun t133 => (some (wrap64 ((wrap64 (4 * t133)) + 0)))) else (if (wrap64 (Int.tdiv a0 a2_0)) = 1 then ((impl_rank.f a2_0 a2_1 l2_2 a0 a1).bind fun t134 => (some (wrap64 ((wrap64 (4 * t134)) + 2)))) else (none)))) else (if (wrap64 (Int.tdiv a1 a2_1)) = 1 then (if a2_0 = 0 then (none) else (if (wrap64 (Int.tdiv a0 a2_0)) = 0 then ((impl_rank.f a2_0 a2_1 l2_2 a0 a1).bind fun t135 => (some (wrap64 ((wrap64 (4 * t135)) + 3)))) else (if (wrap64 (Int.tdiv a0 a2_0)) = 1 then ((impl_rank.f a2_0 a2_1 l2_2 a0 a1).bind fun t136 => (some (wrap64 ((wrap64 (4 * t136)) + 1)))) else (none)))) else (none)))
set_option maxHeartbeats 8000000 in
set_option maxRecDepth 100000 in
theorem impl_DoubleMatrix_1.calls {g2_ : Nat} (a0 : Int) (a1 : Int) (a2_0 : Int) (a2_1 : Int) (A2_2 : Option Addr) (c2_2 : Nat) (l2_2 : List Int) (r : Int) (w : World) (hr2_2 : Kd.C (Kd.int .i64) w A2_2 l2_2.length l2_2) (hc2_2 : l2_2.length ≤ c2_2) (hb2_ : w.heap[g2_]? = some (.cells #[.int .i64 a2_0, .int .i64 a2_1, .slice A2_2 l2_2.length c2_2] 31 (0, 0))) (h : impl_DoubleMatrix_1.f a0 a1 a2_0 a2_1 l2_2 = some r) :
  Calls Tryz.prog 31 #[.int .i64 a0, .int .i64 a1, .pointer (some ⟨g2_, 0, none⟩)] w fun e w' => e = .returned (.int .i64 r) ∧ Below w.heap.size w w' := by
 have hzc2_0 : w.cell? ⟨g2_, 0, none⟩ = some (.int .i64 a2_0) := (x3c hb2_ 0).trans rfl
 have hzc2_1 : w.cell? ⟨g2_, 1, none⟩ = some (.int .i64 a2_1) := (x3c hb2_ 1).trans rfl
 have hzc2_2 : w.cell? ⟨g2_, 2, none⟩ = some (.slice A2_2 l2_2.length c2_2) := (x3c hb2_ 2).trans rfl
 clear hb2_
 have hu60 := Tryz.underlying60
 have hu61 := Tryz.underlying61
 have HR2_2 := z0c hr2_2
 have HC2_2 := z0c hc2_2
 clear hr2_2 hc2_2
 have HB := z0c (Below.refl w.heap.size w)
 have H := h
 unfold impl_DoubleMatrix_1.f at H
 clear h
 by_cases c4 : a2_1 = 0
 ·rw [if_pos c4] at H
  exact absurd H (by simp)
 ·rw [if_neg c4] at H
  have c4b0 : (a2_1 == 0) = false := beq_eq_false_iff_ne.mpr c4
  have c4b1 : (a2_1 != 0) = true := bne_iff_ne.mpr c4
  by_cases c5 : (wrap64 (Int.tdiv a1 a2_1)) = 0
  ·rw [if_pos c5] at H
   have c5b0 : ((wrap64 (Int.tdiv a1 a2_1)) == 0) = true := beq_iff_eq.mpr c5
   have c5b1 : ((wrap64 (Int.tdiv a1 a2_1)) != 0) = false := bne_eq_false_iff_eq.mpr c5
   clear c5
   by_cases c6 : a2_0 = 0
   ·rw [if_pos c6] at H
    exact absurd H (by simp)
   ·rw [if_neg c6] at H
    have c6b0 : (a2_0 == 0) = false := beq_eq_false_iff_ne.mpr c6
    have c6b1 : (a2_0 != 0) = true := bne_iff_ne.mpr c6
    by_cases c7 : (wrap64 (Int.tdiv a0 a2_0)) = 0
    ·rw [if_pos c7] at H
     have c7b0 : ((wrap64 (Int.tdiv a0 a2_0)) == 0) = true := beq_iff_eq.mpr c7
     have c7b1 : ((wrap64 (Int.tdiv a0 a2_0)) != 0) = false := bne_eq_false_iff_eq.mpr c7
     clear c7
     replace H := Option.bind_eq_some_iff.mp H
     obtain ⟨t133, A80, H⟩ := H
     (try dsimp only at H)
     have A8 := z0c A80
     clear A80
     obtain rfl := Option.some.inj H
     have hiy : IntKind.i64.wrap (Int.tdiv a1 a2_1) = 0 := (i64_w _).trans (beq_iff_eq.1 (by assumption))
     have hix : IntKind.i64.wrap (Int.tdiv a0 a2_0) = 0 := (i64_w _).trans (beq_iff_eq.1 (by assumption))
     have hix1 : ∀ W, (Instr.index 61 (.agg #[.int .i64 0, .int .i64 2, .int .i64 3, .int .i64 1]) (.int .i64 (IntKind.i64.wrap (Int.tdiv a1 a2_1)))).run Tryz.prog W = .ok (.agg #[.int .i64 0, .int .i64 2]) W := fun W => by rw [hiy]; rfl
     have hix2 : ∀ W, (Instr.index 60 (.agg #[.int .i64 0, .int .i64 2]) (.int .i64 (IntKind.i64.wrap (Int.tdiv a0 a2_0)))).run Tryz.prog W = .ok (.int .i64 0) W := fun W => by rw [hix]; rfl
     clear hiy hix
     go_enter Tryz.func31, Tryz.ntmps31
     go_wp2_with (first | (go_at_call 20; (with_reducible refine (impl_rank.calls a2_0 a2_1 _ _ l2_2 a0 a1 t133 _ ?side1 ?side2 A8.out).mono ?_); (case side1 => repeat (first | exact HR2_2.out | (with_reducible refine y2c ?_ _) | (with_reducible refine y3c ?_ _) | (with_reducible refine y4c ?_))); (case side2 => exact HC2_2.out); rintro e w9 ⟨rfl, hb⟩; have n0_ := z0c (dU HB.out hb); clear HB; have HB := n0_; clear n0_; (try clear hb)))
     repeat (go_quiet (fail); try go_wp2_with (first | (go_at_call 20; (with_reducible refine (impl_rank.calls a2_0 a2_1 _ _ l2_2 a0 a1 t133 _ ?side1 ?side2 A8.out).mono ?_); (case side1 => repeat (first | exact HR2_2.out | (with_reducible refine y2c ?_ _) | (with_reducible refine y3c ?_ _) | (with_reducible refine y4c ?_))); (case side2 => exact HC2_2.out); rintro e w9 ⟨rfl, hb⟩; have n0_ := z0c (dU HB.out hb); clear HB; have HB := n0_; clear n0_; (try clear hb))))
     go_ret
     exact ⟨by first | rfl | (simp [errW_none, errW_some] <;> rfl) | (simp [*, errW_none, errW_some] <;> rfl), dV HB.out⟩
    ·rw [if_neg c7] at H
     have c7b0 : ((wrap64 (Int.tdiv a0 a2_0)) == 0) = false := beq_eq_false_iff_ne.mpr c7
     have c7b1 : ((wrap64 (Int.tdiv a0 a2_0)) != 0) = true := bne_iff_ne.mpr c7
     by_cases c10 : (wrap64 (Int.tdiv a0 a2_0)) = 1
     ·rw [if_pos c10] at H
      have c10b0 : ((wrap64 (Int.tdiv a0 a2_0)) == 1) = true := beq_iff_eq.mpr c10
      have c10b1 : ((wrap64 (Int.tdiv a0 a2_0)) != 1) = false := bne_eq_false_iff_eq.mpr c10
      clear c10
      replace H := Option.bind_eq_some_iff.mp H
      obtain ⟨t134, A110, H⟩ := H
      (try dsimp only at H)
      have A11 := z0c A110
      clear A110
      obtain rfl := Option.some.inj H
      have hiy : IntKind.i64.wrap (Int.tdiv a1 a2_1) = 0 := (i64_w _).trans (beq_iff_eq.1 (by assumption))
      have hix : IntKind.i64.wrap (Int.tdiv a0 a2_0) = 1 := (i64_w _).trans (beq_iff_eq.1 (by assumption))
      have hix1 : ∀ W, (Instr.index 61 (.agg #[.int .i64 0, .int .i64 2, .int .i64 3, .int .i64 1]) (.int .i64 (IntKind.i64.wrap (Int.tdiv a1 a2_1)))).run Tryz.prog W = .ok (.agg #[.int .i64 0, .int .i64 2]) W := fun W => by rw [hiy]; rfl
      have hix2 : ∀ W, (Instr.index 60 (.agg #[.int .i64 0, .int .i64 2]) (.int .i64 (IntKind.i64.wrap (Int.tdiv a0 a2_0)))).run Tryz.prog W = .ok (.int .i64 2) W := fun W => by rw [hix]; rfl
      clear hiy hix
      go_enter Tryz.func31, Tryz.ntmps31
      go_wp2_with (first | (go_at_call 20; (with_reducible refine (impl_rank.calls a2_0 a2_1 _ _ l2_2 a0 a1 t134 _ ?side1 ?side2 A11.out).mono ?_); (case side1 => repeat (first | exact HR2_2.out | (with_reducible refine y2c ?_ _) | (with_reducible refine y3c ?_ _) | (with_reducible refine y4c ?_))); (case side2 => exact HC2_2.out); rintro e w12 ⟨rfl, hb⟩; have n0_ := z0c (dU HB.out hb); clear HB; have HB := n0_; clear n0_; (try clear hb)))
      repeat (go_quiet (fail); try go_wp2_with (first | (go_at_call 20; (with_reducible refine (impl_rank.calls a2_0 a2_1 _ _ l2_2 a0 a1 t134 _ ?side1 ?side2 A11.out).mono ?_); (case side1 => repeat (first | exact HR2_2.out | (with_reducible refine y2c ?_ _) | (with_reducible refine y3c ?_ _) | (with_reducible refine y4c ?_))); (case side2 => exact HC2_2.out); rintro e w12 ⟨rfl, hb⟩; have n0_ := z0c (dU HB.out hb); clear HB; have HB := n0_; clear n0_; (try clear hb))))
      go_ret
      exact ⟨by first | rfl | (simp [errW_none, errW_some] <;> rfl) | (simp [*, errW_none, errW_some] <;> rfl), dV HB.out⟩
     ·rw [if_neg c10] at H
      exact absurd H (by simp)
  ·rw [if_neg c5] at H
   have c5b0 : ((wrap64 (Int.tdiv a1 a2_1)) == 0) = false := beq_eq_false_iff_ne.mpr c5
   have c5b1 : ((wrap64 (Int.tdiv a1 a2_1)) != 0) = true := bne_iff_ne.mpr c5
   by_cases c13 : (wrap64 (Int.tdiv a1 a2_1)) = 1
   ·rw [if_pos c13] at H
    have c13b0 : ((wrap64 (Int.tdiv a1 a2_1)) == 1) = true := beq_iff_eq.mpr c13
    have c13b1 : ((wrap64 (Int.tdiv a1 a2_1)) != 1) = false := bne_eq_false_iff_eq.mpr c13
    clear c13
    by_cases c14 : a2_0 = 0
    ·rw [if_pos c14] at H
     exact absurd H (by simp)
    ·rw [if_neg c14] at H
     have c14b0 : (a2_0 == 0) = false := beq_eq_false_iff_ne.mpr c14
     have c14b1 : (a2_0 != 0) = true := bne_iff_ne.mpr c14
     by_cases c15 : (wrap64 (Int.tdiv a0 a2_0)) = 0
     ·rw [if_pos c15] at H
      have c15b0 : ((wrap64 (Int.tdiv a0 a2_0)) == 0) = true := beq_iff_eq.mpr c15
      have c15b1 : ((wrap64 (Int.tdiv a0 a2_0)) != 0) = false := bne_eq_false_iff_eq.mpr c15
      clear c15
      replace H := Option.bind_eq_some_iff.mp H
      obtain ⟨t135, A160, H⟩ := H
      (try dsimp only at H)
      have A16 := z0c A160
      clear A160
      obtain rfl := Option.some.inj H
      have hiy : IntKind.i64.wrap (Int.tdiv a1 a2_1) = 1 := (i64_w _).trans (beq_iff_eq.1 (by assumption))
      have hix : IntKind.i64.wrap (Int.tdiv a0 a2_0) = 0 := (i64_w _).trans (beq_iff_eq.1 (by assumption))
      have hix1 : ∀ W, (Instr.index 61 (.agg #[.int .i64 0, .int .i64 2, .int .i64 3, .int .i64 1]) (.int .i64 (IntKind.i64.wrap (Int.tdiv a1 a2_1)))).run Tryz.prog W = .ok (.agg #[.int .i64 3, .int .i64 1]) W := fun W => by rw [hiy]; rfl
      have hix2 : ∀ W, (Instr.index 60 (.agg #[.int .i64 3, .int .i64 1]) (.int .i64 (IntKind.i64.wrap (Int.tdiv a0 a2_0)))).run Tryz.prog W = .ok (.int .i64 3) W := fun W => by rw [hix]; rfl
      clear hiy hix
      go_enter Tryz.func31, Tryz.ntmps31
      go_wp2_with (first | (go_at_call 20; (with_reducible refine (impl_rank.calls a2_0 a2_1 _ _ l2_2 a0 a1 t135 _ ?side1 ?side2 A16.out).mono ?_); (case side1 => repeat (first | exact HR2_2.out | (with_reducible refine y2c ?_ _) | (with_reducible refine y3c ?_ _) | (with_reducible refine y4c ?_))); (case side2 => exact HC2_2.out); rintro e w17 ⟨rfl, hb⟩; have n0_ := z0c (dU HB.out hb); clear HB; have HB := n0_; clear n0_; (try clear hb)))
      repeat (go_quiet (fail); try go_wp2_with (first | (go_at_call 20; (with_reducible refine (impl_rank.calls a2_0 a2_1 _ _ l2_2 a0 a1 t135 _ ?side1 ?side2 A16.out).mono ?_); (case side1 => repeat (first | exact HR2_2.out | (with_reducible refine y2c ?_ _) | (with_reducible refine y3c ?_ _) | (with_reducible refine y4c ?_))); (case side2 => exact HC2_2.out); rintro e w17 ⟨rfl, hb⟩; have n0_ := z0c (dU HB.out hb); clear HB; have HB := n0_; clear n0_; (try clear hb))))
      go_ret
      exact ⟨by first | rfl | (simp [errW_none, errW_some] <;> rfl) | (simp [*, errW_none, errW_some] <;> rfl), dV HB.out⟩
     ·rw [if_neg c15] at H
      have c15b0 : ((wrap64 (Int.tdiv a0 a2_0)) == 0) = false := beq_eq_false_iff_ne.mpr c15
      have c15b1 : ((wrap64 (Int.tdiv a0 a2_0)) != 0) = true := bne_iff_ne.mpr c15
      by_cases c18 : (wrap64 (Int.tdiv a0 a2_0)) = 1
      ·rw [if_pos c18] at H
       have c18b0 : ((wrap64 (Int.tdiv a0 a2_0)) == 1) = true := beq_iff_eq.mpr c18
       have c18b1 : ((wrap64 (Int.tdiv a0 a2_0)) != 1) = false := bne_eq_false_iff_eq.mpr c18
       clear c18
       replace H := Option.bind_eq_some_iff.mp H
       obtain ⟨t136, A190, H⟩ := H
       (try dsimp only at H)
       have A19 := z0c A190
       clear A190
       obtain rfl := Option.some.inj H
       have hiy : IntKind.i64.wrap (Int.tdiv a1 a2_1) = 1 := (i64_w _).trans (beq_iff_eq.1 (by assumption))
       have hix : IntKind.i64.wrap (Int.tdiv a0 a2_0) = 1 := (i64_w _).trans (beq_iff_eq.1 (by assumption))
       have hix1 : ∀ W, (Instr.index 61 (.agg #[.int .i64 0, .int .i64 2, .int .i64 3, .int .i64 1]) (.int .i64 (IntKind.i64.wrap (Int.tdiv a1 a2_1)))).run Tryz.prog W = .ok (.agg #[.int .i64 3, .int .i64 1]) W := fun W => by rw [hiy]; rfl
       have hix2 : ∀ W, (Instr.index 60 (.agg #[.int .i64 3, .int .i64 1]) (.int .i64 (IntKind.i64.wrap (Int.tdiv a0 a2_0)))).run Tryz.prog W = .ok (.int .i64 1) W := fun W => by rw [hix]; rfl
       clear hiy hix
       go_enter Tryz.func31, Tryz.ntmps31
       go_wp2_with (first | (go_at_call 20; (with_reducible refine (impl_rank.calls a2_0 a2_1 _ _ l2_2 a0 a1 t136 _ ?side1 ?side2 A19.out).mono ?_); (case side1 => repeat (first | exact HR2_2.out | (with_reducible refine y2c ?_ _) | (with_reducible refine y3c ?_ _) | (with_reducible refine y4c ?_))); (case side2 => exact HC2_2.out); rintro e w20 ⟨rfl, hb⟩; have n0_ := z0c (dU HB.out hb); clear HB; have HB := n0_; clear n0_; (try clear hb)))
       repeat (go_quiet (fail); try go_wp2_with (first | (go_at_call 20; (with_reducible refine (impl_rank.calls a2_0 a2_1 _ _ l2_2 a0 a1 t136 _ ?side1 ?side2 A19.out).mono ?_); (case side1 => repeat (first | exact HR2_2.out | (with_reducible refine y2c ?_ _) | (with_reducible refine y3c ?_ _) | (with_reducible refine y4c ?_))); (case side2 => exact HC2_2.out); rintro e w20 ⟨rfl, hb⟩; have n0_ := z0c (dU HB.out hb); clear HB; have HB := n0_; clear n0_; (try clear hb))))
       go_ret
       exact ⟨by first | rfl | (simp [errW_none, errW_some] <;> rfl) | (simp [*, errW_none, errW_some] <;> rfl), dV HB.out⟩
      ·rw [if_neg c18] at H
       exact absurd H (by simp)
   ·rw [if_neg c13] at H
    exact absurd H (by simp)

def impl_DoubleMatrix_1.drawn.f (w_ h_ : Int) (a2_0 : Int) (a2_1 : Int) (l2_2 : List Int) : Option (Int × Int × List Int) := if 1 ≤ w_ ∧ w_ ≤ 1024 ∧ 0 ≤ h_ ∧ h_ ≤ 1024 ∧ w_ * h_ ≤ 1024 then (Ext.gridO w_ h_ fun x y => impl_DoubleMatrix_1.f x y a2_0 a2_1 l2_2).map fun l => (w_, h_, l) else none
def impl_DoubleMatrix_1.ranked.f (w_ h_ : Int) (a2_0 : Int) (a2_1 : Int) (l2_2 : List Int) : Option (Int × Int × List Int) := if 1 ≤ w_ ∧ w_ ≤ 1024 ∧ 0 ≤ h_ ∧ h_ ≤ 1024 ∧ w_ * h_ ≤ 1024 then (Ext.gridO w_ h_ fun x y => impl_DoubleMatrix_1.f x y a2_0 a2_1 l2_2).map fun l => (w_, h_, l) else none
theorem impl_DoubleMatrix_1.ranked.calls {g2_ : Nat} (w_ h_ : Int) (a2_0 : Int) (a2_1 : Int) (A2_2 : Option Addr) (c2_2 : Nat) (l2_2 : List Int) (r1 r2 : Int) (r3 : List Int) (w : World) (hr2_2 : Kd.C (Kd.int .i64) w A2_2 l2_2.length l2_2) (hc2_2 : l2_2.length ≤ c2_2) (hb2_ : w.heap[g2_]? = some (.cells #[.int .i64 a2_0, .int .i64 a2_1, .slice A2_2 l2_2.length c2_2] 31 (0, 0))) (h : impl_DoubleMatrix_1.ranked.f w_ h_ a2_0 a2_1 l2_2 = some (r1, r2, r3)) :
  Calls Tryz.prog 30 #[.int .i64 w_, .int .i64 h_, .func (.func 31) #[] #[.pointer (some ⟨g2_, 0, none⟩)]] w fun e w' => ∃ v2_ : Value, e = .returned (.agg #[.int .i64 r1, .int .i64 r2, v2_]) ∧ Kd.R (Kd.int .i64) 3 w' w.heap.size (fun _ => True) v2_ r3 ∧ Below w.heap.size w w' := by
 unfold impl_DoubleMatrix_1.ranked.f at h
 split at h
 ·rename_i hc_
  obtain ⟨l_, hl_, he_⟩ := Option.map_eq_some_iff.mp h
  obtain ⟨hat_, hg_⟩ := Ext.gridO_some hl_
  injection he_ with e1_ e2_; injection e2_ with e2_ e3_; subst e1_ e2_ e3_
  have ht_ := impl_ranked.tells (AT := fun x y => impl_DoubleMatrix_1.f x y a2_0 a2_1 l2_2) hc_.1 hc_.2.1 hc_.2.2.1 hc_.2.2.2.1 hc_.2.2.2.2 hat_
  rw [hg_] at ht_
  exact impl_ranked.calls 4000 w_ h_ _ 31 #[.pointer (some ⟨g2_, 0, none⟩)] _ _ _ w (enters_ Tryz.func31 (by kernel_rfl) rfl) (fun x y r W hW hr => Ext.calls_app (by simp) ((impl_DoubleMatrix_1.calls x y a2_0 a2_1 _ _ l2_2 r W (Kd.C_below hr2_2 hW) hc2_2 (blk_below hb2_ hW) hr).mono fun e w' he => ⟨he.1, he.2⟩)) ht_
 ·exact absurd h (by simp)

abbrev impl_DoubleMatrix_1.V.f := @impl_DoubleMatrix_1.f
set_option linter.defProp false in
def impl_DoubleMatrix_1.V.calls := @impl_DoubleMatrix_1.calls

def impl_DoubleMatrix.f (a0_0 : Int) (a0_1 : Int) (l0_2 : List Int) : Option (Int × Int × List Int × Bool) := (impl_IsMatrix.f a0_0 a0_1 l0_2).bind fun t139 => (if t139 = true then ((impl_celled.f (wrap64 (2 * a0_0)) (wrap64 (2 * a0_1))).bind fun t140 => (if t140 = true then ((impl_DoubleMatrix_1.ranked.f (wrap64 (2 * a0_0)) (wrap64 (2 * a0_1)) a0_0 a0_1 l0_2).bind fun bt141 => (some (bt141.1, bt141.2.1, bt141.2.2, true))) else (some (0, 0, ([] : List Int), false)))) else (some (0, 0, ([] : List Int), false)))
set_option maxHeartbeats 8000000 in
set_option maxRecDepth 100000 in
theorem impl_DoubleMatrix.calls (a0_0 : Int) (a0_1 : Int) (A0_2 : Option Addr) (c0_2 : Nat) (l0_2 : List Int) (r1 : Int) (r2 : Int) (r3 : List Int) (r4 : Bool) (w : World) (hr0_2 : Kd.C (Kd.int .i64) w A0_2 l0_2.length l0_2) (hc0_2 : l0_2.length ≤ c0_2) (h : impl_DoubleMatrix.f a0_0 a0_1 l0_2 = some (r1, r2, r3, r4)) :
  Calls Tryz.prog 15 #[.agg #[.int .i64 a0_0, .int .i64 a0_1, .slice A0_2 l0_2.length c0_2]] w fun e w' => ∃ v2_ : Value, e = .returned (.tuple #[.agg #[.int .i64 r1, .int .i64 r2, v2_], .bool r4]) ∧ Kd.R (Kd.int .i64) 3 w' w.heap.size (fun _ => True) v2_ r3 ∧ Below w.heap.size w w' := by
 have hu31 := Tryz.underlying31
 have HR0_2 := z0c hr0_2
 have HC0_2 := z0c hc0_2
 clear hr0_2 hc0_2
 have HB := z0c (Below.refl w.heap.size w)
 have H := h
 unfold impl_DoubleMatrix.f at H
 clear h
 replace H := Option.bind_eq_some_iff.mp H
 obtain ⟨t139, A20, H⟩ := H
 (try dsimp only at H)
 have A2 := z0c A20
 clear A20
 by_cases c3 : t139 = true
 ·subst c3
  rw [if_pos rfl] at H
  replace H := Option.bind_eq_some_iff.mp H
  obtain ⟨t140, A40, H⟩ := H
  (try dsimp only at H)
  have A4 := z0c A40
  clear A40
  by_cases c5 : t140 = true
  ·subst c5
   rw [if_pos rfl] at H
   replace H := Option.bind_eq_some_iff.mp H
   obtain ⟨⟨t141, t142, t143⟩, A60, H⟩ := H
   (try dsimp only at H)
   have A6 := z0c A60
   clear A60
   simp only [Option.some.injEq, Prod.mk.injEq] at H
   obtain ⟨rfl, rfl, rfl, rfl⟩ := H
   go_enter Tryz.func15, Tryz.ntmps15
   go_wp2_with (first | ((with_reducible refine gate_dst (N := 1) rfl ?_); refine box_event rfl (N := 1) rfl (cs := #[.int .i64 a0_0, .int .i64 a0_1, .slice A0_2 l0_2.length c0_2]) (t := 31) (by first | (go_simp; done) | (go_simp; rfl)) ?_; intro gb137 hg w7 hbox hb; have n_ := a4 (dU HB.out hb) (hbox) (gE hg HB.out) (gE hg HB.out); clear HB; obtain ⟨HB, BK137, GW137, GE137⟩ := n_; have gi_137 := GEc.mk GE137.out; clear hb hbox hg) | ((with_reducible refine gate_dst (N := 2) rfl ?_); refine box_event rfl (N := 2) rfl (cs := #[.int .i64 0, .int .i64 0, .slice none 0 0]) (t := 31) (by first | (go_simp; done) | (go_simp; rfl)) ?_; intro gb138 hg w8 hbox hb; have n_ := a7 (bU BK137.out hb) (dU HB.out hb) (hbox) (gE hg HB.out) (gE hg HB.out) (nL hg BK137.out) (nG hg BK137.out); clear BK137 HB; obtain ⟨BK137, HB, BK138, GW138, GE138, NB137_138, NB138_137⟩ := n_; have gi_138 := GEc.mk GE138.out; clear hb hbox hg; have hnb9 := NB137_138.out; have hnc9 := NB138_137.out; have hcz10_0 : w8.cell? ⟨gb137, 0, none⟩ = some (.int .i64 a0_0) := (x3c BK137.out 0).trans rfl; have hcz10_1 : w8.cell? ⟨gb137, 1, none⟩ = some (.int .i64 a0_1) := (x3c BK137.out 1).trans rfl; have hcz10_2 : w8.cell? ⟨gb137, 2, none⟩ = some (.slice A0_2 l0_2.length c0_2) := (x3c BK137.out 2).trans rfl; have hfz10_0 := x2c BK137.out 0; have hfz10_1 := x2c BK137.out 1; have hfz10_2 := x2c BK137.out 2) | ((with_reducible refine gate_callee (f := 16) rfl ?_); refine goesL_ (some 5) rfl rfl Tryz.func16 (by kernel_rfl) rfl #[.agg #[.int .i64 a0_0, .int .i64 a0_1, .slice A0_2 l0_2.length c0_2]] rfl (by (try simp only [List.map_toArray, List.map_cons, List.map_nil]); first | done | rfl | (simp only [List.length_drop, List.length_take]; rfl)) ?_; (with_reducible refine (impl_IsMatrix.calls a0_0 a0_1 _ _ l0_2 true _ ?side1 ?side2 A2.out).mono ?_); (case side1 => repeat (first | exact HR0_2.out | exact (Kd.C_below HR0_2.out HB.out) | (with_reducible refine y2c ?_ _) | (with_reducible refine y3c ?_ _) | (with_reducible refine y4c ?_))); (case side2 => exact HC0_2.out); rintro e w11 ⟨rfl, hb⟩; refine ⟨_, rfl, ?_⟩; have n_ := a3 (bU BK137.out hb) (bU BK138.out hb) (dU HB.out hb); clear BK137 BK138 HB; obtain ⟨BK137, BK138, HB⟩ := n_; (try clear hb); have hcz12_0 : w11.cell? ⟨gb137, 0, none⟩ = some (.int .i64 a0_0) := (x3c BK137.out 0).trans rfl; have hcz12_1 : w11.cell? ⟨gb137, 1, none⟩ = some (.int .i64 a0_1) := (x3c BK137.out 1).trans rfl; have hcz12_2 : w11.cell? ⟨gb137, 2, none⟩ = some (.slice A0_2 l0_2.length c0_2) := (x3c BK137.out 2).trans rfl; have hfz12_0 := x2c BK137.out 0; have hfz12_1 := x2c BK137.out 1; have hfz12_2 := x2c BK137.out 2) | (go_at_call 29; (with_reducible refine (impl_celled.calls (wrap64 (2 * a0_0)) (wrap64 (2 * a0_1)) true _ A4.out).mono ?_); rintro e w' ⟨rfl, ⟨nd, rfl⟩⟩; (try (rw [drewN_self w11]; generalize hq_ : World.drewN w11 _ = w11; have n0_ : Aside0 (w11.heap[gb137]? = some (.cells #[.int .i64 a0_0, .int .i64 a0_1, .slice A0_2 l0_2.length c0_2] 31 (0, 0))) := ⟨by rw [← hq_]; exact (bV BK137.out)⟩; have n1_ : Aside0 (w11.heap[gb138]? = some (.cells #[.int .i64 0, .int .i64 0, .slice none 0 0] 31 (0, 0))) := ⟨by rw [← hq_]; exact (bV BK138.out)⟩; have n2_ : Aside0 (Below w.heap.size w w11) := ⟨by rw [← hq_]; exact (dV HB.out)⟩; clear BK137 BK138 HB hq_; have BK137 := n0_; have BK138 := n1_; have HB := n2_; clear n0_ n1_ n2_)); have hcz13_0 : w11.cell? ⟨gb137, 0, none⟩ = some (.int .i64 a0_0) := (x3c BK137.out 0).trans rfl; have hcz13_1 : w11.cell? ⟨gb137, 1, none⟩ = some (.int .i64 a0_1) := (x3c BK137.out 1).trans rfl; have hcz13_2 : w11.cell? ⟨gb137, 2, none⟩ = some (.slice A0_2 l0_2.length c0_2) := (x3c BK137.out 2).trans rfl; have hfz13_0 := x2c BK137.out 0; have hfz13_1 := x2c BK137.out 1; have hfz13_2 := x2c BK137.out 2) | ((with_reducible refine gate_callee (f := 30) rfl ?_); refine goesL_ (some 25) rfl rfl Tryz.func30 (by kernel_rfl) rfl #[.int .i64 (wrap64 (2 * a0_0)), .int .i64 (wrap64 (2 * a0_1)), .func (.func 31) #[] #[.pointer (some ⟨gb137, 0, none⟩)]] rfl (by (try simp only [List.map_toArray, List.map_cons, List.map_nil]); first | done | rfl | (simp only [List.length_drop, List.length_take]; rfl)) ?_; (with_reducible refine (impl_DoubleMatrix_1.ranked.calls (wrap64 (2 * a0_0)) (wrap64 (2 * a0_1)) a0_0 a0_1 A0_2 c0_2 l0_2 t141 t142 t143 _ ?side1 ?side2 ?side3 A6.out).mono ?_); (case side1 => repeat (first | exact HR0_2.out | exact (Kd.C_below HR0_2.out HB.out) | (with_reducible refine y2c ?_ _) | (with_reducible refine y3c ?_ _) | (with_reducible refine y4c ?_))); (case side2 => exact HC0_2.out); (case side3 => exact by (with_reducible repeat (first | refine z1c ?_ _ | refine z3c ?_ | refine z2c ?_ _)); exact BK137.out); rintro e w14 ⟨v144, rfl, ho0, hb⟩; refine ⟨_, rfl, ?_⟩; have n_ := a4 (Kd.R_lower ho0 (below_size (dV HB.out))) (bU BK137.out hb) (bU BK138.out hb) (dU HB.out hb); clear BK137 BK138 HB; obtain ⟨HO145, BK137, BK138, HB⟩ := n_; (try clear hb); (try clear ho0); have hcz15_0 : w14.cell? ⟨gb138, 0, none⟩ = some (.int .i64 0) := (x3c BK138.out 0).trans rfl; have hcz15_1 : w14.cell? ⟨gb138, 1, none⟩ = some (.int .i64 0) := (x3c BK138.out 1).trans rfl; have hcz15_2 : w14.cell? ⟨gb138, 2, none⟩ = some (.slice none 0 0) := (x3c BK138.out 2).trans rfl; have hfz15_0 := x2c BK138.out 0; have hfz15_1 := x2c BK138.out 1; have hfz15_2 := x2c BK138.out 2; obtain ⟨Ao16, co16, eo16⟩ := Kd.R_slice HO145.out; subst eo16))
   refine bodyPost_ret (results_ct rfl _ _ gb138 31 #[.int .i64 t141, .int .i64 t142, .slice Ao16 t143.length co16] (0, 0) _ rfl (by (with_reducible repeat (first | refine z1c ?_ _ | refine z3c ?_ | refine z2c ?_ _)); refine blk_put (cs := #[.int .i64 t141, .int .i64 t142, .slice none 0 0]) ?_ 2 _ rfl; (with_reducible repeat (first | refine z1c ?_ _ | refine z3c ?_ | refine z2c ?_ _)); refine blk_put (cs := #[.int .i64 t141, .int .i64 0, .slice none 0 0]) ?_ 1 _ rfl; (with_reducible repeat (first | refine z1c ?_ _ | refine z3c ?_ | refine z2c ?_ _)); refine blk_put (cs := #[.int .i64 0, .int .i64 0, .slice none 0 0]) ?_ 0 _ rfl; (with_reducible repeat (first | refine z1c ?_ _ | refine z3c ?_ | refine z2c ?_ _)); exact BK138.out) Tryz.underlying31 rfl (by kernel_rfl)) rfl ?_
   exact ⟨_, by first | rfl | (simp [errW_none, errW_some] <;> rfl) | (simp [*, errW_none, errW_some] <;> rfl), by (with_reducible repeat (first | apply Kd.R_alloc | apply Kd.R_drewN | apply Kd.R_drew)); exact Kd.R_mono (Kd.R_far (p := ⟨gb138, 2, none⟩) (Kd.R_far (p := ⟨gb138, 1, none⟩) (Kd.R_far (p := ⟨gb138, 0, none⟩) (Kd.R_types HO145.out BK138.out (by decide)) (fun _ hk => hk.2) (.int .i64 t141)) (fun _ hk => hk.2) (.int .i64 t142)) (fun _ hk => hk.2) (.slice Ao16 t143.length co16)) (fun _ hk => trivial), dV HB.out⟩
  ·replace c5 := Bool.eq_false_iff.mpr c5
   subst c5
   rw [if_neg (show ¬ (false = true) by decide)] at H
   simp only [Option.some.injEq, Prod.mk.injEq] at H
   obtain ⟨rfl, rfl, rfl, rfl⟩ := H
   go_enter Tryz.func15, Tryz.ntmps15
   go_wp2_with (first | ((with_reducible refine gate_dst (N := 1) rfl ?_); refine box_event rfl (N := 1) rfl (cs := #[.int .i64 a0_0, .int .i64 a0_1, .slice A0_2 l0_2.length c0_2]) (t := 31) (by first | (go_simp; done) | (go_simp; rfl)) ?_; intro gb137 hg w17 hbox hb; have n_ := a4 (dU HB.out hb) (hbox) (gE hg HB.out) (gE hg HB.out); clear HB; obtain ⟨HB, BK137, GW137, GE137⟩ := n_; have gi_137 := GEc.mk GE137.out; clear hb hbox hg) | ((with_reducible refine gate_dst (N := 2) rfl ?_); refine box_event rfl (N := 2) rfl (cs := #[.int .i64 0, .int .i64 0, .slice none 0 0]) (t := 31) (by first | (go_simp; done) | (go_simp; rfl)) ?_; intro gb138 hg w18 hbox hb; have n_ := a7 (bU BK137.out hb) (dU HB.out hb) (hbox) (gE hg HB.out) (gE hg HB.out) (nL hg BK137.out) (nG hg BK137.out); clear BK137 HB; obtain ⟨BK137, HB, BK138, GW138, GE138, NB137_138, NB138_137⟩ := n_; have gi_138 := GEc.mk GE138.out; clear hb hbox hg; have hnb19 := NB137_138.out; have hnc19 := NB138_137.out; have hcz20_0 : w18.cell? ⟨gb137, 0, none⟩ = some (.int .i64 a0_0) := (x3c BK137.out 0).trans rfl; have hcz20_1 : w18.cell? ⟨gb137, 1, none⟩ = some (.int .i64 a0_1) := (x3c BK137.out 1).trans rfl; have hcz20_2 : w18.cell? ⟨gb137, 2, none⟩ = some (.slice A0_2 l0_2.length c0_2) := (x3c BK137.out 2).trans rfl; have hfz20_0 := x2c BK137.out 0; have hfz20_1 := x2c BK137.out 1; have hfz20_2 := x2c BK137.out 2) | ((with_reducible refine gate_callee (f := 16) rfl ?_); refine goesL_ (some 5) rfl rfl Tryz.func16 (by kernel_rfl) rfl #[.agg #[.int .i64 a0_0, .int .i64 a0_1, .slice A0_2 l0_2.length c0_2]] rfl (by (try simp only [List.map_toArray, List.map_cons, List.map_nil]); first | done | rfl | (simp only [List.length_drop, List.length_take]; rfl)) ?_; (with_reducible refine (impl_IsMatrix.calls a0_0 a0_1 _ _ l0_2 true _ ?side1 ?side2 A2.out).mono ?_); (case side1 => repeat (first | exact HR0_2.out | exact (Kd.C_below HR0_2.out HB.out) | (with_reducible refine y2c ?_ _) | (with_reducible refine y3c ?_ _) | (with_reducible refine y4c ?_))); (case side2 => exact HC0_2.out); rintro e w21 ⟨rfl, hb⟩; refine ⟨_, rfl, ?_⟩; have n_ := a3 (bU BK137.out hb) (bU BK138.out hb) (dU HB.out hb); clear BK137 BK138 HB; obtain ⟨BK137, BK138, HB⟩ := n_; (try clear hb); have hcz22_0 : w21.cell? ⟨gb137, 0, none⟩ = some (.int .i64 a0_0) := (x3c BK137.out 0).trans rfl; have hcz22_1 : w21.cell? ⟨gb137, 1, none⟩ = some (.int .i64 a0_1) := (x3c BK137.out 1).trans rfl; have hcz22_2 : w21.cell? ⟨gb137, 2, none⟩ = some (.slice A0_2 l0_2.length c0_2) := (x3c BK137.out 2).trans rfl; have hfz22_0 := x2c BK137.out 0; have hfz22_1 := x2c BK137.out 1; have hfz22_2 := x2c BK137.out 2) | (go_at_call 29; (with_reducible refine (impl_celled.calls (wrap64 (2 * a0_0)) (wrap64 (2 * a0_1)) false _ A4.out).mono ?_); rintro e w' ⟨rfl, ⟨nd, rfl⟩⟩; (try (rw [drewN_self w21]; generalize hq_ : World.drewN w21 _ = w21; have n0_ : Aside0 (w21.heap[gb137]? = some (.cells #[.int .i64 a0_0, .int .i64 a0_1, .slice A0_2 l0_2.length c0_2] 31 (0, 0))) := ⟨by rw [← hq_]; exact (bV BK137.out)⟩; have n1_ : Aside0 (w21.heap[gb138]? = some (.cells #[.int .i64 0, .int .i64 0, .slice none 0 0] 31 (0, 0))) := ⟨by rw [← hq_]; exact (bV BK138.out)⟩; have n2_ : Aside0 (Below w.heap.size w w21) := ⟨by rw [← hq_]; exact (dV HB.out)⟩; clear BK137 BK138 HB hq_; have BK137 := n0_; have BK138 := n1_; have HB := n2_; clear n0_ n1_ n2_)); have hcz23_0 : w21.cell? ⟨gb138, 0, none⟩ = some (.int .i64 0) := (x3c BK138.out 0).trans rfl; have hcz23_1 : w21.cell? ⟨gb138, 1, none⟩ = some (.int .i64 0) := (x3c BK138.out 1).trans rfl; have hcz23_2 : w21.cell? ⟨gb138, 2, none⟩ = some (.slice none 0 0) := (x3c BK138.out 2).trans rfl; have hfz23_0 := x2c BK138.out 0; have hfz23_1 := x2c BK138.out 1; have hfz23_2 := x2c BK138.out 2))
   refine bodyPost_ret (results_ct rfl _ _ gb138 31 #[.int .i64 0, .int .i64 0, .slice none 0 0] (0, 0) _ rfl (by (with_reducible repeat (first | refine z1c ?_ _ | refine z3c ?_ | refine z2c ?_ _)); refine blk_put (cs := #[.int .i64 0, .int .i64 0, .slice none 0 0]) ?_ 2 _ rfl; (with_reducible repeat (first | refine z1c ?_ _ | refine z3c ?_ | refine z2c ?_ _)); refine blk_put (cs := #[.int .i64 0, .int .i64 0, .slice none 0 0]) ?_ 1 _ rfl; (with_reducible repeat (first | refine z1c ?_ _ | refine z3c ?_ | refine z2c ?_ _)); refine blk_put (cs := #[.int .i64 0, .int .i64 0, .slice none 0 0]) ?_ 0 _ rfl; (with_reducible repeat (first | refine z1c ?_ _ | refine z3c ?_ | refine z2c ?_ _)); exact BK138.out) Tryz.underlying31 rfl (by kernel_rfl)) rfl ?_
   exact ⟨_, by first | rfl | (simp [errW_none, errW_some] <;> rfl) | (simp [*, errW_none, errW_some] <;> rfl), by first | exact Kd.R_nil _ _ _ _ _ | exact Kd.N_nil _ _ _ _ _ | exact Kd.V_nil _ _ _ _ _ | exact Kd.Q_nil _ _ _ _ _ | exact Kd.S_nil _ _ _ _ _, dV HB.out⟩
 ·replace c3 := Bool.eq_false_iff.mpr c3
  subst c3
  rw [if_neg (show ¬ (false = true) by decide)] at H
  simp only [Option.some.injEq, Prod.mk.injEq] at H
  obtain ⟨rfl, rfl, rfl, rfl⟩ := H
  go_enter Tryz.func15, Tryz.ntmps15
  go_wp2_with (first | ((with_reducible refine gate_dst (N := 1) rfl ?_); refine box_event rfl (N := 1) rfl (cs := #[.int .i64 a0_0, .int .i64 a0_1, .slice A0_2 l0_2.length c0_2]) (t := 31) (by first | (go_simp; done) | (go_simp; rfl)) ?_; intro gb137 hg w24 hbox hb; have n_ := a4 (dU HB.out hb) (hbox) (gE hg HB.out) (gE hg HB.out); clear HB; obtain ⟨HB, BK137, GW137, GE137⟩ := n_; have gi_137 := GEc.mk GE137.out; clear hb hbox hg) | ((with_reducible refine gate_dst (N := 2) rfl ?_); refine box_event rfl (N := 2) rfl (cs := #[.int .i64 0, .int .i64 0, .slice none 0 0]) (t := 31) (by first | (go_simp; done) | (go_simp; rfl)) ?_; intro gb138 hg w25 hbox hb; have n_ := a7 (bU BK137.out hb) (dU HB.out hb) (hbox) (gE hg HB.out) (gE hg HB.out) (nL hg BK137.out) (nG hg BK137.out); clear BK137 HB; obtain ⟨BK137, HB, BK138, GW138, GE138, NB137_138, NB138_137⟩ := n_; have gi_138 := GEc.mk GE138.out; clear hb hbox hg; have hnb26 := NB137_138.out; have hnc26 := NB138_137.out; have hcz27_0 : w25.cell? ⟨gb137, 0, none⟩ = some (.int .i64 a0_0) := (x3c BK137.out 0).trans rfl; have hcz27_1 : w25.cell? ⟨gb137, 1, none⟩ = some (.int .i64 a0_1) := (x3c BK137.out 1).trans rfl; have hcz27_2 : w25.cell? ⟨gb137, 2, none⟩ = some (.slice A0_2 l0_2.length c0_2) := (x3c BK137.out 2).trans rfl; have hfz27_0 := x2c BK137.out 0; have hfz27_1 := x2c BK137.out 1; have hfz27_2 := x2c BK137.out 2) | ((with_reducible refine gate_callee (f := 16) rfl ?_); refine goesL_ (some 5) rfl rfl Tryz.func16 (by kernel_rfl) rfl #[.agg #[.int .i64 a0_0, .int .i64 a0_1, .slice A0_2 l0_2.length c0_2]] rfl (by (try simp only [List.map_toArray, List.map_cons, List.map_nil]); first | done | rfl | (simp only [List.length_drop, List.length_take]; rfl)) ?_; (with_reducible refine (impl_IsMatrix.calls a0_0 a0_1 _ _ l0_2 false _ ?side1 ?side2 A2.out).mono ?_); (case side1 => repeat (first | exact HR0_2.out | exact (Kd.C_below HR0_2.out HB.out) | (with_reducible refine y2c ?_ _) | (with_reducible refine y3c ?_ _) | (with_reducible refine y4c ?_))); (case side2 => exact HC0_2.out); rintro e w28 ⟨rfl, hb⟩; refine ⟨_, rfl, ?_⟩; have n_ := a3 (bU BK137.out hb) (bU BK138.out hb) (dU HB.out hb); clear BK137 BK138 HB; obtain ⟨BK137, BK138, HB⟩ := n_; (try clear hb); have hcz29_0 : w28.cell? ⟨gb138, 0, none⟩ = some (.int .i64 0) := (x3c BK138.out 0).trans rfl; have hcz29_1 : w28.cell? ⟨gb138, 1, none⟩ = some (.int .i64 0) := (x3c BK138.out 1).trans rfl; have hcz29_2 : w28.cell? ⟨gb138, 2, none⟩ = some (.slice none 0 0) := (x3c BK138.out 2).trans rfl; have hfz29_0 := x2c BK138.out 0; have hfz29_1 := x2c BK138.out 1; have hfz29_2 := x2c BK138.out 2))
  refine bodyPost_ret (results_ct rfl _ _ gb138 31 #[.int .i64 0, .int .i64 0, .slice none 0 0] (0, 0) _ rfl (by (with_reducible repeat (first | refine z1c ?_ _ | refine z3c ?_ | refine z2c ?_ _)); refine blk_put (cs := #[.int .i64 0, .int .i64 0, .slice none 0 0]) ?_ 2 _ rfl; (with_reducible repeat (first | refine z1c ?_ _ | refine z3c ?_ | refine z2c ?_ _)); refine blk_put (cs := #[.int .i64 0, .int .i64 0, .slice none 0 0]) ?_ 1 _ rfl; (with_reducible repeat (first | refine z1c ?_ _ | refine z3c ?_ | refine z2c ?_ _)); refine blk_put (cs := #[.int .i64 0, .int .i64 0, .slice none 0 0]) ?_ 0 _ rfl; (with_reducible repeat (first | refine z1c ?_ _ | refine z3c ?_ | refine z2c ?_ _)); exact BK138.out) Tryz.underlying31 rfl (by kernel_rfl)) rfl ?_
  exact ⟨_, by first | rfl | (simp [errW_none, errW_some] <;> rfl) | (simp [*, errW_none, errW_some] <;> rfl), by first | exact Kd.R_nil _ _ _ _ _ | exact Kd.N_nil _ _ _ _ _ | exact Kd.V_nil _ _ _ _ _ | exact Kd.Q_nil _ _ _ _ _ | exact Kd.S_nil _ _ _ _ _, dV HB.out⟩

end Go.Proofs.YtkcgnnepgebekaaGreatDoor.PFnDesk
