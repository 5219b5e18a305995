/- Machine side of laws FnDesk: written for this claim by the kit's print program under this session's wip/tools/mp_setup.py (with contracts of the session's own, wip/ext). -/
import Derived.Test.YtkcgnnepgebekaaGreatDoorPFnDeskx0
import Derived.Test.YtkcgnnepgebekaaGreatDoorPFnDeskx1
import Derived.Test.YtkcgnnepgebekaaGreatDoorPFnDeskx2
import Derived.Test.YtkcgnnepgebekaaGreatDoorPFnDeskx3
namespace Go.Proofs.YtkcgnnepgebekaaGreatDoor.PFnDesk
open Go.RowKit Go.Proofs.YtkcgnnepgebekaaGreatDoorW.PrintWords Go.Proofs.YtkcgnnepgebekaaGreatDoorW.PrintLast Go.Proofs.YtkcgnnepgebekaaGreatDoorW.PrintMore
attribute [local go_sem] max2_int min2_int max_two min_two max_three min_three max_four min_four   -- for this text's walks alone
set_option linter.unusedVariables false
set_option linter.unusedSimpArgs false
-- squeezed: words under short names
set_option linter.defProp false in
def z0e := @Aside0.mk
set_option linter.defProp false in
def z1e := @blk_drewN
set_option linter.defProp false in
def z2e := @blk_alloc
set_option linter.defProp false in
def z3e := @blk_drew
set_option linter.defProp false in
def z8e := @Kd.R_alloc
set_option linter.defProp false in
def z9e := @Kd.R_drewN
set_option linter.defProp false in
def y1e := @Kd.R_drew
set_option linter.defProp false in
def y2e := @Kd.C_alloc
set_option linter.defProp false in
def y3e := @Kd.C_drewN
set_option linter.defProp false in
def y4e := @Kd.C_drew
set_option linter.defProp false in
def y7e := @below_size
set_option linter.defProp false in
def y9e := @Kd.C_below
set_option linter.defProp false in
def x1e := @Kd.R_far
set_option linter.defProp false in
def x2e := @blk_frozen
set_option linter.defProp false in
def x3e := @blk_cell
set_option linter.defProp false in
def x7e := @Kd.R_types
def bse_ (n m : Nat) : Array Bool := ((List.range n).map fun i => m.testBit i).toArray
theorem s1e_ {α : Type} (l : List α) (i : Nat) (a : α) : l.toArray.setIfInBounds i a = (l.set i a).toArray := List.setIfInBounds_toArray l i a
theorem s2e_ {α : Type} (a b : α) (l : List α) : (a :: l).set 0 b = b :: l := rfl
theorem s3e_ {α : Type} (a b : α) (n : Nat) (l : List α) : (a :: l).set (n + 1) b = a :: l.set n b := rfl

def impl_gcd.l0 : Nat → Int → Int → Option (Int)
 | 0, _, _ => none
 | k + 1, x0, x1 => if x1 = 0 then (some x0) else (impl_gcd.l0 k x1 (Int.tmod x0 x1))
def impl_gcd.f (k : Nat) (a0 : Int) (a1 : Int) : Option (Int) := impl_gcd.l0 k a0 a1
set_option maxHeartbeats 8000000 in
set_option maxRecDepth 100000 in
theorem impl_gcd.calls (k : Nat) (a0 : Int) (a1 : Int) (r : Int) (w : World) (h : impl_gcd.f k a0 a1 = some r) :
  Calls Tryz.prog 23 #[.int .i64 a0, .int .i64 a1] w fun e w' => e = .returned (.int .i64 r) ∧ Drawn0 w w' := by
 have H := h
 unfold impl_gcd.f at H
 clear h
 have H' := z0e H
 clear H
 go_enter Tryz.func23, Tryz.ntmps23
 go_wp2
 repeat (go_quiet (fail); try go_wp2)
 go_loopg [0, 1] k (fun kq v0 v1 w' => ∃ (x0_1 : Int) (x1_1 : Int), v0 = .int .i64 x0_1 ∧ v1 = .int .i64 x1_1 ∧ Aside0 (impl_gcd.l0 kq x0_1 x1_1 = some r) ∧ Aside0 (kq ≤ k) ∧ Drawn0 w w')
 case atStart => exact ⟨(a0), (a1), (by first | rfl | (simp; done) | (simp [*]; done)), (by first | rfl | (simp; done) | (simp [*]; done)), H', ⟨Nat.le_refl _⟩, by repeat (first | exact Drawn0.refl _ | apply Drawn0.step)⟩
 case round =>
  clear H'
  try clear c2
  try clear p2
  obtain ⟨x0_1, x1_1, rfl, rfl, HA, HK1, ⟨m1, rfl⟩⟩ := hrel
  cases gk with
  | zero => exact absurd HA.out (by simp [impl_gcd.l0])
  | succ k1 =>
   have H := HA.out
   clear HA
   simp only [impl_gcd.l0] at H
   by_cases c3 : x1_1 = 0
   ·rw [if_pos c3] at H
    have c3b0 : (x1_1 == 0) = true := beq_iff_eq.mpr c3
    have c3b1 : (x1_1 != 0) = false := bne_eq_false_iff_eq.mpr c3
    clear c3
    obtain rfl := Option.some.inj H
    go_wp2
    repeat (go_quiet (fail); try go_wp2)
    go_ret
    exact ⟨by first | rfl | (simp; done) | (simp [*]; done), by repeat (first | exact Drawn0.refl _ | apply Drawn0.step)⟩
   ·rw [if_neg c3] at H
    have c3b0 : (x1_1 == 0) = false := beq_eq_false_iff_ne.mpr c3
    have c3b1 : (x1_1 != 0) = true := bne_iff_ne.mpr c3
    have H' := z0e H
    clear H
    go_wp2
    repeat (go_quiet (fail); try go_wp2)
    go_roundg k1
    case measure => have := HK1.out; omega
    case rel => exact ⟨(x1_1), (Int.tmod x0_1 x1_1), (by first | rfl | (simp; done) | (simp [*]; done)), (by first | rfl | (simp; done) | (simp [*]; done)), H', ⟨by have := HK1.out; omega⟩, by repeat (first | exact Drawn0.refl _ | apply Drawn0.step)⟩

def impl_MeanOf.f (k : Nat) (a0_0 : Int) (a0_1 : Int) (l0_2 : List Int) : Option (Int × Int) := (impl_IsPicture.f a0_0 a0_1 l0_2).bind fun t178 => (if t178 = true then ((impl_SumInk.f k a0_0 a0_1 l0_2).bind fun t179 => ((impl_gcd.f k t179 (l0_2.length : Int)).bind fun t180 => (if t180 = 0 then (none) else (some (wrap64 (Int.tdiv t179 t180), wrap64 ((l0_2.length : Int) / t180)))))) else (some (0, 0)))
def impl_MeanOf.T5 : Bool × List (List Nat × List Nat) := (true, [([], []), ([], []), ([0, 1], [0, 1]), ([], []), ([], []), ([3, 4], [3, 4]), ([2, 0, 1, 2], [2]), ([5, 6, 0, 1, 2, 3, 4, 5, 6], [5])])
def impl_MeanOf.B5 : List Nat := [0, 0, 3, 0, 0, 24, 7, 127]
theorem impl_MeanOf.tab5 : rtab .any (opsOf Tryz.f9 5) = impl_MeanOf.T5 := by kernel_rfl
theorem impl_MeanOf.bits5 : waitsOk impl_MeanOf.T5.2 impl_MeanOf.B5 = true := by kernel_rfl
set_option maxHeartbeats 8000000 in
set_option maxRecDepth 100000 in
theorem impl_MeanOf.calls (k : Nat) (a0_0 : Int) (a0_1 : Int) (A0_2 : Option Addr) (c0_2 : Nat) (l0_2 : List Int) (r1 : Int) (r2 : Int) (w : World) (hr0_2 : Kd.C (Kd.int .i64) w A0_2 l0_2.length l0_2) (hc0_2 : l0_2.length ≤ c0_2) (h : impl_MeanOf.f k a0_0 a0_1 l0_2 = some (r1, r2)) :
  Calls Tryz.prog 9 #[.agg #[.int .i64 a0_0, .int .i64 a0_1, .slice A0_2 l0_2.length c0_2]] w fun e w' => e = .returned (.tuple #[.int .i64 r1, .int .i64 r2]) ∧ Below w.heap.size w w' := by
 have hu27 := Tryz.underlying27
 have HR0_2 := z0e hr0_2
 have HC0_2 := z0e hc0_2
 clear hr0_2 hc0_2
 have HB := z0e (Below.refl w.heap.size w)
 have H := h
 unfold impl_MeanOf.f at H
 clear h
 replace H := Option.bind_eq_some_iff.mp H
 obtain ⟨t178, A20, H⟩ := H
 (try dsimp only at H)
 have A2 := z0e A20
 clear A20
 by_cases c3 : t178 = true
 ·subst c3
  rw [if_pos rfl] at H
  replace H := Option.bind_eq_some_iff.mp H
  obtain ⟨t179, A40, H⟩ := H
  (try dsimp only at H)
  have A4 := z0e A40
  clear A40
  replace H := Option.bind_eq_some_iff.mp H
  obtain ⟨t180, A50, H⟩ := H
  (try dsimp only at H)
  have A5 := z0e A50
  clear A50
  by_cases c6 : t180 = 0
  ·rw [if_pos c6] at H
   exact absurd H (by simp)
  ·rw [if_neg c6] at H
   have c6b0 : (t180 == 0) = false := beq_eq_false_iff_ne.mpr c6
   have c6b1 : (t180 != 0) = true := bne_iff_ne.mpr c6
   simp only [Option.some.injEq, Prod.mk.injEq] at H
   obtain ⟨rfl, rfl⟩ := H
   go_enter Tryz.func9, Tryz.ntmps9
   try go_wp2_with (first | ((with_reducible refine gate_dst (N := 1) rfl ?_); refine box_event rfl (N := 1) rfl (cs := #[.int .i64 a0_0, .int .i64 a0_1, .slice A0_2 l0_2.length c0_2]) (t := 27) (by first | (go_simp; done) | (go_simp; rfl)) ?_; intro gb177 hg w7 hbox hb; have n_ := a4 (dU HB.out hb) (hbox) (gE hg HB.out) (gE hg HB.out); clear HB; obtain ⟨HB, BK177, GW177, GE177⟩ := n_; have gi_177 := GEc.mk GE177.out; clear hb hbox hg; have hcz8_0 : w7.cell? ⟨gb177, 0, none⟩ = some (.int .i64 a0_0) := (x3e BK177.out 0).trans rfl; have hcz8_1 : w7.cell? ⟨gb177, 1, none⟩ = some (.int .i64 a0_1) := (x3e BK177.out 1).trans rfl; have hcz8_2 : w7.cell? ⟨gb177, 2, none⟩ = some (.slice A0_2 l0_2.length c0_2) := (x3e BK177.out 2).trans rfl; have hfz8_0 := x2e BK177.out 0; have hfz8_1 := x2e BK177.out 1; have hfz8_2 := x2e BK177.out 2) | ((with_reducible refine gate_callee (f := 17) rfl ?_); refine goesL_ (some 8) rfl rfl Tryz.func17 (by kernel_rfl) rfl #[.agg #[.int .i64 a0_0, .int .i64 a0_1, .slice A0_2 l0_2.length c0_2]] rfl (by (try simp only [List.map_toArray, List.map_cons, List.map_nil]); first | done | rfl | (simp only [List.length_drop, List.length_take]; rfl)) ?_; (with_reducible refine (impl_IsPicture.calls a0_0 a0_1 _ _ l0_2 true _ ?side1 ?side2 A2.out).mono ?_); (case side1 => repeat (first | exact HR0_2.out | exact (y9e HR0_2.out HB.out) | (with_reducible refine y2e ?_ _) | (with_reducible refine y3e ?_ _) | (with_reducible refine y4e ?_))); (case side2 => exact HC0_2.out); rintro e w9 ⟨rfl, hb⟩; refine ⟨_, rfl, ?_⟩; have n_ := a2 (bU BK177.out hb) (dU HB.out hb); clear BK177 HB; obtain ⟨BK177, HB⟩ := n_; (try clear hb)))
   have n_ := a2 (z3e BK177.out) (below_drew1 HB.out); clear BK177 HB; obtain ⟨BK177, HB⟩ := n_
   refine start_ (n := 7) (S := fun w' => w'.cell? ⟨gb177, 0, none⟩ = some (.int .i64 a0_0) ∧ w'.cell? ⟨gb177, 1, none⟩ = some (.int .i64 a0_1) ∧ w'.cell? ⟨gb177, 2, none⟩ = some (.slice A0_2 l0_2.length c0_2)) (ds := []) #[false, false, false, false, false, false, false] (by kernel_rfl) rfl rfl ⟨(x3e BK177.out 0).trans rfl, (x3e BK177.out 1).trans rfl, (x3e BK177.out 2).trans rfl⟩ (fun hHeld => ?_)
   generalize w9.drew = w10 at BK177 HB hHeld ⊢
   refine pure_ (i := 2) (N := some 12) (v := ?_) (a' := ?_) #[false, false, true, false, false, false, false] rfl rfl (by kernel_rfl) (fun _ _ _ h => h) (Or.inl ⟨by rfl, ?_⟩) ?_ ?_
   rotate_left
   ·intro w'
    go_simp
    with_reducible rfl
   rotate_left
   ·simp only [Act.put, s1e_, s2e_, s3e_, i64_w, i32_w]
    rfl
   refine take_ (i := 0) (N := some 10) (v := ?_) (a' := ?_) #[true, false, true, false, false, false, false] rfl rfl (by kernel_rfl) (fun _ _ _ h => h) (Or.inl ⟨by rfl, ?_⟩) hHeld ?_ ?_
   rotate_left
   ·rintro w' ⟨s0, s1, s2⟩
    go_simp
    with_reducible rfl
   rotate_left
   ·simp only [Act.put, s1e_, s2e_, s3e_, i64_w, i32_w]
    rfl
   refine take_ (i := 3) (N := some 13) (v := ?_) (a' := ?_) #[true, false, true, true, false, false, false] rfl rfl (by kernel_rfl) (fun _ _ _ h => h) (Or.inl ⟨by rfl, ?_⟩) hHeld ?_ ?_
   rotate_left
   ·rintro w' ⟨s0, s1, s2⟩
    go_simp
    with_reducible rfl
   rotate_left
   ·simp only [Act.put, s1e_, s2e_, s3e_, i64_w, i32_w]
    rfl
   refine pure_ (i := 4) (N := some 14) (v := ?_) (a' := ?_) #[true, false, true, true, true, false, false] rfl rfl (by kernel_rfl) (fun _ _ _ h => h) (Or.inl ⟨by rfl, ?_⟩) ?_ ?_
   rotate_left
   ·intro w'
    go_simp
    with_reducible rfl
   rotate_left
   ·simp only [Act.put, s1e_, s2e_, s3e_, i64_w, i32_w]
    rfl
   refine one_ (i := 1) (N := some 11) #[true, true, true, true, true, false, false] rfl rfl (by kernel_rfl) (by decide) (fun K hK => ?_)
   refine goes_ Tryz.func22 (by kernel_rfl) rfl #[.agg #[.int .i64 a0_0, .int .i64 a0_1, .slice A0_2 l0_2.length c0_2]] (by rfl) rfl rfl (by (try simp only [List.map_toArray, List.map_cons, List.map_nil]); first | done | rfl | (simp only [List.length_drop, List.length_take]; rfl)) ?_
   with_reducible refine (impl_SumInk.calls k a0_0 a0_1 _ _ l0_2 t179 _ ?side1 ?side2 A4.out).mono ?_
   (case side1 => repeat (first | exact HR0_2.out | exact (y9e HR0_2.out HB.out) | (with_reducible refine y2e ?_ _) | (with_reducible refine y3e ?_ _) | (with_reducible refine y4e ?_)))
   (case side2 => exact HC0_2.out)
   rintro e w11 ⟨rfl, hb⟩
   refine ⟨_, rfl, ?_⟩
   have n_ := a2 (bU BK177.out hb) (dU HB.out hb); clear BK177 HB; obtain ⟨BK177, HB⟩ := n_
   (try clear hb)
   refine hK.out _ _ ⟨(x3e BK177.out 0).trans rfl, (x3e BK177.out 1).trans rfl, (x3e BK177.out 2).trans rfl⟩ (fun hHeld => ?_)
   clear hK K
   refine norm_ (a' := ?_) ?_ ?_
   rotate_left
   ·show Act.put _ (some 11) _ = _
    simp only [Act.put, s1e_, s2e_, s3e_, i64_w, i32_w]
    rfl
   refine pure_ (i := 5) (N := some 4) (v := ?_) (a' := ?_) #[true, true, true, true, true, true, false] rfl rfl (by kernel_rfl) (fun _ _ _ h => h) (Or.inl ⟨by rfl, ?_⟩) ?_ ?_
   rotate_left
   ·intro w'
    go_simp
    with_reducible rfl
   rotate_left
   ·simp only [Act.put, s1e_, s2e_, s3e_, i64_w, i32_w]
    rfl
   refine pure_ (i := 6) (N := some 5) (v := ?_) (a' := ?_) #[true, true, true, true, true, true, true] rfl rfl (by kernel_rfl) (fun _ _ _ h => h) (Or.inl ⟨by rfl, ?_⟩) ?_ ?_
   rotate_left
   ·intro w'
    go_simp
    with_reducible rfl
   rotate_left
   ·simp only [Act.put, s1e_, s2e_, s3e_, i64_w, i32_w]
    rfl
   refine done_ (by kernel_rfl) ?_
   try go_wp2_with (first | ((with_reducible refine gate_callee (f := 23) rfl ?_); refine goesL_ (some 17) rfl rfl Tryz.func23 (by kernel_rfl) rfl #[.int .i64 t179, .int .i64 (l0_2.length : Int)] rfl (by (try simp only [List.map_toArray, List.map_cons, List.map_nil]); first | done | rfl | (simp only [List.length_drop, List.length_take]; rfl)) ?_; (with_reducible refine (impl_gcd.calls k t179 (l0_2.length : Int) t180 _ A5.out).mono ?_); rintro e w' ⟨rfl, ⟨nd, rfl⟩⟩; refine ⟨_, rfl, ?_⟩))
   (try (rw [drewN_self w11]; generalize hq_ : World.drewN w11 _ = w11; have n0_ : Aside0 (w11.heap[gb177]? = some (.cells #[.int .i64 a0_0, .int .i64 a0_1, .slice A0_2 l0_2.length c0_2] 27 (0, 0))) := ⟨by rw [← hq_]; exact (bV BK177.out)⟩; have n1_ : Aside0 (Below w.heap.size w w11) := ⟨by rw [← hq_]; exact (dV HB.out)⟩; clear BK177 HB hq_; have BK177 := n0_; have HB := n1_; clear n0_ n1_))
   have n_ := a2 (z3e BK177.out) (below_drew1 HB.out); clear BK177 HB; obtain ⟨BK177, HB⟩ := n_
   refine start_ (n := 8) (S := fun w' => True) (ds := []) (bse_ 8 0) (by kernel_rfl) rfl rfl trivial (fun hHeld => ?_); refine with_tabW impl_MeanOf.tab5 impl_MeanOf.bits5 (fun HT_ HW_ => ?_)
   generalize w11.drew = w12 at BK177 HB hHeld ⊢
   refine pz 0 (some 18) ?_ (bse_ 8 1) rfl rfl HT_.out (by kernel_rfl) (fun _ _ _ h => h) (Or.inl ⟨by rfl, ?_⟩) ?_ ?_ ?_
   rotate_left
   ·intro w'
    go_simp
    with_reducible rfl
   rotate_left
   ·simp only [Act.put, s1e_, s2e_, s3e_, i64_w, i32_w]
    rfl
   refine pz 1 (some 19) ?_ (bse_ 8 3) rfl rfl HT_.out (by kernel_rfl) (fun _ _ _ h => h) (Or.inl ⟨by rfl, ?_⟩) ?_ ?_ ?_
   rotate_left
   ·intro w'
    go_simp
    with_reducible rfl
   rotate_left
   ·simp only [Act.put, s1e_, s2e_, s3e_, i64_w, i32_w]
    rfl
   refine pz 2 (some 20) ?_ (bse_ 8 7) rfl rfl HT_.out (by kernel_rfl) (fun _ _ _ h => h) (Or.inl ⟨by rfl, ?_⟩) ?_ ?_ ?_
   rotate_left
   ·intro w'
    go_simp
    with_reducible rfl
   rotate_left
   ·simp only [Act.put, s1e_, s2e_, s3e_, i64_w, i32_w]
    rfl
   refine pz 3 (some 21) ?_ (bse_ 8 15) rfl rfl HT_.out (by kernel_rfl) (fun _ _ _ h => h) (Or.inl ⟨by rfl, ?_⟩) ?_ ?_ ?_
   rotate_left
   ·intro w'
    go_simp
    with_reducible rfl
   rotate_left
   ·simp only [Act.put, s1e_, s2e_, s3e_, i64_w, i32_w]
    rfl
   refine pz 4 (some 22) ?_ (bse_ 8 31) rfl rfl HT_.out (by kernel_rfl) (fun _ _ _ h => h) (Or.inl ⟨by rfl, ?_⟩) ?_ ?_ ?_
   rotate_left
   ·intro w'
    go_simp
    with_reducible rfl
   rotate_left
   ·simp only [Act.put, s1e_, s2e_, s3e_, i64_w, i32_w]
    rfl
   refine pz 5 (some 23) ?_ (bse_ 8 63) rfl rfl HT_.out (by kernel_rfl) (fun _ _ _ h => h) (Or.inl ⟨by rfl, ?_⟩) ?_ ?_ ?_
   rotate_left
   ·intro w'
    go_simp
    with_reducible rfl
   rotate_left
   ·simp only [Act.put, s1e_, s2e_, s3e_, i64_w, i32_w]
    rfl
   refine pz 6 (some 2) ?_ (bse_ 8 127) rfl rfl HT_.out (by kernel_rfl) (fun _ _ _ h => h) (Or.inl ⟨by rfl, ?_⟩) ?_ ?_ ?_
   rotate_left
   ·intro w'
    go_simp
    with_reducible rfl
   rotate_left
   ·simp only [Act.put, s1e_, s2e_, s3e_, i64_w, i32_w]
    rfl
   refine pz 7 (some 3) ?_ (bse_ 8 255) rfl rfl HT_.out (by kernel_rfl) (fun _ _ _ h => h) (Or.inl ⟨by rfl, ?_⟩) ?_ ?_ ?_
   rotate_left
   ·intro w'
    go_simp
    with_reducible rfl
   rotate_left
   ·simp only [Act.put, s1e_, s2e_, s3e_, i64_w, i32_w]
    rfl
   refine done_ (done_of HT_.out (by kernel_rfl)) ?_
   try go_wp2
   go_ret2
   exact ⟨by first | rfl | (simp [errW_none, errW_some] <;> rfl) | (simp [*, errW_none, errW_some] <;> rfl), dV HB.out⟩
 ·replace c3 := Bool.eq_false_iff.mpr c3
  subst c3
  rw [if_neg (show ¬ (false = true) by decide)] at H
  simp only [Option.some.injEq, Prod.mk.injEq] at H
  obtain ⟨rfl, rfl⟩ := H
  go_enter Tryz.func9, Tryz.ntmps9
  go_wp2_with (first | ((with_reducible refine gate_dst (N := 1) rfl ?_); refine box_event rfl (N := 1) rfl (cs := #[.int .i64 a0_0, .int .i64 a0_1, .slice A0_2 l0_2.length c0_2]) (t := 27) (by first | (go_simp; done) | (go_simp; rfl)) ?_; intro gb177 hg w13 hbox hb; have n_ := a4 (dU HB.out hb) (hbox) (gE hg HB.out) (gE hg HB.out); clear HB; obtain ⟨HB, BK177, GW177, GE177⟩ := n_; have gi_177 := GEc.mk GE177.out; clear hb hbox hg; have hcz14_0 : w13.cell? ⟨gb177, 0, none⟩ = some (.int .i64 a0_0) := (x3e BK177.out 0).trans rfl; have hcz14_1 : w13.cell? ⟨gb177, 1, none⟩ = some (.int .i64 a0_1) := (x3e BK177.out 1).trans rfl; have hcz14_2 : w13.cell? ⟨gb177, 2, none⟩ = some (.slice A0_2 l0_2.length c0_2) := (x3e BK177.out 2).trans rfl; have hfz14_0 := x2e BK177.out 0; have hfz14_1 := x2e BK177.out 1; have hfz14_2 := x2e BK177.out 2) | ((with_reducible refine gate_callee (f := 17) rfl ?_); refine goesL_ (some 8) rfl rfl Tryz.func17 (by kernel_rfl) rfl #[.agg #[.int .i64 a0_0, .int .i64 a0_1, .slice A0_2 l0_2.length c0_2]] rfl (by (try simp only [List.map_toArray, List.map_cons, List.map_nil]); first | done | rfl | (simp only [List.length_drop, List.length_take]; rfl)) ?_; (with_reducible refine (impl_IsPicture.calls a0_0 a0_1 _ _ l0_2 false _ ?side1 ?side2 A2.out).mono ?_); (case side1 => repeat (first | exact HR0_2.out | exact (y9e HR0_2.out HB.out) | (with_reducible refine y2e ?_ _) | (with_reducible refine y3e ?_ _) | (with_reducible refine y4e ?_))); (case side2 => exact HC0_2.out); rintro e w15 ⟨rfl, hb⟩; refine ⟨_, rfl, ?_⟩; have n_ := a2 (bU BK177.out hb) (dU HB.out hb); clear BK177 HB; obtain ⟨BK177, HB⟩ := n_; (try clear hb)))
  go_ret2
  exact ⟨by first | rfl | (simp [errW_none, errW_some] <;> rfl) | (simp [*, errW_none, errW_some] <;> rfl), dV HB.out⟩

def impl_IsPlate.f (a0_0 : Int) (a0_1 : Int) (l0_2 : List Int) : Option (Bool) := (impl_IsPicture.f a0_0 a0_1 l0_2).bind fun t182 => (if t182 = true then ((impl_within.f l0_2 1).bind fun t183 => (some t183)) else (some false))
set_option maxHeartbeats 8000000 in
set_option maxRecDepth 100000 in
theorem impl_IsPlate.calls (a0_0 : Int) (a0_1 : Int) (A0_2 : Option Addr) (c0_2 : Nat) (l0_2 : List Int) (r : Bool) (w : World) (hr0_2 : Kd.C (Kd.int .i64) w A0_2 l0_2.length l0_2) (hc0_2 : l0_2.length ≤ c0_2) (h : impl_IsPlate.f a0_0 a0_1 l0_2 = some r) :
  Calls Tryz.prog 24 #[.agg #[.int .i64 a0_0, .int .i64 a0_1, .slice A0_2 l0_2.length c0_2]] w fun e w' => e = .returned (.bool r) ∧ Below w.heap.size w w' := by
 have hu27 := Tryz.underlying27
 have HR0_2 := z0e hr0_2
 have HC0_2 := z0e hc0_2
 clear hr0_2 hc0_2
 have HB := z0e (Below.refl w.heap.size w)
 have H := h
 unfold impl_IsPlate.f at H
 clear h
 replace H := Option.bind_eq_some_iff.mp H
 obtain ⟨t182, A20, H⟩ := H
 (try dsimp only at H)
 have A2 := z0e A20
 clear A20
 by_cases c3 : t182 = true
 ·subst c3
  rw [if_pos rfl] at H
  replace H := Option.bind_eq_some_iff.mp H
  obtain ⟨t183, A40, H⟩ := H
  (try dsimp only at H)
  have A4 := z0e A40
  clear A40
  obtain rfl := Option.some.inj H
  go_enter Tryz.func24, Tryz.ntmps24
  go_wp2_with (first | ((with_reducible refine gate_dst (N := 1) rfl ?_); refine box_event rfl (N := 1) rfl (cs := #[.int .i64 a0_0, .int .i64 a0_1, .slice A0_2 l0_2.length c0_2]) (t := 27) (by first | (go_simp; done) | (go_simp; rfl)) ?_; intro gb181 hg w5 hbox hb; have n_ := a4 (dU HB.out hb) (hbox) (gE hg HB.out) (gE hg HB.out); clear HB; obtain ⟨HB, BK181, GW181, GE181⟩ := n_; have gi_181 := GEc.mk GE181.out; clear hb hbox hg; have hcz6_0 : w5.cell? ⟨gb181, 0, none⟩ = some (.int .i64 a0_0) := (x3e BK181.out 0).trans rfl; have hcz6_1 : w5.cell? ⟨gb181, 1, none⟩ = some (.int .i64 a0_1) := (x3e BK181.out 1).trans rfl; have hcz6_2 : w5.cell? ⟨gb181, 2, none⟩ = some (.slice A0_2 l0_2.length c0_2) := (x3e BK181.out 2).trans rfl; have hfz6_0 := x2e BK181.out 0; have hfz6_1 := x2e BK181.out 1; have hfz6_2 := x2e BK181.out 2) | ((with_reducible refine gate_callee (f := 17) rfl ?_); refine goesL_ (some 4) rfl rfl Tryz.func17 (by kernel_rfl) rfl #[.agg #[.int .i64 a0_0, .int .i64 a0_1, .slice A0_2 l0_2.length c0_2]] rfl (by (try simp only [List.map_toArray, List.map_cons, List.map_nil]); first | done | rfl | (simp only [List.length_drop, List.length_take]; rfl)) ?_; (with_reducible refine (impl_IsPicture.calls a0_0 a0_1 _ _ l0_2 true _ ?side1 ?side2 A2.out).mono ?_); (case side1 => repeat (first | exact HR0_2.out | exact (y9e HR0_2.out HB.out) | (with_reducible refine y2e ?_ _) | (with_reducible refine y3e ?_ _) | (with_reducible refine y4e ?_))); (case side2 => exact HC0_2.out); rintro e w7 ⟨rfl, hb⟩; refine ⟨_, rfl, ?_⟩; have n_ := a2 (bU BK181.out hb) (dU HB.out hb); clear BK181 HB; obtain ⟨BK181, HB⟩ := n_; (try clear hb); have hcz8_0 : w7.cell? ⟨gb181, 0, none⟩ = some (.int .i64 a0_0) := (x3e BK181.out 0).trans rfl; have hcz8_1 : w7.cell? ⟨gb181, 1, none⟩ = some (.int .i64 a0_1) := (x3e BK181.out 1).trans rfl; have hcz8_2 : w7.cell? ⟨gb181, 2, none⟩ = some (.slice A0_2 l0_2.length c0_2) := (x3e BK181.out 2).trans rfl; have hfz8_0 := x2e BK181.out 0; have hfz8_1 := x2e BK181.out 1; have hfz8_2 := x2e BK181.out 2) | (go_at_call 32; (with_reducible refine (impl_within.calls _ _ l0_2 1 t183 _ ?side1 ?side2 A4.out).mono ?_); (case side1 => repeat (first | exact HR0_2.out | exact (y9e HR0_2.out HB.out) | (with_reducible refine y2e ?_ _) | (with_reducible refine y3e ?_ _) | (with_reducible refine y4e ?_))); (case side2 => exact HC0_2.out); rintro e w9 ⟨rfl, hb⟩; have n_ := a2 (bU BK181.out hb) (dU HB.out hb); clear BK181 HB; obtain ⟨BK181, HB⟩ := n_; (try clear hb)))
  go_ret
  exact ⟨by first | rfl | (simp [errW_none, errW_some] <;> rfl) | (simp [*, errW_none, errW_some] <;> rfl), dV HB.out⟩
 ·replace c3 := Bool.eq_false_iff.mpr c3
  subst c3
  rw [if_neg (show ¬ (false = true) by decide)] at H
  obtain rfl := Option.some.inj H
  go_enter Tryz.func24, Tryz.ntmps24
  go_wp2_with (first | ((with_reducible refine gate_dst (N := 1) rfl ?_); refine box_event rfl (N := 1) rfl (cs := #[.int .i64 a0_0, .int .i64 a0_1, .slice A0_2 l0_2.length c0_2]) (t := 27) (by first | (go_simp; done) | (go_simp; rfl)) ?_; intro gb181 hg w10 hbox hb; have n_ := a4 (dU HB.out hb) (hbox) (gE hg HB.out) (gE hg HB.out); clear HB; obtain ⟨HB, BK181, GW181, GE181⟩ := n_; have gi_181 := GEc.mk GE181.out; clear hb hbox hg; have hcz11_0 : w10.cell? ⟨gb181, 0, none⟩ = some (.int .i64 a0_0) := (x3e BK181.out 0).trans rfl; have hcz11_1 : w10.cell? ⟨gb181, 1, none⟩ = some (.int .i64 a0_1) := (x3e BK181.out 1).trans rfl; have hcz11_2 : w10.cell? ⟨gb181, 2, none⟩ = some (.slice A0_2 l0_2.length c0_2) := (x3e BK181.out 2).trans rfl; have hfz11_0 := x2e BK181.out 0; have hfz11_1 := x2e BK181.out 1; have hfz11_2 := x2e BK181.out 2) | ((with_reducible refine gate_callee (f := 17) rfl ?_); refine goesL_ (some 4) rfl rfl Tryz.func17 (by kernel_rfl) rfl #[.agg #[.int .i64 a0_0, .int .i64 a0_1, .slice A0_2 l0_2.length c0_2]] rfl (by (try simp only [List.map_toArray, List.map_cons, List.map_nil]); first | done | rfl | (simp only [List.length_drop, List.length_take]; rfl)) ?_; (with_reducible refine (impl_IsPicture.calls a0_0 a0_1 _ _ l0_2 false _ ?side1 ?side2 A2.out).mono ?_); (case side1 => repeat (first | exact HR0_2.out | exact (y9e HR0_2.out HB.out) | (with_reducible refine y2e ?_ _) | (with_reducible refine y3e ?_ _) | (with_reducible refine y4e ?_))); (case side2 => exact HC0_2.out); rintro e w12 ⟨rfl, hb⟩; refine ⟨_, rfl, ?_⟩; have n_ := a2 (bU BK181.out hb) (dU HB.out hb); clear BK181 HB; obtain ⟨BK181, HB⟩ := n_; (try clear hb)))
  go_ret
  exact ⟨by first | rfl | (simp [errW_none, errW_some] <;> rfl) | (simp [*, errW_none, errW_some] <;> rfl), dV HB.out⟩

def impl_DotText.l0 : Nat → List Int → List Int → Int → Int → Int → Int → List Int → Option (ByteArray)
 | 0, _, _, _, _, _, _, _ => none
 | k + 1, x3, x11, x12, x13, x185000, x185001, x185002 => if x13 < x12 then (if 0 ≤ x13 then (if x13 < (x11.length : Int) then (if 0 ≤ (rd x11 x13) then (if (rd x11 x13) < 2 then (if x3.length < 140737488355328 then ((some (x3 ++ [bt (⟨#[46, 35]⟩ : ByteArray) (rd x11 x13)] : List Int)).bind fun y190 => (if x185000 = 0 then (none) else (if (Int.tmod x13 x185000) = (wrap64 (x185000 - 1)) then (if y190.length < 140737488355328 then (impl_DotText.l0 k (y190 ++ [10]) x11 x12 (wrap64 (x13 + 1)) x185000 x185001 x185002) else (none)) else (impl_DotText.l0 k y190 x11 x12 (wrap64 (x13 + 1)) x185000 x185001 x185002)))) else (none)) else (none)) else (none)) else (none)) else (none)) else (some (strOfNums x3))
def impl_DotText.f (k : Nat) (a0_0 : Int) (a0_1 : Int) (l0_2 : List Int) : Option (ByteArray) := (impl_IsPlate.f a0_0 a0_1 l0_2).bind fun t185 => (if t185 = true then (impl_DotText.l0 k (([] : List Int)) l0_2 (l0_2.length : Int) 0 a0_0 a0_1 l0_2) else (some (⟨#[]⟩ : ByteArray)))
set_option maxHeartbeats 8000000 in
set_option maxRecDepth 100000 in
theorem impl_DotText.calls (k : Nat) (a0_0 : Int) (a0_1 : Int) (A0_2 : Option Addr) (c0_2 : Nat) (l0_2 : List Int) (r : ByteArray) (w : World) (hr0_2 : Kd.C (Kd.int .i64) w A0_2 l0_2.length l0_2) (hc0_2 : l0_2.length ≤ c0_2) (h : impl_DotText.f k a0_0 a0_1 l0_2 = some r) :
  Calls Tryz.prog 10 #[.agg #[.int .i64 a0_0, .int .i64 a0_1, .slice A0_2 l0_2.length c0_2]] w fun e w' => e = .returned (.string r) ∧ Below w.heap.size w w' := by
 have hu27 := Tryz.underlying27
 have HR0_2 := z0e hr0_2
 have HC0_2 := z0e hc0_2
 clear hr0_2 hc0_2
 have HB := z0e (Below.refl w.heap.size w)
 have H := h
 unfold impl_DotText.f at H
 clear h
 replace H := Option.bind_eq_some_iff.mp H
 obtain ⟨t185, A20, H⟩ := H
 (try dsimp only at H)
 have A2 := z0e A20
 clear A20
 by_cases c3 : t185 = true
 ·subst c3
  rw [if_pos rfl] at H
  obtain ⟨y186, hy186⟩ : ∃ y_ : List Int, y_ = (([] : List Int)) := ⟨_, rfl⟩
  replace H : (impl_DotText.l0 k y186 l0_2 (l0_2.length : Int) 0 a0_0 a0_1 l0_2) = some r := by first | (rw [hy186]; with_reducible exact H) | (have H2_ := (Option.bind_some _ _).symm.trans H; rw [hy186]; with_reducible exact H2_) | (have H2_ := (Option.bind_some _ _).symm.trans H; with_reducible exact H2_) | with_reducible exact H | (rw [hy186]; exact H) | exact H
  have Ny186 := z0e hy186
  clear hy186
  have H' := z0e H
  clear H
  go_enter Tryz.func10, Tryz.ntmps10
  go_wp2_with (first | ((with_reducible refine gate_dst (N := 1) rfl ?_); refine box_event rfl (N := 1) rfl (cs := #[.int .i64 a0_0, .int .i64 a0_1, .slice A0_2 l0_2.length c0_2]) (t := 27) (by first | (go_simp; done) | (go_simp; rfl)) ?_; intro gb184 hg w4 hbox hb; have n_ := a4 (dU HB.out hb) (hbox) (gE hg HB.out) (gE hg HB.out); clear HB; obtain ⟨HB, BK184, GW184, GE184⟩ := n_; have gi_184 := GEc.mk GE184.out; clear hb hbox hg; have hcz5_0 : w4.cell? ⟨gb184, 0, none⟩ = some (.int .i64 a0_0) := (x3e BK184.out 0).trans rfl; have hcz5_1 : w4.cell? ⟨gb184, 1, none⟩ = some (.int .i64 a0_1) := (x3e BK184.out 1).trans rfl; have hcz5_2 : w4.cell? ⟨gb184, 2, none⟩ = some (.slice A0_2 l0_2.length c0_2) := (x3e BK184.out 2).trans rfl; have hfz5_0 := x2e BK184.out 0; have hfz5_1 := x2e BK184.out 1; have hfz5_2 := x2e BK184.out 2) | (go_at_call 24; (with_reducible refine (impl_IsPlate.calls a0_0 a0_1 _ _ l0_2 true _ ?side1 ?side2 A2.out).mono ?_); (case side1 => repeat (first | exact HR0_2.out | exact (y9e HR0_2.out HB.out) | (with_reducible refine y2e ?_ _) | (with_reducible refine y3e ?_ _) | (with_reducible refine y4e ?_))); (case side2 => exact HC0_2.out); rintro e w6 ⟨rfl, hb⟩; have n_ := a2 (bU BK184.out hb) (dU HB.out hb); clear BK184 HB; obtain ⟨BK184, HB⟩ := n_; (try clear hb)) | ((with_reducible refine gate_dst (N := 9) rfl ?_); refine Kd.R_lit (Kd.int .u8) _ 5 ?hg (N := 9) ?hd (xs := ([] : List Int)) (inner := []) (ok := fun _ => True) (okp := fun _ => True) ?hr ?hp (fun _ hk => hk) trivial (Below.refl _ _) (Nat.le_refl _) (by simp) ?_; (case hd => rfl); (case hg => rfl); (case hr => first | (go_simp; done) | (go_simp; rfl)); (case hp => exact (Reps.none _ _)); intro v187 w7 ho8 hb hg_ hnew_; clear hg_ hnew_; (first | rw [← Ny186.out] at ho8 | (simp only [Int.reduceToNat] at ho8; rw [← Ny186.out] at ho8)); have n_ := a3 (Kd.R_lower ho8 (y7e (dV HB.out))) (bU BK184.out hb) (dU HB.out hb); clear BK184 HB; obtain ⟨HO188, BK184, HB⟩ := n_; clear hb ho8; have hcz9_0 : w7.cell? ⟨gb184, 0, none⟩ = some (.int .i64 a0_0) := (x3e BK184.out 0).trans rfl; have hcz9_1 : w7.cell? ⟨gb184, 1, none⟩ = some (.int .i64 a0_1) := (x3e BK184.out 1).trans rfl; have hcz9_2 : w7.cell? ⟨gb184, 2, none⟩ = some (.slice A0_2 l0_2.length c0_2) := (x3e BK184.out 2).trans rfl; have hfz9_0 := x2e BK184.out 0; have hfz9_1 := x2e BK184.out 1; have hfz9_2 := x2e BK184.out 2))
  repeat (go_quiet (fail); try go_wp2_with (first | ((with_reducible refine gate_dst (N := 1) rfl ?_); refine box_event rfl (N := 1) rfl (cs := #[.int .i64 a0_0, .int .i64 a0_1, .slice A0_2 l0_2.length c0_2]) (t := 27) (by first | (go_simp; done) | (go_simp; rfl)) ?_; intro gb184 hg w4 hbox hb; have n_ := a4 (dU HB.out hb) (hbox) (gE hg HB.out) (gE hg HB.out); clear HB; obtain ⟨HB, BK184, GW184, GE184⟩ := n_; have gi_184 := GEc.mk GE184.out; clear hb hbox hg; have hcz5_0 : w4.cell? ⟨gb184, 0, none⟩ = some (.int .i64 a0_0) := (x3e BK184.out 0).trans rfl; have hcz5_1 : w4.cell? ⟨gb184, 1, none⟩ = some (.int .i64 a0_1) := (x3e BK184.out 1).trans rfl; have hcz5_2 : w4.cell? ⟨gb184, 2, none⟩ = some (.slice A0_2 l0_2.length c0_2) := (x3e BK184.out 2).trans rfl; have hfz5_0 := x2e BK184.out 0; have hfz5_1 := x2e BK184.out 1; have hfz5_2 := x2e BK184.out 2) | (go_at_call 24; (with_reducible refine (impl_IsPlate.calls a0_0 a0_1 _ _ l0_2 true _ ?side1 ?side2 A2.out).mono ?_); (case side1 => repeat (first | exact HR0_2.out | exact (y9e HR0_2.out HB.out) | (with_reducible refine y2e ?_ _) | (with_reducible refine y3e ?_ _) | (with_reducible refine y4e ?_))); (case side2 => exact HC0_2.out); rintro e w6 ⟨rfl, hb⟩; have n_ := a2 (bU BK184.out hb) (dU HB.out hb); clear BK184 HB; obtain ⟨BK184, HB⟩ := n_; (try clear hb)) | ((with_reducible refine gate_dst (N := 9) rfl ?_); refine Kd.R_lit (Kd.int .u8) _ 5 ?hg (N := 9) ?hd (xs := ([] : List Int)) (inner := []) (ok := fun _ => True) (okp := fun _ => True) ?hr ?hp (fun _ hk => hk) trivial (Below.refl _ _) (Nat.le_refl _) (by simp) ?_; (case hd => rfl); (case hg => rfl); (case hr => first | (go_simp; done) | (go_simp; rfl)); (case hp => exact (Reps.none _ _)); intro v187 w7 ho8 hb hg_ hnew_; clear hg_ hnew_; (first | rw [← Ny186.out] at ho8 | (simp only [Int.reduceToNat] at ho8; rw [← Ny186.out] at ho8)); have n_ := a3 (Kd.R_lower ho8 (y7e (dV HB.out))) (bU BK184.out hb) (dU HB.out hb); clear BK184 HB; obtain ⟨HO188, BK184, HB⟩ := n_; clear hb ho8; have hcz9_0 : w7.cell? ⟨gb184, 0, none⟩ = some (.int .i64 a0_0) := (x3e BK184.out 0).trans rfl; have hcz9_1 : w7.cell? ⟨gb184, 1, none⟩ = some (.int .i64 a0_1) := (x3e BK184.out 1).trans rfl; have hcz9_2 : w7.cell? ⟨gb184, 2, none⟩ = some (.slice A0_2 l0_2.length c0_2) := (x3e BK184.out 2).trans rfl; have hfz9_0 := x2e BK184.out 0; have hfz9_1 := x2e BK184.out 1; have hfz9_2 := x2e BK184.out 2)))
  go_loopg [3, 13] k (fun kq v3 v13 w' => ∃ (x3_1 : List Int) (x13_1 : Int), v13 = .int .i64 x13_1 ∧ Aside0 (impl_DotText.l0 kq x3_1 l0_2 (l0_2.length : Int) x13_1 a0_0 a0_1 l0_2 = some r) ∧ Aside0 (kq ≤ k) ∧ Aside0 (Kd.R (Kd.int .u8) 5 w' w.heap.size (fun _ => True) v3 x3_1) ∧ Aside0 (w'.heap[gb184]? = some (.cells #[.int .i64 a0_0, .int .i64 a0_1, (.slice A0_2 l0_2.length c0_2)] 27 (0, 0))) ∧ Aside0 (Below w.heap.size w w'))
  case atStart => exact ⟨(y186), (0), (by first | rfl | (simp; done) | (simp [*]; done)), H', ⟨Nat.le_refl _⟩, ⟨by (with_reducible repeat (first | apply z8e | apply z9e | apply y1e)); exact HO188.out⟩, ⟨by (with_reducible repeat (first | refine z1e ?_ _ | refine z3e ?_ | refine z2e ?_ _)); exact BK184.out⟩, ⟨dV HB.out⟩⟩
  case round =>
   clear H'
   try clear c1
   try clear p2
   try clear c3
   try clear hcz5_0
   try clear hcz5_1
   try clear hcz5_2
   try clear hcz9_0
   try clear hcz9_1
   try clear hcz9_2
   try clear hfz5_0
   try clear hfz5_1
   try clear hfz5_2
   try clear hfz9_0
   try clear hfz9_1
   try clear hfz9_2
   obtain ⟨x3_1, x13_1, rfl, HA, HK1, HO_3, BK184, HB⟩ := hrel
   cases gk with
   | zero => exact absurd HA.out (by simp [impl_DotText.l0])
   | succ k1 =>
    have H := HA.out
    clear HA
    simp only [impl_DotText.l0] at H
    by_cases c10 : x13_1 < (l0_2.length : Int)
    ·rw [if_pos c10] at H
     have c10b0 : decide (x13_1 < (l0_2.length : Int)) = true := decide_eq_true c10
     clear c10
     by_cases c11 : 0 ≤ x13_1
     ·rw [if_pos c11] at H
      have c11b0 : decide (0 ≤ x13_1) = true := decide_eq_true c11
      clear c11
      by_cases c12 : x13_1 < (l0_2.length : Int)
      ·rw [if_pos c12] at H
       have c12b0 : decide (x13_1 < (l0_2.length : Int)) = true := decide_eq_true c12
       clear c12
       by_cases c13 : 0 ≤ (rd l0_2 x13_1)
       ·rw [if_pos c13] at H
        have c13b0 : decide (0 ≤ (rd l0_2 x13_1)) = true := decide_eq_true c13
        clear c13
        by_cases c14 : (rd l0_2 x13_1) < 2
        ·rw [if_pos c14] at H
         have c14b0 : decide ((rd l0_2 x13_1) < 2) = true := decide_eq_true c14
         clear c14
         by_cases c16 : x3_1.length < 140737488355328
         ·rw [if_pos c16] at H
          have LMc16 := z0e c16
          clear c16
          obtain ⟨y190, hy190⟩ : ∃ y_ : List Int, y_ = (x3_1 ++ [bt (⟨#[46, 35]⟩ : ByteArray) (rd l0_2 x13_1)]) := ⟨_, rfl⟩
          replace H : (if a0_0 = 0 then (none) else (if (Int.tmod x13_1 a0_0) = (wrap64 (a0_0 - 1)) then (if y190.length < 140737488355328 then (impl_DotText.l0 k1 (y190 ++ [10]) l0_2 (l0_2.length : Int) (wrap64 (x13_1 + 1)) a0_0 a0_1 l0_2) else (none)) else (impl_DotText.l0 k1 y190 l0_2 (l0_2.length : Int) (wrap64 (x13_1 + 1)) a0_0 a0_1 l0_2))) = some r := by first | (rw [hy190]; with_reducible exact H) | (have H2_ := (Option.bind_some _ _).symm.trans H; rw [hy190]; with_reducible exact H2_) | (have H2_ := (Option.bind_some _ _).symm.trans H; with_reducible exact H2_) | with_reducible exact H | (rw [hy190]; exact H) | exact H
          have Ny190 := z0e hy190
          clear hy190
          by_cases c17 : a0_0 = 0
          ·rw [if_pos c17] at H
           exact absurd H (by simp)
          ·rw [if_neg c17] at H
           have c17b0 : (a0_0 == 0) = false := beq_eq_false_iff_ne.mpr c17
           have c17b1 : (a0_0 != 0) = true := bne_iff_ne.mpr c17
           by_cases c18 : (Int.tmod x13_1 a0_0) = (wrap64 (a0_0 - 1))
           ·rw [if_pos c18] at H
            have c18b0 : ((Int.tmod x13_1 a0_0) == (wrap64 (a0_0 - 1))) = true := beq_iff_eq.mpr c18
            have c18b1 : ((Int.tmod x13_1 a0_0) != (wrap64 (a0_0 - 1))) = false := bne_eq_false_iff_eq.mpr c18
            clear c18
            by_cases c19 : y190.length < 140737488355328
            ·rw [if_pos c19] at H
             have LMc19 := z0e c19
             clear c19
             obtain ⟨y193, hy193⟩ : ∃ y_ : List Int, y_ = (y190 ++ [10]) := ⟨_, rfl⟩
             replace H : (impl_DotText.l0 k1 y193 l0_2 (l0_2.length : Int) (wrap64 (x13_1 + 1)) a0_0 a0_1 l0_2) = some r := by first | (rw [hy193]; with_reducible exact H) | (have H2_ := (Option.bind_some _ _).symm.trans H; rw [hy193]; with_reducible exact H2_) | (have H2_ := (Option.bind_some _ _).symm.trans H; with_reducible exact H2_) | with_reducible exact H | (rw [hy193]; exact H) | exact H
             have Ny193 := z0e hy193
             clear hy193
             have H' := z0e H
             clear H
             have p189 : 0 ≤ (x13_1 : Int) := of_decide_eq_true (by first | (with_reducible assumption) | assumption)
             have q189 : x13_1 < (l0_2.length : Int) := of_decide_eq_true (by first | (with_reducible assumption) | assumption)
             obtain ⟨ad189, e189, hx189_0⟩ := Kd.at_int HR0_2.out x13_1 p189 q189
             cases e189
             try replace hx189_0 := (HB.out.cell (World.block_lt_of_cell? w _ hx189_0)).trans hx189_0
             replace p189 := eq_true p189
             replace q189 := eq_true q189
             have p15 : 0 ≤ ((rd l0_2 x13_1) : Int) := of_decide_eq_true (by first | (with_reducible assumption) | assumption)
             have q15 : (rd l0_2 x13_1) < (2 : Int) := of_decide_eq_true (by first | (with_reducible assumption) | assumption)
             have hx15 := bt_at (⟨#[46, 35]⟩ : ByteArray) (rd l0_2 x13_1)
             replace p15 := eq_true p15
             replace q15 := eq_true q15
             go_wp2_with (first | ((with_reducible refine gate_builtin (b := .append) (xs := #[.tmp 18, .tmp 21]) rfl ?_); at_builtin; refine Kd.R_append (Kd.int .u8) (w0 := w) w.heap.size rfl (.tmp 18) (.tmp 21) 22 5 (.int .u8 0) 1 rfl Tryz.underlying22 info5 rfl (by decide) (by omega) u3 x3_1 (bt (⟨#[46, 35]⟩ : ByteArray) (rd l0_2 x13_1)) [.int .u8 (bt (⟨#[46, 35]⟩ : ByteArray) (rd l0_2 x13_1))] (fun _ => True) (fun _ => False) rfl rfl ?aP (fun _ hk => hk.elim) ?aF ?aO ?aB ?aS ?aL ?_; (case aP => exact rfl); (case aB => exact (dV HB.out)); (case aF => exact (fun _ _ => trivial)); (case aO => exact (rV HO_3.out)); (case aS => exact (y7e (dV HB.out))); (case aL => have := LMc16.out; omega); intro v191 w20 ho hb hg hat; rw [← Ny190.out] at ho; have n_ := a3 (blk_grown (bV BK184.out) hg (Kd.R_ne HO_3.out BK184.out (by decide))) (hb) (ho); clear BK184 HB HO_3; obtain ⟨BK184, HB, HO192⟩ := n_; clear ho hb hg hat; have hcz21_0 : w20.cell? ⟨gb184, 0, none⟩ = some (.int .i64 a0_0) := (x3e BK184.out 0).trans rfl; have hcz21_1 : w20.cell? ⟨gb184, 1, none⟩ = some (.int .i64 a0_1) := (x3e BK184.out 1).trans rfl; have hcz21_2 : w20.cell? ⟨gb184, 2, none⟩ = some (.slice (some ad189) l0_2.length c0_2) := (x3e BK184.out 2).trans rfl; have hfz21_0 := x2e BK184.out 0; have hfz21_1 := x2e BK184.out 1; have hfz21_2 := x2e BK184.out 2) | ((with_reducible refine gate_builtin (b := .append) (xs := #[.tmp 31, .tmp 32]) rfl ?_); at_builtin; refine Kd.R_append (Kd.int .u8) (w0 := w) w.heap.size rfl (.tmp 31) (.tmp 32) 22 5 (.int .u8 0) 1 rfl Tryz.underlying22 info5 rfl (by decide) (by omega) v191 y190 10 [.int .u8 10] (fun _ => True) (fun _ => False) rfl rfl ?aP (fun _ hk => hk.elim) ?aF ?aO ?aB ?aS ?aL ?_; (case aP => exact rfl); (case aB => exact (dV HB.out)); (case aF => exact (fun _ _ => trivial)); (case aO => exact (rV HO192.out)); (case aS => exact (y7e (dV HB.out))); (case aL => have := LMc19.out; omega); intro v194 w22 ho hb hg hat; rw [← Ny193.out] at ho; have n_ := a3 (blk_grown (bV BK184.out) hg (Kd.R_ne HO192.out BK184.out (by decide))) (hb) (ho); clear BK184 HB HO192; obtain ⟨BK184, HB, HO195⟩ := n_; clear ho hb hg hat))
             repeat (go_quiet (fail); try go_wp2_with (first | ((with_reducible refine gate_builtin (b := .append) (xs := #[.tmp 18, .tmp 21]) rfl ?_); at_builtin; refine Kd.R_append (Kd.int .u8) (w0 := w) w.heap.size rfl (.tmp 18) (.tmp 21) 22 5 (.int .u8 0) 1 rfl Tryz.underlying22 info5 rfl (by decide) (by omega) u3 x3_1 (bt (⟨#[46, 35]⟩ : ByteArray) (rd l0_2 x13_1)) [.int .u8 (bt (⟨#[46, 35]⟩ : ByteArray) (rd l0_2 x13_1))] (fun _ => True) (fun _ => False) rfl rfl ?aP (fun _ hk => hk.elim) ?aF ?aO ?aB ?aS ?aL ?_; (case aP => exact rfl); (case aB => exact (dV HB.out)); (case aF => exact (fun _ _ => trivial)); (case aO => exact (rV HO_3.out)); (case aS => exact (y7e (dV HB.out))); (case aL => have := LMc16.out; omega); intro v191 w20 ho hb hg hat; rw [← Ny190.out] at ho; have n_ := a3 (blk_grown (bV BK184.out) hg (Kd.R_ne HO_3.out BK184.out (by decide))) (hb) (ho); clear BK184 HB HO_3; obtain ⟨BK184, HB, HO192⟩ := n_; clear ho hb hg hat; have hcz21_0 : w20.cell? ⟨gb184, 0, none⟩ = some (.int .i64 a0_0) := (x3e BK184.out 0).trans rfl; have hcz21_1 : w20.cell? ⟨gb184, 1, none⟩ = some (.int .i64 a0_1) := (x3e BK184.out 1).trans rfl; have hcz21_2 : w20.cell? ⟨gb184, 2, none⟩ = some (.slice (some ad189) l0_2.length c0_2) := (x3e BK184.out 2).trans rfl; have hfz21_0 := x2e BK184.out 0; have hfz21_1 := x2e BK184.out 1; have hfz21_2 := x2e BK184.out 2) | ((with_reducible refine gate_builtin (b := .append) (xs := #[.tmp 31, .tmp 32]) rfl ?_); at_builtin; refine Kd.R_append (Kd.int .u8) (w0 := w) w.heap.size rfl (.tmp 31) (.tmp 32) 22 5 (.int .u8 0) 1 rfl Tryz.underlying22 info5 rfl (by decide) (by omega) v191 y190 10 [.int .u8 10] (fun _ => True) (fun _ => False) rfl rfl ?aP (fun _ hk => hk.elim) ?aF ?aO ?aB ?aS ?aL ?_; (case aP => exact rfl); (case aB => exact (dV HB.out)); (case aF => exact (fun _ _ => trivial)); (case aO => exact (rV HO192.out)); (case aS => exact (y7e (dV HB.out))); (case aL => have := LMc19.out; omega); intro v194 w22 ho hb hg hat; rw [← Ny193.out] at ho; have n_ := a3 (blk_grown (bV BK184.out) hg (Kd.R_ne HO192.out BK184.out (by decide))) (hb) (ho); clear BK184 HB HO192; obtain ⟨BK184, HB, HO195⟩ := n_; clear ho hb hg hat)))
             go_roundg k1
             case measure => have := HK1.out; omega
             case rel => exact ⟨(y193), (wrap64 (x13_1 + 1)), (by first | rfl | (simp; done) | (simp [*]; done)), H', ⟨by have := HK1.out; omega⟩, ⟨by (with_reducible repeat (first | apply z8e | apply z9e | apply y1e)); exact HO195.out⟩, ⟨by (with_reducible repeat (first | refine z1e ?_ _ | refine z3e ?_ | refine z2e ?_ _)); exact BK184.out⟩, ⟨dV HB.out⟩⟩
            ·rw [if_neg c19] at H
             exact absurd H (by simp)
           ·rw [if_neg c18] at H
            have c18b0 : ((Int.tmod x13_1 a0_0) == (wrap64 (a0_0 - 1))) = false := beq_eq_false_iff_ne.mpr c18
            have c18b1 : ((Int.tmod x13_1 a0_0) != (wrap64 (a0_0 - 1))) = true := bne_iff_ne.mpr c18
            have H' := z0e H
            clear H
            have p189 : 0 ≤ (x13_1 : Int) := of_decide_eq_true (by first | (with_reducible assumption) | assumption)
            have q189 : x13_1 < (l0_2.length : Int) := of_decide_eq_true (by first | (with_reducible assumption) | assumption)
            obtain ⟨ad189, e189, hx189_0⟩ := Kd.at_int HR0_2.out x13_1 p189 q189
            cases e189
            try replace hx189_0 := (HB.out.cell (World.block_lt_of_cell? w _ hx189_0)).trans hx189_0
            replace p189 := eq_true p189
            replace q189 := eq_true q189
            have p15 : 0 ≤ ((rd l0_2 x13_1) : Int) := of_decide_eq_true (by first | (with_reducible assumption) | assumption)
            have q15 : (rd l0_2 x13_1) < (2 : Int) := of_decide_eq_true (by first | (with_reducible assumption) | assumption)
            have hx15 := bt_at (⟨#[46, 35]⟩ : ByteArray) (rd l0_2 x13_1)
            replace p15 := eq_true p15
            replace q15 := eq_true q15
            go_wp2_with (first | ((with_reducible refine gate_builtin (b := .append) (xs := #[.tmp 18, .tmp 21]) rfl ?_); at_builtin; refine Kd.R_append (Kd.int .u8) (w0 := w) w.heap.size rfl (.tmp 18) (.tmp 21) 22 5 (.int .u8 0) 1 rfl Tryz.underlying22 info5 rfl (by decide) (by omega) u3 x3_1 (bt (⟨#[46, 35]⟩ : ByteArray) (rd l0_2 x13_1)) [.int .u8 (bt (⟨#[46, 35]⟩ : ByteArray) (rd l0_2 x13_1))] (fun _ => True) (fun _ => False) rfl rfl ?aP (fun _ hk => hk.elim) ?aF ?aO ?aB ?aS ?aL ?_; (case aP => exact rfl); (case aB => exact (dV HB.out)); (case aF => exact (fun _ _ => trivial)); (case aO => exact (rV HO_3.out)); (case aS => exact (y7e (dV HB.out))); (case aL => have := LMc16.out; omega); intro v191 w23 ho hb hg hat; rw [← Ny190.out] at ho; have n_ := a3 (blk_grown (bV BK184.out) hg (Kd.R_ne HO_3.out BK184.out (by decide))) (hb) (ho); clear BK184 HB HO_3; obtain ⟨BK184, HB, HO192⟩ := n_; clear ho hb hg hat; have hcz24_0 : w23.cell? ⟨gb184, 0, none⟩ = some (.int .i64 a0_0) := (x3e BK184.out 0).trans rfl; have hcz24_1 : w23.cell? ⟨gb184, 1, none⟩ = some (.int .i64 a0_1) := (x3e BK184.out 1).trans rfl; have hcz24_2 : w23.cell? ⟨gb184, 2, none⟩ = some (.slice (some ad189) l0_2.length c0_2) := (x3e BK184.out 2).trans rfl; have hfz24_0 := x2e BK184.out 0; have hfz24_1 := x2e BK184.out 1; have hfz24_2 := x2e BK184.out 2))
            repeat (go_quiet (fail); try go_wp2_with (first | ((with_reducible refine gate_builtin (b := .append) (xs := #[.tmp 18, .tmp 21]) rfl ?_); at_builtin; refine Kd.R_append (Kd.int .u8) (w0 := w) w.heap.size rfl (.tmp 18) (.tmp 21) 22 5 (.int .u8 0) 1 rfl Tryz.underlying22 info5 rfl (by decide) (by omega) u3 x3_1 (bt (⟨#[46, 35]⟩ : ByteArray) (rd l0_2 x13_1)) [.int .u8 (bt (⟨#[46, 35]⟩ : ByteArray) (rd l0_2 x13_1))] (fun _ => True) (fun _ => False) rfl rfl ?aP (fun _ hk => hk.elim) ?aF ?aO ?aB ?aS ?aL ?_; (case aP => exact rfl); (case aB => exact (dV HB.out)); (case aF => exact (fun _ _ => trivial)); (case aO => exact (rV HO_3.out)); (case aS => exact (y7e (dV HB.out))); (case aL => have := LMc16.out; omega); intro v191 w23 ho hb hg hat; rw [← Ny190.out] at ho; have n_ := a3 (blk_grown (bV BK184.out) hg (Kd.R_ne HO_3.out BK184.out (by decide))) (hb) (ho); clear BK184 HB HO_3; obtain ⟨BK184, HB, HO192⟩ := n_; clear ho hb hg hat; have hcz24_0 : w23.cell? ⟨gb184, 0, none⟩ = some (.int .i64 a0_0) := (x3e BK184.out 0).trans rfl; have hcz24_1 : w23.cell? ⟨gb184, 1, none⟩ = some (.int .i64 a0_1) := (x3e BK184.out 1).trans rfl; have hcz24_2 : w23.cell? ⟨gb184, 2, none⟩ = some (.slice (some ad189) l0_2.length c0_2) := (x3e BK184.out 2).trans rfl; have hfz24_0 := x2e BK184.out 0; have hfz24_1 := x2e BK184.out 1; have hfz24_2 := x2e BK184.out 2)))
            go_roundg k1
            case measure => have := HK1.out; omega
            case rel => exact ⟨(y190), (wrap64 (x13_1 + 1)), (by first | rfl | (simp; done) | (simp [*]; done)), H', ⟨by have := HK1.out; omega⟩, ⟨by (with_reducible repeat (first | apply z8e | apply z9e | apply y1e)); exact HO192.out⟩, ⟨by (with_reducible repeat (first | refine z1e ?_ _ | refine z3e ?_ | refine z2e ?_ _)); exact BK184.out⟩, ⟨dV HB.out⟩⟩
         ·rw [if_neg c16] at H
          exact absurd H (by simp)
        ·rw [if_neg c14] at H
         exact absurd H (by simp)
       ·rw [if_neg c13] at H
        exact absurd H (by simp)
      ·rw [if_neg c12] at H
       exact absurd H (by simp)
     ·rw [if_neg c11] at H
      exact absurd H (by simp)
    ·rw [if_neg c10] at H
     have c10b0 : decide (x13_1 < (l0_2.length : Int)) = false := decide_eq_false c10
     clear c10
     obtain rfl := Option.some.inj H
     have hcv25 := own_string (P := Tryz.prog) Tryz.underlying22 Tryz.underlying5 Tryz.underlying9 (Kd.own_of_R HO_3.out)
     go_wp2
     repeat (go_quiet (fail); try go_wp2)
     go_ret
     exact ⟨by first | rfl | (simp [errW_none, errW_some] <;> rfl) | (simp [*, errW_none, errW_some] <;> rfl), dV HB.out⟩
 ·replace c3 := Bool.eq_false_iff.mpr c3
  subst c3
  rw [if_neg (show ¬ (false = true) by decide)] at H
  obtain rfl := Option.some.inj H
  go_enter Tryz.func10, Tryz.ntmps10
  go_wp2_with (first | ((with_reducible refine gate_dst (N := 1) rfl ?_); refine box_event rfl (N := 1) rfl (cs := #[.int .i64 a0_0, .int .i64 a0_1, .slice A0_2 l0_2.length c0_2]) (t := 27) (by first | (go_simp; done) | (go_simp; rfl)) ?_; intro gb184 hg w26 hbox hb; have n_ := a4 (dU HB.out hb) (hbox) (gE hg HB.out) (gE hg HB.out); clear HB; obtain ⟨HB, BK184, GW184, GE184⟩ := n_; have gi_184 := GEc.mk GE184.out; clear hb hbox hg; have hcz27_0 : w26.cell? ⟨gb184, 0, none⟩ = some (.int .i64 a0_0) := (x3e BK184.out 0).trans rfl; have hcz27_1 : w26.cell? ⟨gb184, 1, none⟩ = some (.int .i64 a0_1) := (x3e BK184.out 1).trans rfl; have hcz27_2 : w26.cell? ⟨gb184, 2, none⟩ = some (.slice A0_2 l0_2.length c0_2) := (x3e BK184.out 2).trans rfl; have hfz27_0 := x2e BK184.out 0; have hfz27_1 := x2e BK184.out 1; have hfz27_2 := x2e BK184.out 2) | (go_at_call 24; (with_reducible refine (impl_IsPlate.calls a0_0 a0_1 _ _ l0_2 false _ ?side1 ?side2 A2.out).mono ?_); (case side1 => repeat (first | exact HR0_2.out | exact (y9e HR0_2.out HB.out) | (with_reducible refine y2e ?_ _) | (with_reducible refine y3e ?_ _) | (with_reducible refine y4e ?_))); (case side2 => exact HC0_2.out); rintro e w28 ⟨rfl, hb⟩; have n_ := a2 (bU BK184.out hb) (dU HB.out hb); clear BK184 HB; obtain ⟨BK184, HB⟩ := n_; (try clear hb)))
  repeat (go_quiet (fail); try go_wp2_with (first | ((with_reducible refine gate_dst (N := 1) rfl ?_); refine box_event rfl (N := 1) rfl (cs := #[.int .i64 a0_0, .int .i64 a0_1, .slice A0_2 l0_2.length c0_2]) (t := 27) (by first | (go_simp; done) | (go_simp; rfl)) ?_; intro gb184 hg w26 hbox hb; have n_ := a4 (dU HB.out hb) (hbox) (gE hg HB.out) (gE hg HB.out); clear HB; obtain ⟨HB, BK184, GW184, GE184⟩ := n_; have gi_184 := GEc.mk GE184.out; clear hb hbox hg; have hcz27_0 : w26.cell? ⟨gb184, 0, none⟩ = some (.int .i64 a0_0) := (x3e BK184.out 0).trans rfl; have hcz27_1 : w26.cell? ⟨gb184, 1, none⟩ = some (.int .i64 a0_1) := (x3e BK184.out 1).trans rfl; have hcz27_2 : w26.cell? ⟨gb184, 2, none⟩ = some (.slice A0_2 l0_2.length c0_2) := (x3e BK184.out 2).trans rfl; have hfz27_0 := x2e BK184.out 0; have hfz27_1 := x2e BK184.out 1; have hfz27_2 := x2e BK184.out 2) | (go_at_call 24; (with_reducible refine (impl_IsPlate.calls a0_0 a0_1 _ _ l0_2 false _ ?side1 ?side2 A2.out).mono ?_); (case side1 => repeat (first | exact HR0_2.out | exact (y9e HR0_2.out HB.out) | (with_reducible refine y2e ?_ _) | (with_reducible refine y3e ?_ _) | (with_reducible refine y4e ?_))); (case side2 => exact HC0_2.out); rintro e w28 ⟨rfl, hb⟩; have n_ := a2 (bU BK184.out hb) (dU HB.out hb); clear BK184 HB; obtain ⟨BK184, HB⟩ := n_; (try clear hb))))
  go_ret
  exact ⟨by first | rfl | (simp [errW_none, errW_some] <;> rfl) | (simp [*, errW_none, errW_some] <;> rfl), dV HB.out⟩

def strings_Split.f (a0 : ByteArray) (a1 : ByteArray) : Option (List ByteArray) := Ext.splitF a0 a1
theorem strings_Split.calls (a0 : ByteArray) (a1 : ByteArray) (r : List ByteArray) (w : World) (hG_ : Ext.Glob w) (h : strings_Split.f a0 a1 = some r) :
  Calls Tryz.prog 25 #[.string a0, .string a1] w fun e w' => ∃ v0_ : Value, e = .returned (v0_) ∧ Kd.R Kd.string 9 w' w.heap.size (fun _ => True) v0_ r ∧ Below w.heap.size w w' := Ext.Split a0 a1 r w hG_ h

def strings_TrimSuffix.f (a0 : ByteArray) (a1 : ByteArray) : Option (ByteArray) := Ext.trimF a0 a1
theorem strings_TrimSuffix.calls (a0 : ByteArray) (a1 : ByteArray) (r : ByteArray) (w : World) (h : strings_TrimSuffix.f a0 a1 = some r) :
  Calls Tryz.prog 26 #[.string a0, .string a1] w fun e w' => e = .returned (.string r) ∧ Below w.heap.size w w' := Ext.Trim a0 a1 r w h

def impl_FlatPicture_1.f (a0 : Int) (a1 : Int) (a2 : Int) : Option (Int) := some a2
set_option maxHeartbeats 8000000 in
set_option maxRecDepth 100000 in
theorem impl_FlatPicture_1.calls {g2_ : Nat} (a0 : Int) (a1 : Int) (a2 : Int) (r : Int) (w : World) (hb2_ : w.heap[g2_]? = some (.cells #[.int .i64 a2] 3 (0, 0))) (h : impl_FlatPicture_1.f a0 a1 a2 = some r) :
  Calls Tryz.prog 49 #[.int .i64 a0, .int .i64 a1, .pointer (some ⟨g2_, 0, none⟩)] w fun e w' => e = .returned (.int .i64 r) ∧ Drawn0 w w' := by
 have hzc2_0 : w.cell? ⟨g2_, 0, none⟩ = some (.int .i64 a2) := (x3e hb2_ 0).trans rfl
 clear hb2_
 have H := h
 unfold impl_FlatPicture_1.f at H
 clear h
 obtain rfl := Option.some.inj H
 go_enter Tryz.func49, Tryz.ntmps49
 go_wp2
 go_ret
 exact ⟨by first | rfl | (simp; done) | (simp [*]; done), by repeat (first | exact Drawn0.refl _ | apply Drawn0.step)⟩

def impl_FlatPicture_1.drawn.f (w_ h_ : Int) (a2 : Int) : Option (Int × Int × List Int) := if 1 ≤ w_ ∧ w_ ≤ 1024 ∧ 0 ≤ h_ ∧ h_ ≤ 1024 ∧ w_ * h_ ≤ 1024 then (Ext.gridO w_ h_ fun x y => impl_FlatPicture_1.f x y a2).map fun l => (w_, h_, l) else none
theorem impl_FlatPicture_1.drawn.calls {g2_ : Nat} (w_ h_ : Int) (a2 : Int) (r1 r2 : Int) (r3 : List Int) (w : World) (hb2_ : w.heap[g2_]? = some (.cells #[.int .i64 a2] 3 (0, 0))) (h : impl_FlatPicture_1.drawn.f w_ h_ a2 = some (r1, r2, r3)) :
  Calls Tryz.prog 13 #[.int .i64 w_, .int .i64 h_, .func (.func 49) #[] #[.pointer (some ⟨g2_, 0, none⟩)]] w fun e w' => ∃ v2_ : Value, e = .returned (.agg #[.int .i64 r1, .int .i64 r2, v2_]) ∧ Kd.R (Kd.int .i64) 3 w' w.heap.size (fun _ => True) v2_ r3 ∧ Below w.heap.size w w' := by
 unfold impl_FlatPicture_1.drawn.f at h
 split at h
 ·rename_i hc_
  obtain ⟨l_, hl_, he_⟩ := Option.map_eq_some_iff.mp h
  obtain ⟨hat_, hg_⟩ := Ext.gridO_some hl_
  injection he_ with e1_ e2_; injection e2_ with e2_ e3_; subst e1_ e2_ e3_
  have ht_ := impl_drawn.tells (AT := fun x y => impl_FlatPicture_1.f x y a2) hc_.1 hc_.2.1 hc_.2.2.1 hc_.2.2.2.1 hc_.2.2.2.2 hat_
  rw [hg_] at ht_
  exact impl_drawn.calls 4000 w_ h_ _ 49 #[.pointer (some ⟨g2_, 0, none⟩)] _ _ _ w (enters_ Tryz.func49 (by kernel_rfl) rfl) (fun x y r W hW hr => Ext.calls_app (by simp) ((impl_FlatPicture_1.calls x y a2 r W (blk_below hb2_ hW) hr).mono fun e w' he => ⟨he.1, he.2.below⟩)) ht_
 ·exact absurd h (by simp)

def impl_FlatPicture_1.ranked.f (w_ h_ : Int) (a2 : Int) : Option (Int × Int × List Int) := if 1 ≤ w_ ∧ w_ ≤ 1024 ∧ 0 ≤ h_ ∧ h_ ≤ 1024 ∧ w_ * h_ ≤ 1024 then (Ext.gridO w_ h_ fun x y => impl_FlatPicture_1.f x y a2).map fun l => (w_, h_, l) else none
abbrev impl_FlatPicture_1.V.f := @impl_FlatPicture_1.f
set_option linter.defProp false in
def impl_FlatPicture_1.V.calls := @impl_FlatPicture_1.calls

def impl_FlatPicture.f (a0 : Int) (a1 : Int) (a2 : Int) : Option (Int × Int × List Int × Bool) := (impl_sized.f a0 a1).bind fun t198 => (if t198 = true then (if a2 < 0 then (some (0, 0, ([] : List Int), false)) else (if a2 > 255 then (some (0, 0, ([] : List Int), false)) else ((impl_FlatPicture_1.drawn.f a0 a1 a2).bind fun bt199 => (some (bt199.1, bt199.2.1, bt199.2.2, true))))) else (some (0, 0, ([] : List Int), false)))
set_option maxHeartbeats 8000000 in
set_option maxRecDepth 100000 in
theorem impl_FlatPicture.calls (a0 : Int) (a1 : Int) (a2 : Int) (r1 : Int) (r2 : Int) (r3 : List Int) (r4 : Bool) (w : World) (h : impl_FlatPicture.f a0 a1 a2 = some (r1, r2, r3, r4)) :
  Calls Tryz.prog 36 #[.int .i64 a0, .int .i64 a1, .int .i64 a2] w fun e w' => ∃ v2_ : Value, e = .returned (.tuple #[.agg #[.int .i64 r1, .int .i64 r2, v2_], .bool r4]) ∧ Kd.R (Kd.int .i64) 3 w' w.heap.size (fun _ => True) v2_ r3 ∧ Below w.heap.size w w' := by
 have hu27 := Tryz.underlying27
 have HB := z0e (Below.refl w.heap.size w)
 have H := h
 unfold impl_FlatPicture.f at H
 clear h
 replace H := Option.bind_eq_some_iff.mp H
 obtain ⟨t198, A40, H⟩ := H
 (try dsimp only at H)
 have A4 := z0e A40
 clear A40
 by_cases c5 : t198 = true
 ·subst c5
  rw [if_pos rfl] at H
  by_cases c6 : a2 < 0
  ·rw [if_pos c6] at H
   have c6b0 : decide (a2 < 0) = true := decide_eq_true c6
   clear c6
   simp only [Option.some.injEq, Prod.mk.injEq] at H
   obtain ⟨rfl, rfl, rfl, rfl⟩ := H
   go_enter Tryz.func36, Tryz.ntmps36
   go_wp2_with (first | ((with_reducible refine gate_dst (N := 5) rfl ?_); refine box_event rfl (N := 5) rfl (cs := #[.int .i64 a2]) (t := 3) (by first | (go_simp; done) | (go_simp; rfl)) ?_; intro gb196 hg w7 hbox hb; have n_ := a4 (dU HB.out hb) (hbox) (gE hg HB.out) (gE hg HB.out); clear HB; obtain ⟨HB, BK196, GW196, GE196⟩ := n_; have gi_196 := GEc.mk GE196.out; clear hb hbox hg) | ((with_reducible refine gate_dst (N := 6) rfl ?_); refine box_event rfl (N := 6) rfl (cs := #[.int .i64 0, .int .i64 0, .slice none 0 0]) (t := 27) (by first | (go_simp; done) | (go_simp; rfl)) ?_; intro gb197 hg w8 hbox hb; have n_ := a7 (bU BK196.out hb) (dU HB.out hb) (hbox) (gE hg HB.out) (gE hg HB.out) (nL hg BK196.out) (nG hg BK196.out); clear BK196 HB; obtain ⟨BK196, HB, BK197, GW197, GE197, NB196_197, NB197_196⟩ := n_; have gi_197 := GEc.mk GE197.out; clear hb hbox hg) | ((with_reducible refine gate_callee (f := 12) rfl ?_); refine goesL_ (some 10) rfl rfl Tryz.func12 (by kernel_rfl) rfl #[.int .i64 a0, .int .i64 a1] rfl (by (try simp only [List.map_toArray, List.map_cons, List.map_nil]); first | done | rfl | (simp only [List.length_drop, List.length_take]; rfl)) ?_; (with_reducible refine (impl_sized.calls a0 a1 true _ A4.out).mono ?_); rintro e w' ⟨rfl, ⟨nd, rfl⟩⟩; refine ⟨_, rfl, ?_⟩; (try (rw [drewN_self w8]; generalize hq_ : World.drewN w8 _ = w8; have n0_ : Aside0 (w8.heap[gb196]? = some (.cells #[.int .i64 a2] 3 (0, 0))) := ⟨by rw [← hq_]; exact (bV BK196.out)⟩; have n1_ : Aside0 (w8.heap[gb197]? = some (.cells #[.int .i64 0, .int .i64 0, .slice none 0 0] 27 (0, 0))) := ⟨by rw [← hq_]; exact (bV BK197.out)⟩; have n2_ : Aside0 (Below w.heap.size w w8) := ⟨by rw [← hq_]; exact (dV HB.out)⟩; clear BK196 BK197 HB hq_; have BK196 := n0_; have BK197 := n1_; have HB := n2_; clear n0_ n1_ n2_)); have hnb9 := NB196_197.out; have hnc9 := NB197_196.out; have hcz10_0 : w8.cell? ⟨gb196, 0, none⟩ = some (.int .i64 a2) := (x3e BK196.out 0).trans rfl; have hfz10_0 := x2e BK196.out 0; have hcz11_0 : w8.cell? ⟨gb197, 0, none⟩ = some (.int .i64 0) := (x3e BK197.out 0).trans rfl; have hcz11_1 : w8.cell? ⟨gb197, 1, none⟩ = some (.int .i64 0) := (x3e BK197.out 1).trans rfl; have hcz11_2 : w8.cell? ⟨gb197, 2, none⟩ = some (.slice none 0 0) := (x3e BK197.out 2).trans rfl; have hfz11_0 := x2e BK197.out 0; have hfz11_1 := x2e BK197.out 1; have hfz11_2 := x2e BK197.out 2))
   refine bodyPost_ret (results_ct rfl _ _ gb197 27 #[.int .i64 0, .int .i64 0, .slice none 0 0] (0, 0) _ rfl (by (with_reducible repeat (first | refine z1e ?_ _ | refine z3e ?_ | refine z2e ?_ _)); refine blk_put (cs := #[.int .i64 0, .int .i64 0, .slice none 0 0]) ?_ 2 _ rfl; (with_reducible repeat (first | refine z1e ?_ _ | refine z3e ?_ | refine z2e ?_ _)); refine blk_put (cs := #[.int .i64 0, .int .i64 0, .slice none 0 0]) ?_ 1 _ rfl; (with_reducible repeat (first | refine z1e ?_ _ | refine z3e ?_ | refine z2e ?_ _)); refine blk_put (cs := #[.int .i64 0, .int .i64 0, .slice none 0 0]) ?_ 0 _ rfl; (with_reducible repeat (first | refine z1e ?_ _ | refine z3e ?_ | refine z2e ?_ _)); exact BK197.out) Tryz.underlying27 rfl (by kernel_rfl)) rfl ?_
   exact ⟨_, by first | rfl | (simp [errW_none, errW_some] <;> rfl) | (simp [*, errW_none, errW_some] <;> rfl), by first | exact Kd.R_nil _ _ _ _ _ | exact Kd.N_nil _ _ _ _ _ | exact Kd.V_nil _ _ _ _ _ | exact Kd.Q_nil _ _ _ _ _ | exact Kd.S_nil _ _ _ _ _, dV HB.out⟩
  ·rw [if_neg c6] at H
   have c6b0 : decide (a2 < 0) = false := decide_eq_false c6
   clear c6
   by_cases c12 : a2 > 255
   ·rw [if_pos c12] at H
    have c12b0 : decide (255 < a2) = true := decide_eq_true c12
    clear c12
    simp only [Option.some.injEq, Prod.mk.injEq] at H
    obtain ⟨rfl, rfl, rfl, rfl⟩ := H
    go_enter Tryz.func36, Tryz.ntmps36
    go_wp2_with (first | ((with_reducible refine gate_dst (N := 5) rfl ?_); refine box_event rfl (N := 5) rfl (cs := #[.int .i64 a2]) (t := 3) (by first | (go_simp; done) | (go_simp; rfl)) ?_; intro gb196 hg w13 hbox hb; have n_ := a4 (dU HB.out hb) (hbox) (gE hg HB.out) (gE hg HB.out); clear HB; obtain ⟨HB, BK196, GW196, GE196⟩ := n_; have gi_196 := GEc.mk GE196.out; clear hb hbox hg) | ((with_reducible refine gate_dst (N := 6) rfl ?_); refine box_event rfl (N := 6) rfl (cs := #[.int .i64 0, .int .i64 0, .slice none 0 0]) (t := 27) (by first | (go_simp; done) | (go_simp; rfl)) ?_; intro gb197 hg w14 hbox hb; have n_ := a7 (bU BK196.out hb) (dU HB.out hb) (hbox) (gE hg HB.out) (gE hg HB.out) (nL hg BK196.out) (nG hg BK196.out); clear BK196 HB; obtain ⟨BK196, HB, BK197, GW197, GE197, NB196_197, NB197_196⟩ := n_; have gi_197 := GEc.mk GE197.out; clear hb hbox hg) | ((with_reducible refine gate_callee (f := 12) rfl ?_); refine goesL_ (some 10) rfl rfl Tryz.func12 (by kernel_rfl) rfl #[.int .i64 a0, .int .i64 a1] rfl (by (try simp only [List.map_toArray, List.map_cons, List.map_nil]); first | done | rfl | (simp only [List.length_drop, List.length_take]; rfl)) ?_; (with_reducible refine (impl_sized.calls a0 a1 true _ A4.out).mono ?_); rintro e w' ⟨rfl, ⟨nd, rfl⟩⟩; refine ⟨_, rfl, ?_⟩; (try (rw [drewN_self w14]; generalize hq_ : World.drewN w14 _ = w14; have n0_ : Aside0 (w14.heap[gb196]? = some (.cells #[.int .i64 a2] 3 (0, 0))) := ⟨by rw [← hq_]; exact (bV BK196.out)⟩; have n1_ : Aside0 (w14.heap[gb197]? = some (.cells #[.int .i64 0, .int .i64 0, .slice none 0 0] 27 (0, 0))) := ⟨by rw [← hq_]; exact (bV BK197.out)⟩; have n2_ : Aside0 (Below w.heap.size w w14) := ⟨by rw [← hq_]; exact (dV HB.out)⟩; clear BK196 BK197 HB hq_; have BK196 := n0_; have BK197 := n1_; have HB := n2_; clear n0_ n1_ n2_)); have hnb15 := NB196_197.out; have hnc15 := NB197_196.out; have hcz16_0 : w14.cell? ⟨gb196, 0, none⟩ = some (.int .i64 a2) := (x3e BK196.out 0).trans rfl; have hfz16_0 := x2e BK196.out 0; have hcz17_0 : w14.cell? ⟨gb197, 0, none⟩ = some (.int .i64 0) := (x3e BK197.out 0).trans rfl; have hcz17_1 : w14.cell? ⟨gb197, 1, none⟩ = some (.int .i64 0) := (x3e BK197.out 1).trans rfl; have hcz17_2 : w14.cell? ⟨gb197, 2, none⟩ = some (.slice none 0 0) := (x3e BK197.out 2).trans rfl; have hfz17_0 := x2e BK197.out 0; have hfz17_1 := x2e BK197.out 1; have hfz17_2 := x2e BK197.out 2))
    refine bodyPost_ret (results_ct rfl _ _ gb197 27 #[.int .i64 0, .int .i64 0, .slice none 0 0] (0, 0) _ rfl (by (with_reducible repeat (first | refine z1e ?_ _ | refine z3e ?_ | refine z2e ?_ _)); refine blk_put (cs := #[.int .i64 0, .int .i64 0, .slice none 0 0]) ?_ 2 _ rfl; (with_reducible repeat (first | refine z1e ?_ _ | refine z3e ?_ | refine z2e ?_ _)); refine blk_put (cs := #[.int .i64 0, .int .i64 0, .slice none 0 0]) ?_ 1 _ rfl; (with_reducible repeat (first | refine z1e ?_ _ | refine z3e ?_ | refine z2e ?_ _)); refine blk_put (cs := #[.int .i64 0, .int .i64 0, .slice none 0 0]) ?_ 0 _ rfl; (with_reducible repeat (first | refine z1e ?_ _ | refine z3e ?_ | refine z2e ?_ _)); exact BK197.out) Tryz.underlying27 rfl (by kernel_rfl)) rfl ?_
    exact ⟨_, by first | rfl | (simp [errW_none, errW_some] <;> rfl) | (simp [*, errW_none, errW_some] <;> rfl), by first | exact Kd.R_nil _ _ _ _ _ | exact Kd.N_nil _ _ _ _ _ | exact Kd.V_nil _ _ _ _ _ | exact Kd.Q_nil _ _ _ _ _ | exact Kd.S_nil _ _ _ _ _, dV HB.out⟩
   ·rw [if_neg c12] at H
    have c12b0 : decide (255 < a2) = false := decide_eq_false c12
    clear c12
    replace H := Option.bind_eq_some_iff.mp H
    obtain ⟨⟨t199, t200, t201⟩, A180, H⟩ := H
    (try dsimp only at H)
    have A18 := z0e A180
    clear A180
    simp only [Option.some.injEq, Prod.mk.injEq] at H
    obtain ⟨rfl, rfl, rfl, rfl⟩ := H
    go_enter Tryz.func36, Tryz.ntmps36
    go_wp2_with (first | ((with_reducible refine gate_dst (N := 5) rfl ?_); refine box_event rfl (N := 5) rfl (cs := #[.int .i64 a2]) (t := 3) (by first | (go_simp; done) | (go_simp; rfl)) ?_; intro gb196 hg w19 hbox hb; have n_ := a4 (dU HB.out hb) (hbox) (gE hg HB.out) (gE hg HB.out); clear HB; obtain ⟨HB, BK196, GW196, GE196⟩ := n_; have gi_196 := GEc.mk GE196.out; clear hb hbox hg) | ((with_reducible refine gate_dst (N := 6) rfl ?_); refine box_event rfl (N := 6) rfl (cs := #[.int .i64 0, .int .i64 0, .slice none 0 0]) (t := 27) (by first | (go_simp; done) | (go_simp; rfl)) ?_; intro gb197 hg w20 hbox hb; have n_ := a7 (bU BK196.out hb) (dU HB.out hb) (hbox) (gE hg HB.out) (gE hg HB.out) (nL hg BK196.out) (nG hg BK196.out); clear BK196 HB; obtain ⟨BK196, HB, BK197, GW197, GE197, NB196_197, NB197_196⟩ := n_; have gi_197 := GEc.mk GE197.out; clear hb hbox hg) | ((with_reducible refine gate_callee (f := 12) rfl ?_); refine goesL_ (some 10) rfl rfl Tryz.func12 (by kernel_rfl) rfl #[.int .i64 a0, .int .i64 a1] rfl (by (try simp only [List.map_toArray, List.map_cons, List.map_nil]); first | done | rfl | (simp only [List.length_drop, List.length_take]; rfl)) ?_; (with_reducible refine (impl_sized.calls a0 a1 true _ A4.out).mono ?_); rintro e w' ⟨rfl, ⟨nd, rfl⟩⟩; refine ⟨_, rfl, ?_⟩; (try (rw [drewN_self w20]; generalize hq_ : World.drewN w20 _ = w20; have n0_ : Aside0 (w20.heap[gb196]? = some (.cells #[.int .i64 a2] 3 (0, 0))) := ⟨by rw [← hq_]; exact (bV BK196.out)⟩; have n1_ : Aside0 (w20.heap[gb197]? = some (.cells #[.int .i64 0, .int .i64 0, .slice none 0 0] 27 (0, 0))) := ⟨by rw [← hq_]; exact (bV BK197.out)⟩; have n2_ : Aside0 (Below w.heap.size w w20) := ⟨by rw [← hq_]; exact (dV HB.out)⟩; clear BK196 BK197 HB hq_; have BK196 := n0_; have BK197 := n1_; have HB := n2_; clear n0_ n1_ n2_)); have hnb21 := NB196_197.out; have hnc21 := NB197_196.out; have hcz22_0 : w20.cell? ⟨gb196, 0, none⟩ = some (.int .i64 a2) := (x3e BK196.out 0).trans rfl; have hfz22_0 := x2e BK196.out 0) | ((with_reducible refine gate_callee (f := 13) rfl ?_); refine goesL_ (some 24) rfl rfl Tryz.func13 (by kernel_rfl) rfl #[.int .i64 a0, .int .i64 a1, .func (.func 49) #[] #[.pointer (some ⟨gb196, 0, none⟩)]] rfl (by (try simp only [List.map_toArray, List.map_cons, List.map_nil]); first | done | rfl | (simp only [List.length_drop, List.length_take]; rfl)) ?_; (with_reducible refine (impl_FlatPicture_1.drawn.calls a0 a1 a2 t199 t200 t201 _ ?side1 A18.out).mono ?_); (case side1 => exact by (with_reducible repeat (first | refine z1e ?_ _ | refine z3e ?_ | refine z2e ?_ _)); exact BK196.out); rintro e w23 ⟨v202, rfl, ho0, hb⟩; refine ⟨_, rfl, ?_⟩; have n_ := a4 (Kd.R_lower (Kd.R_newB ho0 (bV BK196.out)) (y7e (dV HB.out))) (bU BK196.out hb) (bU BK197.out hb) (dU HB.out hb); clear BK196 BK197 HB; obtain ⟨HO203, BK196, BK197, HB⟩ := n_; (try clear hb); (try clear ho0); have hcz24_0 : w23.cell? ⟨gb197, 0, none⟩ = some (.int .i64 0) := (x3e BK197.out 0).trans rfl; have hcz24_1 : w23.cell? ⟨gb197, 1, none⟩ = some (.int .i64 0) := (x3e BK197.out 1).trans rfl; have hcz24_2 : w23.cell? ⟨gb197, 2, none⟩ = some (.slice none 0 0) := (x3e BK197.out 2).trans rfl; have hfz24_0 := x2e BK197.out 0; have hfz24_1 := x2e BK197.out 1; have hfz24_2 := x2e BK197.out 2; obtain ⟨Ao25, co25, eo25⟩ := Kd.R_slice HO203.out; subst eo25))
    refine bodyPost_ret (results_ct rfl _ _ gb197 27 #[.int .i64 t199, .int .i64 t200, .slice Ao25 t201.length co25] (0, 0) _ rfl (by (with_reducible repeat (first | refine z1e ?_ _ | refine z3e ?_ | refine z2e ?_ _)); refine blk_put (cs := #[.int .i64 t199, .int .i64 t200, .slice none 0 0]) ?_ 2 _ rfl; (with_reducible repeat (first | refine z1e ?_ _ | refine z3e ?_ | refine z2e ?_ _)); refine blk_put (cs := #[.int .i64 t199, .int .i64 0, .slice none 0 0]) ?_ 1 _ rfl; (with_reducible repeat (first | refine z1e ?_ _ | refine z3e ?_ | refine z2e ?_ _)); refine blk_put (cs := #[.int .i64 0, .int .i64 0, .slice none 0 0]) ?_ 0 _ rfl; (with_reducible repeat (first | refine z1e ?_ _ | refine z3e ?_ | refine z2e ?_ _)); exact BK197.out) Tryz.underlying27 rfl (by kernel_rfl)) rfl ?_
    exact ⟨_, by first | rfl | (simp [errW_none, errW_some] <;> rfl) | (simp [*, errW_none, errW_some] <;> rfl), by (with_reducible repeat (first | apply z8e | apply z9e | apply y1e)); exact Kd.R_mono (x1e (p := ⟨gb197, 2, none⟩) (x1e (p := ⟨gb197, 1, none⟩) (x1e (p := ⟨gb197, 0, none⟩) (x7e HO203.out BK197.out (by decide)) (fun _ hk => hk.2) (.int .i64 t199)) (fun _ hk => hk.2) (.int .i64 t200)) (fun _ hk => hk.2) (.slice Ao25 t201.length co25)) (fun _ hk => trivial), dV HB.out⟩
 ·replace c5 := Bool.eq_false_iff.mpr c5
  subst c5
  rw [if_neg (show ¬ (false = true) by decide)] at H
  simp only [Option.some.injEq, Prod.mk.injEq] at H
  obtain ⟨rfl, rfl, rfl, rfl⟩ := H
  go_enter Tryz.func36, Tryz.ntmps36
  go_wp2_with (first | ((with_reducible refine gate_dst (N := 5) rfl ?_); refine box_event rfl (N := 5) rfl (cs := #[.int .i64 a2]) (t := 3) (by first | (go_simp; done) | (go_simp; rfl)) ?_; intro gb196 hg w26 hbox hb; have n_ := a4 (dU HB.out hb) (hbox) (gE hg HB.out) (gE hg HB.out); clear HB; obtain ⟨HB, BK196, GW196, GE196⟩ := n_; have gi_196 := GEc.mk GE196.out; clear hb hbox hg) | ((with_reducible refine gate_dst (N := 6) rfl ?_); refine box_event rfl (N := 6) rfl (cs := #[.int .i64 0, .int .i64 0, .slice none 0 0]) (t := 27) (by first | (go_simp; done) | (go_simp; rfl)) ?_; intro gb197 hg w27 hbox hb; have n_ := a7 (bU BK196.out hb) (dU HB.out hb) (hbox) (gE hg HB.out) (gE hg HB.out) (nL hg BK196.out) (nG hg BK196.out); clear BK196 HB; obtain ⟨BK196, HB, BK197, GW197, GE197, NB196_197, NB197_196⟩ := n_; have gi_197 := GEc.mk GE197.out; clear hb hbox hg) | ((with_reducible refine gate_callee (f := 12) rfl ?_); refine goesL_ (some 10) rfl rfl Tryz.func12 (by kernel_rfl) rfl #[.int .i64 a0, .int .i64 a1] rfl (by (try simp only [List.map_toArray, List.map_cons, List.map_nil]); first | done | rfl | (simp only [List.length_drop, List.length_take]; rfl)) ?_; (with_reducible refine (impl_sized.calls a0 a1 false _ A4.out).mono ?_); rintro e w' ⟨rfl, ⟨nd, rfl⟩⟩; refine ⟨_, rfl, ?_⟩; (try (rw [drewN_self w27]; generalize hq_ : World.drewN w27 _ = w27; have n0_ : Aside0 (w27.heap[gb196]? = some (.cells #[.int .i64 a2] 3 (0, 0))) := ⟨by rw [← hq_]; exact (bV BK196.out)⟩; have n1_ : Aside0 (w27.heap[gb197]? = some (.cells #[.int .i64 0, .int .i64 0, .slice none 0 0] 27 (0, 0))) := ⟨by rw [← hq_]; exact (bV BK197.out)⟩; have n2_ : Aside0 (Below w.heap.size w w27) := ⟨by rw [← hq_]; exact (dV HB.out)⟩; clear BK196 BK197 HB hq_; have BK196 := n0_; have BK197 := n1_; have HB := n2_; clear n0_ n1_ n2_)); have hnb28 := NB197_196.out; have hnc28 := NB196_197.out; have hcz29_0 : w27.cell? ⟨gb197, 0, none⟩ = some (.int .i64 0) := (x3e BK197.out 0).trans rfl; have hcz29_1 : w27.cell? ⟨gb197, 1, none⟩ = some (.int .i64 0) := (x3e BK197.out 1).trans rfl; have hcz29_2 : w27.cell? ⟨gb197, 2, none⟩ = some (.slice none 0 0) := (x3e BK197.out 2).trans rfl; have hfz29_0 := x2e BK197.out 0; have hfz29_1 := x2e BK197.out 1; have hfz29_2 := x2e BK197.out 2))
  refine bodyPost_ret (results_ct rfl _ _ gb197 27 #[.int .i64 0, .int .i64 0, .slice none 0 0] (0, 0) _ rfl (by (with_reducible repeat (first | refine z1e ?_ _ | refine z3e ?_ | refine z2e ?_ _)); refine blk_put (cs := #[.int .i64 0, .int .i64 0, .slice none 0 0]) ?_ 2 _ rfl; (with_reducible repeat (first | refine z1e ?_ _ | refine z3e ?_ | refine z2e ?_ _)); refine blk_put (cs := #[.int .i64 0, .int .i64 0, .slice none 0 0]) ?_ 1 _ rfl; (with_reducible repeat (first | refine z1e ?_ _ | refine z3e ?_ | refine z2e ?_ _)); refine blk_put (cs := #[.int .i64 0, .int .i64 0, .slice none 0 0]) ?_ 0 _ rfl; (with_reducible repeat (first | refine z1e ?_ _ | refine z3e ?_ | refine z2e ?_ _)); exact BK197.out) Tryz.underlying27 rfl (by kernel_rfl)) rfl ?_
  exact ⟨_, by first | rfl | (simp [errW_none, errW_some] <;> rfl) | (simp [*, errW_none, errW_some] <;> rfl), by first | exact Kd.R_nil _ _ _ _ _ | exact Kd.N_nil _ _ _ _ _ | exact Kd.V_nil _ _ _ _ _ | exact Kd.Q_nil _ _ _ _ _ | exact Kd.S_nil _ _ _ _ _, dV HB.out⟩

def impl_NewDesk.f (k : Nat)  : Option (Int × Int × List Int × Int × Int × List Int × (List (S27))) := (impl_FlatPicture.f 1 1 0).bind fun bt205 => ((impl_BayerMatrix.f k 0).bind fun bt212 => (some (bt205.1, bt205.2.1, bt205.2.2.1, bt212.1, bt212.2.1, bt212.2.2.1, ([] : List (S27)))))
set_option maxHeartbeats 8000000 in
set_option maxRecDepth 100000 in
theorem impl_NewDesk.calls (k : Nat)  (r1 : Int) (r2 : Int) (r3 : List Int) (r4 : Int) (r5 : Int) (r6 : List Int) (r7 : List (S27)) (w : World) (h : impl_NewDesk.f k  = some (r1, r2, r3, r4, r5, r6, r7)) :
  Calls Tryz.prog 27 #[] w fun e w' => ∃ v2_ v5_ v6_ : Value, e = .returned (.agg #[.int .i64 r1, .int .i64 r2, v2_, .int .i64 r4, .int .i64 r5, v5_, v6_]) ∧ Kd.R (Kd.int .i64) 3 w' w.heap.size (fun k_ => some k_ ≠ (v5_ : Value).ownBlock) v2_ r3 ∧ Kd.R (Kd.int .i64) 3 w' w.heap.size (fun k_ => some k_ ≠ (v2_ : Value).ownBlock) v5_ r6 ∧ Kd.S k27 27 w' w.heap.size (fun k_ => some k_ ≠ (v2_ : Value).ownBlock ∧ some k_ ≠ (v5_ : Value).ownBlock) v6_ r7 ∧ Below w.heap.size w w' := by
 have hu55 := Tryz.underlying55
 have hu27 := Tryz.underlying27
 have hu31 := Tryz.underlying31
 have HB := z0e (Below.refl w.heap.size w)
 have H := h
 unfold impl_NewDesk.f at H
 clear h
 replace H := Option.bind_eq_some_iff.mp H
 obtain ⟨⟨t205, t206, t207, t210⟩, A10, H⟩ := H
 (try dsimp only at H)
 have A1 := z0e A10
 clear A10
 replace H := Option.bind_eq_some_iff.mp H
 obtain ⟨⟨t212, t213, t214, t217⟩, A20, H⟩ := H
 (try dsimp only at H)
 have A2 := z0e A20
 clear A20
 simp only [Option.some.injEq, Prod.mk.injEq] at H
 obtain ⟨rfl, rfl, rfl, rfl, rfl, rfl, rfl⟩ := H
 go_enter Tryz.func27, Tryz.ntmps27
 go_wp2_with (first | ((with_reducible refine gate_dst (N := 0) rfl ?_); refine box_event rfl (N := 0) rfl (cs := #[.int .i64 0, .int .i64 0, .slice none 0 0, .int .i64 0, .int .i64 0, .slice none 0 0, .slice none 0 0]) (t := 55) (by first | (go_simp; done) | (go_simp; rfl)) ?_; intro gb204 hg w3 hbox hb; have n_ := a4 (dU HB.out hb) (hbox) (gE hg HB.out) (gE hg HB.out); clear HB; obtain ⟨HB, BK204, GW204, GE204⟩ := n_; have gi_204 := GEc.mk GE204.out; clear hb hbox hg) | ((with_reducible refine gate_callee (f := 36) rfl ?_); refine goesL_ (some 6) rfl rfl Tryz.func36 (by kernel_rfl) rfl #[.int .i64 1, .int .i64 1, .int .i64 0] rfl (by (try simp only [List.map_toArray, List.map_cons, List.map_nil]); first | done | rfl | (simp only [List.length_drop, List.length_take]; rfl)) ?_; (with_reducible refine (impl_FlatPicture.calls 1 1 0 t205 t206 t207 t210 _ A1.out).mono ?_); rintro e w4 ⟨v208, rfl, ho0, hb⟩; refine ⟨_, rfl, ?_⟩; have n_ := a3 (Kd.R_lower ho0 (y7e (dV HB.out))) (bU BK204.out hb) (dU HB.out hb); clear BK204 HB; obtain ⟨HO209, BK204, HB⟩ := n_; (try clear hb); (try clear ho0)) | ((with_reducible refine gate_dst (N := 1) rfl ?_); refine box_event rfl (N := 1) rfl (cs := #[.int .i64 0, .int .i64 0, .slice none 0 0]) (t := 27) (by first | (go_simp; done) | (go_simp; rfl)) ?_; intro gb211 hg w5 hbox hb; have n_ := a8 (Kd.R_below (rV HO209.out) hb) (bU BK204.out hb) (dU HB.out hb) (hbox) (gE hg HB.out) (gE hg HB.out) (nL hg BK204.out) (nG hg BK204.out); clear HO209 BK204 HB; obtain ⟨HO209, BK204, HB, BK211, GW211, GE211, NB204_211, NB211_204⟩ := n_; have gi_211 := GEc.mk GE211.out; clear hb hbox hg; have hnb6 := NB211_204.out; have hnc6 := NB204_211.out; have hcz7_0 : w5.cell? ⟨gb211, 0, none⟩ = some (.int .i64 0) := (x3e BK211.out 0).trans rfl; have hcz7_1 : w5.cell? ⟨gb211, 1, none⟩ = some (.int .i64 0) := (x3e BK211.out 1).trans rfl; have hcz7_2 : w5.cell? ⟨gb211, 2, none⟩ = some (.slice none 0 0) := (x3e BK211.out 2).trans rfl; have hfz7_0 := x2e BK211.out 0; have hfz7_1 := x2e BK211.out 1; have hfz7_2 := x2e BK211.out 2; obtain ⟨Ao8, co8, eo8⟩ := Kd.R_slice HO209.out; subst eo8) | ((with_reducible refine gate_callee (f := 7) rfl ?_); refine goesL_ (some 10) rfl rfl Tryz.func7 (by kernel_rfl) rfl #[.int .i64 0] rfl (by (try simp only [List.map_toArray, List.map_cons, List.map_nil]); first | done | rfl | (simp only [List.length_drop, List.length_take]; rfl)) ?_; (with_reducible refine (impl_BayerMatrix.calls k 0 t212 t213 t214 t217 _ A2.out).mono ?_); rintro e w9 ⟨v215, rfl, ho0, hb⟩; refine ⟨_, rfl, ?_⟩; have n_ := a5 (Kd.R_elder' (by (with_reducible repeat (first | apply z8e | apply z9e | apply y1e)); exact (Kd.R_mono (x1e (p := ⟨gb211, 2, none⟩) (x1e (p := ⟨gb211, 1, none⟩) (x1e (p := ⟨gb211, 0, none⟩) (x7e HO209.out BK211.out (by decide)) (fun _ hk => hk.2) (.int .i64 t205)) (fun _ hk => hk.2) (.int .i64 t206)) (fun _ hk => hk.2) (.slice Ao8 t207.length co8)) (fun _ h_ => h_.1))) (Kd.R_base ho0) hb) (Kd.R_lower (Kd.R_new' ho0 (Kd.R_lt (by (with_reducible repeat (first | apply z8e | apply z9e | apply y1e)); exact (Kd.R_mono (x1e (p := ⟨gb211, 2, none⟩) (x1e (p := ⟨gb211, 1, none⟩) (x1e (p := ⟨gb211, 0, none⟩) (x7e HO209.out BK211.out (by decide)) (fun _ hk => hk.2) (.int .i64 t205)) (fun _ hk => hk.2) (.int .i64 t206)) (fun _ hk => hk.2) (.slice Ao8 t207.length co8)) (fun _ h_ => h_.1))))) (y7e (dV HB.out))) (blk_below (g := gb204) (o := .cells #[.int .i64 0, .int .i64 0, .slice none 0 0, .int .i64 0, .int .i64 0, .slice none 0 0, .slice none 0 0] 55 (0, 0)) (by (with_reducible repeat (first | refine z1e ?_ _ | refine z3e ?_ | refine z2e ?_ _)); refine blk_far ?_ NB204_211.out _; (with_reducible repeat (first | refine z1e ?_ _ | refine z3e ?_ | refine z2e ?_ _)); refine blk_far ?_ NB204_211.out _; (with_reducible repeat (first | refine z1e ?_ _ | refine z3e ?_ | refine z2e ?_ _)); refine blk_far ?_ NB204_211.out _; (with_reducible repeat (first | refine z1e ?_ _ | refine z3e ?_ | refine z2e ?_ _)); exact BK204.out) hb) (blk_below (g := gb211) (o := .cells #[.int .i64 t205, .int .i64 t206, .slice Ao8 t207.length co8] 27 (0, 0)) (by (with_reducible repeat (first | refine z1e ?_ _ | refine z3e ?_ | refine z2e ?_ _)); refine blk_put (cs := #[.int .i64 t205, .int .i64 t206, .slice none 0 0]) ?_ 2 _ rfl; (with_reducible repeat (first | refine z1e ?_ _ | refine z3e ?_ | refine z2e ?_ _)); refine blk_put (cs := #[.int .i64 t205, .int .i64 0, .slice none 0 0]) ?_ 1 _ rfl; (with_reducible repeat (first | refine z1e ?_ _ | refine z3e ?_ | refine z2e ?_ _)); refine blk_put (cs := #[.int .i64 0, .int .i64 0, .slice none 0 0]) ?_ 0 _ rfl; (with_reducible repeat (first | refine z1e ?_ _ | refine z3e ?_ | refine z2e ?_ _)); exact BK211.out) hb) (dU HB.out hb); clear HO209 BK204 BK211 HB; obtain ⟨HO209, HO216, BK204, BK211, HB⟩ := n_; (try clear hb); (try clear ho0)) | ((with_reducible refine gate_dst (N := 3) rfl ?_); refine box_event rfl (N := 3) rfl (cs := #[.int .i64 0, .int .i64 0, .slice none 0 0]) (t := 31) (by first | (go_simp; done) | (go_simp; rfl)) ?_; intro gb218 hg w10 hbox hb; have n_ := a12 (Kd.R_below (rV HO209.out) hb) (Kd.R_below (rV HO216.out) hb) (bU BK204.out hb) (bU BK211.out hb) (dU HB.out hb) (hbox) (gE hg HB.out) (gE hg HB.out) (nL hg BK204.out) (nG hg BK204.out) (nL hg BK211.out) (nG hg BK211.out); clear HO209 HO216 BK204 BK211 HB; obtain ⟨HO209, HO216, BK204, BK211, HB, BK218, GW218, GE218, NB204_218, NB218_204, NB211_218, NB218_211⟩ := n_; have gi_218 := GEc.mk GE218.out; clear hb hbox hg; have hnb11 := NB218_204.out; have hnc11 := NB204_218.out; have hnb12 := NB218_211.out; have hnc12 := NB211_218.out; have hcz13_0 : w10.cell? ⟨gb218, 0, none⟩ = some (.int .i64 0) := (x3e BK218.out 0).trans rfl; have hcz13_1 : w10.cell? ⟨gb218, 1, none⟩ = some (.int .i64 0) := (x3e BK218.out 1).trans rfl; have hcz13_2 : w10.cell? ⟨gb218, 2, none⟩ = some (.slice none 0 0) := (x3e BK218.out 2).trans rfl; have hfz13_0 := x2e BK218.out 0; have hfz13_1 := x2e BK218.out 1; have hfz13_2 := x2e BK218.out 2; obtain ⟨Ao14, co14, eo14⟩ := Kd.R_slice HO216.out; subst eo14; have hcz15_0 : w10.cell? ⟨gb211, 0, none⟩ = some (.int .i64 t205) := (x3e BK211.out 0).trans rfl; have hcz15_1 : w10.cell? ⟨gb211, 1, none⟩ = some (.int .i64 t206) := (x3e BK211.out 1).trans rfl; have hcz15_2 : w10.cell? ⟨gb211, 2, none⟩ = some (.slice Ao8 t207.length co8) := (x3e BK211.out 2).trans rfl; have hfz15_0 := x2e BK211.out 0; have hfz15_1 := x2e BK211.out 1; have hfz15_2 := x2e BK211.out 2; have hcz16_0 : w10.cell? ⟨gb204, 0, none⟩ = some (.int .i64 0) := (x3e BK204.out 0).trans rfl; have hcz16_1 : w10.cell? ⟨gb204, 1, none⟩ = some (.int .i64 0) := (x3e BK204.out 1).trans rfl; have hcz16_2 : w10.cell? ⟨gb204, 2, none⟩ = some (.slice none 0 0) := (x3e BK204.out 2).trans rfl; have hcz16_3 : w10.cell? ⟨gb204, 3, none⟩ = some (.int .i64 0) := (x3e BK204.out 3).trans rfl; have hcz16_4 : w10.cell? ⟨gb204, 4, none⟩ = some (.int .i64 0) := (x3e BK204.out 4).trans rfl; have hcz16_5 : w10.cell? ⟨gb204, 5, none⟩ = some (.slice none 0 0) := (x3e BK204.out 5).trans rfl; have hcz16_6 : w10.cell? ⟨gb204, 6, none⟩ = some (.slice none 0 0) := (x3e BK204.out 6).trans rfl; have hfz16_0 := x2e BK204.out 0; have hfz16_1 := x2e BK204.out 1; have hfz16_2 := x2e BK204.out 2; have hfz16_3 := x2e BK204.out 3; have hfz16_4 := x2e BK204.out 4; have hfz16_5 := x2e BK204.out 5; have hfz16_6 := x2e BK204.out 6))
 refine bodyPost_ret (results_cell_row rfl _ _ gb204 55 #[.int .i64 t205, .int .i64 t206, .slice Ao8 t207.length co8, .int .i64 t212, .int .i64 t213, .slice Ao14 t214.length co14, .slice none 0 0] (0, 0) _ rfl (by (with_reducible repeat (first | refine z1e ?_ _ | refine z3e ?_ | refine z2e ?_ _)); refine blk_put (cs := #[.int .i64 t205, .int .i64 t206, .slice Ao8 t207.length co8, .int .i64 t212, .int .i64 t213, .slice Ao14 t214.length co14, .slice none 0 0]) ?_ 6 _ rfl; (with_reducible repeat (first | refine z1e ?_ _ | refine z3e ?_ | refine z2e ?_ _)); refine blk_put (cs := #[.int .i64 t205, .int .i64 t206, .slice Ao8 t207.length co8, .int .i64 t212, .int .i64 t213, .slice none 0 0, .slice none 0 0]) ?_ 5 _ rfl; (with_reducible repeat (first | refine z1e ?_ _ | refine z3e ?_ | refine z2e ?_ _)); refine blk_put (cs := #[.int .i64 t205, .int .i64 t206, .slice Ao8 t207.length co8, .int .i64 t212, .int .i64 0, .slice none 0 0, .slice none 0 0]) ?_ 4 _ rfl; (with_reducible repeat (first | refine z1e ?_ _ | refine z3e ?_ | refine z2e ?_ _)); refine blk_put (cs := #[.int .i64 t205, .int .i64 t206, .slice Ao8 t207.length co8, .int .i64 0, .int .i64 0, .slice none 0 0, .slice none 0 0]) ?_ 3 _ rfl; (with_reducible repeat (first | refine z1e ?_ _ | refine z3e ?_ | refine z2e ?_ _)); refine blk_put (cs := #[.int .i64 t205, .int .i64 t206, .slice none 0 0, .int .i64 0, .int .i64 0, .slice none 0 0, .slice none 0 0]) ?_ 2 _ rfl; (with_reducible repeat (first | refine z1e ?_ _ | refine z3e ?_ | refine z2e ?_ _)); refine blk_put (cs := #[.int .i64 t205, .int .i64 0, .slice none 0 0, .int .i64 0, .int .i64 0, .slice none 0 0, .slice none 0 0]) ?_ 1 _ rfl; (with_reducible repeat (first | refine z1e ?_ _ | refine z3e ?_ | refine z2e ?_ _)); refine blk_put (cs := #[.int .i64 0, .int .i64 0, .slice none 0 0, .int .i64 0, .int .i64 0, .slice none 0 0, .slice none 0 0]) ?_ 0 _ rfl; (with_reducible repeat (first | refine z1e ?_ _ | refine z3e ?_ | refine z2e ?_ _)); refine blk_far ?_ NB204_218.out _; (with_reducible repeat (first | refine z1e ?_ _ | refine z3e ?_ | refine z2e ?_ _)); refine blk_far ?_ NB204_218.out _; (with_reducible repeat (first | refine z1e ?_ _ | refine z3e ?_ | refine z2e ?_ _)); refine blk_far ?_ NB204_218.out _; (with_reducible repeat (first | refine z1e ?_ _ | refine z3e ?_ | refine z2e ?_ _)); exact BK204.out) Tryz.underlying55 rfl (by kernel_rfl)) rfl ?_
 exact ⟨_, _, _, by first | rfl | (simp [errW_none, errW_some] <;> rfl) | (simp [*, errW_none, errW_some] <;> rfl), by (with_reducible repeat (first | apply z8e | apply z9e | apply y1e)); exact Kd.R_mono (x1e (p := ⟨gb204, 6, none⟩) (x1e (p := ⟨gb204, 5, none⟩) (x1e (p := ⟨gb204, 4, none⟩) (x1e (p := ⟨gb204, 3, none⟩) (x1e (p := ⟨gb204, 2, none⟩) (x1e (p := ⟨gb204, 1, none⟩) (x1e (p := ⟨gb204, 0, none⟩) (x1e (p := ⟨gb218, 2, none⟩) (x1e (p := ⟨gb218, 1, none⟩) (x1e (p := ⟨gb218, 0, none⟩) (x7e (x7e HO209.out BK218.out (by decide)) BK204.out (by decide)) (fun _ hk => hk.1.2) (.int .i64 t212)) (fun _ hk => hk.1.2) (.int .i64 t213)) (fun _ hk => hk.1.2) (.slice Ao14 t214.length co14)) (fun _ hk => hk.2) (.int .i64 t205)) (fun _ hk => hk.2) (.int .i64 t206)) (fun _ hk => hk.2) (.slice Ao8 t207.length co8)) (fun _ hk => hk.2) (.int .i64 t212)) (fun _ hk => hk.2) (.int .i64 t213)) (fun _ hk => hk.2) (.slice Ao14 t214.length co14)) (fun _ hk => hk.2) (.slice none 0 0)) (fun _ hk => hk.1.1.2), by (with_reducible repeat (first | apply z8e | apply z9e | apply y1e)); exact Kd.R_mono (x1e (p := ⟨gb204, 6, none⟩) (x1e (p := ⟨gb204, 5, none⟩) (x1e (p := ⟨gb204, 4, none⟩) (x1e (p := ⟨gb204, 3, none⟩) (x1e (p := ⟨gb204, 2, none⟩) (x1e (p := ⟨gb204, 1, none⟩) (x1e (p := ⟨gb204, 0, none⟩) (x1e (p := ⟨gb218, 2, none⟩) (x1e (p := ⟨gb218, 1, none⟩) (x1e (p := ⟨gb218, 0, none⟩) (x7e (x7e HO216.out BK218.out (by decide)) BK204.out (by decide)) (fun _ hk => hk.1.2) (.int .i64 t212)) (fun _ hk => hk.1.2) (.int .i64 t213)) (fun _ hk => hk.1.2) (.slice Ao14 t214.length co14)) (fun _ hk => hk.2) (.int .i64 t205)) (fun _ hk => hk.2) (.int .i64 t206)) (fun _ hk => hk.2) (.slice Ao8 t207.length co8)) (fun _ hk => hk.2) (.int .i64 t212)) (fun _ hk => hk.2) (.int .i64 t213)) (fun _ hk => hk.2) (.slice Ao14 t214.length co14)) (fun _ hk => hk.2) (.slice none 0 0)) (fun _ hk => hk.1.1.2), by first | exact Kd.S_nil _ _ _ _ _ | exact Kd.N_nil _ _ _ _ _ | exact Kd.V_nil _ _ _ _ _ | exact Kd.Q_nil _ _ _ _ _ | exact Kd.R_nil _ _ _ _ _, dV HB.out⟩

def slices_Clone_int_int.f (l0 : List Int) : Option (List Int) := if l0.length < 17592186044416 then some l0 else none
theorem slices_Clone_int_int.calls (A0 : Option Addr) (c0 : Nat) (l0 : List Int) (r : List Int) (w : World) (hr0 : Kd.C (Kd.int .i64) w A0 l0.length l0) (hc0 : l0.length ≤ c0) (h : slices_Clone_int_int.f l0 = some r) :
  Calls Tryz.prog 51 #[.slice A0 l0.length c0] w fun e w' => ∃ v0_ : Value, e = .returned (v0_) ∧ Kd.R (Kd.int .i64) 3 w' w.heap.size (fun _ => True) v0_ r ∧ Below w.heap.size w w' := by
 unfold slices_Clone_int_int.f at h
 split at h
 ·rename_i hl
  obtain rfl := Option.some.inj h
  exact Ext.Clone A0 c0 l0 w hr0 hl
 ·exact absurd h (by simp)

def impl_copied.f (a0_0 : Int) (a0_1 : Int) (l0_2 : List Int) : Option (Int × Int × List Int) := (slices_Clone_int_int.f l0_2).bind fun t221 => (some (a0_0, a0_1, t221))
set_option maxHeartbeats 8000000 in
set_option maxRecDepth 100000 in
theorem impl_copied.calls (a0_0 : Int) (a0_1 : Int) (A0_2 : Option Addr) (c0_2 : Nat) (l0_2 : List Int) (r1 : Int) (r2 : Int) (r3 : List Int) (w : World) (hr0_2 : Kd.C (Kd.int .i64) w A0_2 l0_2.length l0_2) (hc0_2 : l0_2.length ≤ c0_2) (h : impl_copied.f a0_0 a0_1 l0_2 = some (r1, r2, r3)) :
  Calls Tryz.prog 50 #[.agg #[.int .i64 a0_0, .int .i64 a0_1, .slice A0_2 l0_2.length c0_2]] w fun e w' => ∃ v2_ : Value, e = .returned (.agg #[.int .i64 r1, .int .i64 r2, v2_]) ∧ Kd.R (Kd.int .i64) 3 w' w.heap.size (fun _ => True) v2_ r3 ∧ Below w.heap.size w w' := by
 have hu27 := Tryz.underlying27
 have HR0_2 := z0e hr0_2
 have HC0_2 := z0e hc0_2
 clear hr0_2 hc0_2
 have HB := z0e (Below.refl w.heap.size w)
 have H := h
 unfold impl_copied.f at H
 clear h
 replace H := Option.bind_eq_some_iff.mp H
 obtain ⟨t221, A20, H⟩ := H
 (try dsimp only at H)
 have A2 := z0e A20
 clear A20
 simp only [Option.some.injEq, Prod.mk.injEq] at H
 obtain ⟨rfl, rfl, rfl⟩ := H
 go_enter Tryz.func50, Tryz.ntmps50
 go_wp2_with (first | ((with_reducible refine gate_dst (N := 1) rfl ?_); refine box_event rfl (N := 1) rfl (cs := #[.int .i64 a0_0, .int .i64 a0_1, .slice A0_2 l0_2.length c0_2]) (t := 27) (by first | (go_simp; done) | (go_simp; rfl)) ?_; intro gb219 hg w3 hbox hb; have n_ := a4 (dU HB.out hb) (hbox) (gE hg HB.out) (gE hg HB.out); clear HB; obtain ⟨HB, BK219, GW219, GE219⟩ := n_; have gi_219 := GEc.mk GE219.out; clear hb hbox hg) | ((with_reducible refine gate_dst (N := 2) rfl ?_); refine box_event rfl (N := 2) rfl (cs := #[.int .i64 0, .int .i64 0, .slice none 0 0]) (t := 27) (by first | (go_simp; done) | (go_simp; rfl)) ?_; intro gb220 hg w4 hbox hb; have n_ := a7 (bU BK219.out hb) (dU HB.out hb) (hbox) (gE hg HB.out) (gE hg HB.out) (nL hg BK219.out) (nG hg BK219.out); clear BK219 HB; obtain ⟨BK219, HB, BK220, GW220, GE220, NB219_220, NB220_219⟩ := n_; have gi_220 := GEc.mk GE220.out; clear hb hbox hg; have hnb5 := NB219_220.out; have hnc5 := NB220_219.out; have hcz6_0 : w4.cell? ⟨gb219, 0, none⟩ = some (.int .i64 a0_0) := (x3e BK219.out 0).trans rfl; have hcz6_1 : w4.cell? ⟨gb219, 1, none⟩ = some (.int .i64 a0_1) := (x3e BK219.out 1).trans rfl; have hcz6_2 : w4.cell? ⟨gb219, 2, none⟩ = some (.slice A0_2 l0_2.length c0_2) := (x3e BK219.out 2).trans rfl; have hfz6_0 := x2e BK219.out 0; have hfz6_1 := x2e BK219.out 1; have hfz6_2 := x2e BK219.out 2) | ((with_reducible refine gate_callee (f := 51) rfl ?_); refine goesL_ (some 5) rfl rfl Tryz.func51 (by kernel_rfl) rfl #[.slice A0_2 l0_2.length c0_2] rfl (by (try simp only [List.map_toArray, List.map_cons, List.map_nil]); first | done | rfl | (simp only [List.length_drop, List.length_take]; rfl)) ?_; (with_reducible refine (slices_Clone_int_int.calls _ _ l0_2 t221 _ ?side1 ?side2 A2.out).mono ?_); (case side1 => repeat (first | exact HR0_2.out | exact (y9e HR0_2.out HB.out) | (with_reducible refine y2e ?_ _) | (with_reducible refine y3e ?_ _) | (with_reducible refine y4e ?_))); (case side2 => exact HC0_2.out); rintro e w7 ⟨v222, rfl, ho0, hb⟩; refine ⟨_, rfl, ?_⟩; have n_ := a4 (Kd.R_lower ho0 (y7e (dV HB.out))) (bU BK219.out hb) (bU BK220.out hb) (dU HB.out hb); clear BK219 BK220 HB; obtain ⟨HO223, BK219, BK220, HB⟩ := n_; (try clear hb); (try clear ho0); obtain ⟨Ao8, co8, eo8⟩ := Kd.R_slice HO223.out; subst eo8; have hcz9_0 : w7.cell? ⟨gb219, 0, none⟩ = some (.int .i64 a0_0) := (x3e BK219.out 0).trans rfl; have hcz9_1 : w7.cell? ⟨gb219, 1, none⟩ = some (.int .i64 a0_1) := (x3e BK219.out 1).trans rfl; have hcz9_2 : w7.cell? ⟨gb219, 2, none⟩ = some (.slice A0_2 l0_2.length c0_2) := (x3e BK219.out 2).trans rfl; have hfz9_0 := x2e BK219.out 0; have hfz9_1 := x2e BK219.out 1; have hfz9_2 := x2e BK219.out 2; have hcz10_0 : w7.cell? ⟨gb220, 0, none⟩ = some (.int .i64 0) := (x3e BK220.out 0).trans rfl; have hcz10_1 : w7.cell? ⟨gb220, 1, none⟩ = some (.int .i64 0) := (x3e BK220.out 1).trans rfl; have hcz10_2 : w7.cell? ⟨gb220, 2, none⟩ = some (.slice none 0 0) := (x3e BK220.out 2).trans rfl; have hfz10_0 := x2e BK220.out 0; have hfz10_1 := x2e BK220.out 1; have hfz10_2 := x2e BK220.out 2))
 refine bodyPost_ret (results_cell_row rfl _ _ gb220 27 #[.int .i64 a0_0, .int .i64 a0_1, .slice Ao8 t221.length co8] (0, 0) _ rfl (by (with_reducible repeat (first | refine z1e ?_ _ | refine z3e ?_ | refine z2e ?_ _)); refine blk_put (cs := #[.int .i64 a0_0, .int .i64 a0_1, .slice none 0 0]) ?_ 2 _ rfl; (with_reducible repeat (first | refine z1e ?_ _ | refine z3e ?_ | refine z2e ?_ _)); refine blk_put (cs := #[.int .i64 a0_0, .int .i64 0, .slice none 0 0]) ?_ 1 _ rfl; (with_reducible repeat (first | refine z1e ?_ _ | refine z3e ?_ | refine z2e ?_ _)); refine blk_put (cs := #[.int .i64 0, .int .i64 0, .slice none 0 0]) ?_ 0 _ rfl; (with_reducible repeat (first | refine z1e ?_ _ | refine z3e ?_ | refine z2e ?_ _)); refine blk_far ?_ NB220_219.out _; (with_reducible repeat (first | refine z1e ?_ _ | refine z3e ?_ | refine z2e ?_ _)); exact BK220.out) Tryz.underlying27 rfl (by kernel_rfl)) rfl ?_
 exact ⟨_, by first | rfl | (simp [errW_none, errW_some] <;> rfl) | (simp [*, errW_none, errW_some] <;> rfl), by (with_reducible repeat (first | apply z8e | apply z9e | apply y1e)); exact Kd.R_mono (x1e (p := ⟨gb220, 2, none⟩) (x1e (p := ⟨gb220, 1, none⟩) (x1e (p := ⟨gb220, 0, none⟩) (x1e (p := ⟨gb219, 2, none⟩) (x7e (x7e HO223.out BK219.out (by decide)) BK220.out (by decide)) (fun _ hk => hk.1.2) (.slice Ao8 t221.length co8)) (fun _ hk => hk.2) (.int .i64 a0_0)) (fun _ hk => hk.2) (.int .i64 a0_1)) (fun _ hk => hk.2) (.slice Ao8 t221.length co8)) (fun _ hk => trivial), dV HB.out⟩

end Go.Proofs.YtkcgnnepgebekaaGreatDoor.PFnDesk
