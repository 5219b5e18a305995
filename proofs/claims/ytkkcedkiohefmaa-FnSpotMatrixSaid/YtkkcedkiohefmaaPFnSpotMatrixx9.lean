/- Machine side of laws FnSpotMatrix: written for this claim by the kit's print program under this session's wip/tools/mp_setup.py (with contracts of the session's own, wip/ext). -/
import Derived.Test.YtkkcedkiohefmaaPFnSpotMatrixx0
import Derived.Test.YtkkcedkiohefmaaPFnSpotMatrixx1
import Derived.Test.YtkkcedkiohefmaaPFnSpotMatrixx6
import Derived.Test.YtkkcedkiohefmaaPFnSpotMatrixx7
import Derived.Test.YtkkcedkiohefmaaPFnSpotMatrixx8
namespace Go.Proofs.Ytkkcedkiohefmaa.PFnSpotMatrix
open Go.RowKit Go.Proofs.YtkkcedkiohefmaaW.PrintWords Go.Proofs.YtkkcedkiohefmaaW.PrintLast Go.Proofs.YtkkcedkiohefmaaW.PrintMore
attribute [local go_sem] max2_int min2_int max_two min_two max_three min_three max_four min_four   -- for this text's walks alone
set_option linter.unusedVariables false
set_option linter.unusedSimpArgs false
-- squeezed: words under short names
set_option linter.defProp false in
def z0j := @Aside0.mk
set_option linter.defProp false in
def z1j := @blk_drewN
set_option linter.defProp false in
def z2j := @blk_alloc
set_option linter.defProp false in
def z3j := @blk_drew
set_option linter.defProp false in
def z4j := @below_alloc
set_option linter.defProp false in
def z5j := @pw_below_drewN
set_option linter.defProp false in
def z6j := @below_drew1
set_option linter.defProp false in
def z7j := @below_set
set_option linter.defProp false in
def y5j := @blk_below
set_option linter.defProp false in
def y6j := @below_step
set_option linter.defProp false in
def y7j := @below_size
set_option linter.defProp false in
def x2j := @blk_frozen
set_option linter.defProp false in
def x3j := @blk_cell
def bsj_ (n m : Nat) : Array Bool := ((List.range n).map fun i => m.testBit i).toArray
theorem s1j_ {α : Type} (l : List α) (i : Nat) (a : α) : l.toArray.setIfInBounds i a = (l.set i a).toArray := List.setIfInBounds_toArray l i a
theorem s2j_ {α : Type} (a b : α) (l : List α) : (a :: l).set 0 b = b :: l := rfl
theorem s3j_ {α : Type} (a b : α) (n : Nat) (l : List α) : (a :: l).set (n + 1) b = a :: l.set n b := rfl

def impl_SpotPlate.j0 : Nat → Int → Int → Bool → Int → Int → Int → Option (Int × Int × List Int × Bool)
 | 0, _, _, _, _, _, _ => none
 | k + 1, x2, x3, x29, x250000, x250001, x251000 => if x29 = true then (some (0, 0, ([] : List Int), false)) else ((impl_SpotRanks.f k x250000 x250001).bind fun t255 => ((impl_SpotPlate_1.drawn.f k x2 x3 t255 x250000 x250001 x251000).bind fun bt259 => (some (bt259.1, bt259.2.1, bt259.2.2, true))))
def impl_SpotPlate.f (k : Nat) (a0_0 : Int) (a0_1 : Int) (a1 : Int) (a2 : Int) (a3 : Int) : Option (Int × Int × List Int × Bool) := (impl_IsLattice.f a0_0 a0_1).bind fun t252 => (if t252 = true then (if a1 < 0 then (impl_SpotPlate.j0 k a2 a3 true a0_0 a0_1 a1) else ((impl_area.f a0_0 a0_1).bind fun t253 => (if a1 > t253 then (impl_SpotPlate.j0 k a2 a3 true a0_0 a0_1 a1) else ((impl_sized.f a2 a3).bind fun t254 => (impl_SpotPlate.j0 k a2 a3 (!t254) a0_0 a0_1 a1))))) else (impl_SpotPlate.j0 k a2 a3 true a0_0 a0_1 a1))
def impl_SpotPlate.T1 : Bool × List (List Nat × List Nat) := (true, [([], []), ([0], [0]), ([1], [1]), ([2, 1], [2]), ([3], [3]), ([4, 3], [3, 4]), ([3, 5], [3, 5]), ([6, 3], [6]), ([7], [7]), ([7], [7]), ([9, 7, 7], [7, 9]), ([8, 10, 7], [7, 8, 10]), ([7, 11], [7, 11]), ([12, 10], [12]), ([13], [13]), ([13], [13]), ([14, 15, 13, 13], [13, 14, 15]), ([16, 13], [13, 16]), ([13, 17], [13, 17])])
def impl_SpotPlate.B1 : List Nat := [0, 1, 3, 7, 15, 31, 63, 127, 255, 255, 767, 2047, 4095, 8191, 16383, 16383, 65535, 131071, 262143]
theorem impl_SpotPlate.tab1 : rtab .any (opsOf Try.f12 1) = impl_SpotPlate.T1 := by kernel_rfl
theorem impl_SpotPlate.bits1 : waitsOk impl_SpotPlate.T1.2 impl_SpotPlate.B1 = true := by kernel_rfl
set_option maxHeartbeats 8000000 in
set_option maxRecDepth 100000 in
theorem impl_SpotPlate.calls (k : Nat) (a0_0 : Int) (a0_1 : Int) (a1 : Int) (a2 : Int) (a3 : Int) (r1 : Int) (r2 : Int) (r3 : List Int) (r4 : Bool) (w : World) (h : impl_SpotPlate.f k a0_0 a0_1 a1 a2 a3 = some (r1, r2, r3, r4)) :
  Calls Try.prog 12 #[.agg #[.int .i64 a0_0, .int .i64 a0_1], .int .i64 a1, .int .i64 a2, .int .i64 a3] w fun e w' => ∃ v2_ : Value, e = .returned (.tuple #[.agg #[.int .i64 r1, .int .i64 r2, v2_], .bool r4]) ∧ Kd.R (Kd.int .i64) 3 w' w.heap.size (fun _ => True) v2_ r3 ∧ Below w.heap.size w w' := by
 have hu24 := Try.underlying24
 have hu30 := Try.underlying30
 have HB := z0j (Below.refl w.heap.size w)
 have H : ((impl_IsLattice.f a0_0 a0_1).bind fun t252 => (if t252 = true then (if a1 < 0 then (impl_SpotPlate.j0 k a2 a3 true a0_0 a0_1 a1) else ((impl_area.f a0_0 a0_1).bind fun t253 => (if a1 > t253 then (impl_SpotPlate.j0 k a2 a3 true a0_0 a0_1 a1) else ((impl_sized.f a2 a3).bind fun t254 => (impl_SpotPlate.j0 k a2 a3 (!t254) a0_0 a0_1 a1))))) else (impl_SpotPlate.j0 k a2 a3 true a0_0 a0_1 a1))) = some (r1, r2, r3, r4) := h
 clear h
 have HC5 := z0j H
 clear H
 go_enter Try.func12, Try.ntmps12
 go_upto_region 1 with (first | ((with_reducible refine gate_dst (N := 4) rfl ?_); refine box_event ?hg (N := 4) ?hd (cs := #[.int .i64 a0_0, .int .i64 a0_1]) (t := 24) ?hr ?_; (case hd => rfl); (case hg => rfl); (case hr => first | (go_simp; done) | (go_simp; rfl)); intro gb249 hg w6 hbox hb; have n0_ := z0j (y6j (by repeat (first | (with_reducible first | exact HB.out | apply z4j | apply z5j | apply z6j) | exact HB.out)) hb); have n1_ := z0j (hbox); have n2_ := z0j ((by rw [hg]; exact (y7j (by repeat (first | (with_reducible first | exact HB.out | apply z4j | apply z5j | apply z6j) | exact HB.out))) : w.heap.size ≤ gb249)); have n3_ := z0j ((by rw [hg]; exact (y7j (by repeat (first | (with_reducible first | exact HB.out | apply z4j | apply z5j | apply z6j) | exact HB.out))) : w.heap.size ≤ gb249)); clear HB; have HB := n0_; have BK249 := n1_; have GW249 := n2_; have GE249 := n3_; clear n0_ n1_ n2_ n3_; clear hb hbox hg) | ((with_reducible refine gate_dst (N := 5) rfl ?_); refine box_event ?hg (N := 5) ?hd (cs := #[.int .i64 a1]) (t := 3) ?hr ?_; (case hd => rfl); (case hg => rfl); (case hr => first | (go_simp; done) | (go_simp; rfl)); intro gb250 hg w7 hbox hb; have n0_ := z0j (y5j (g := gb249) (o := .cells #[.int .i64 a0_0, .int .i64 a0_1] 24 (0, 0)) (by (with_reducible repeat (first | refine z1j ?_ _ | refine z3j ?_ | refine z2j ?_ _)); exact BK249.out) hb); have n1_ := z0j (y6j (by repeat (first | (with_reducible first | exact HB.out | apply z4j | apply z5j | apply z6j | refine z7j ?_ GE249.out) | exact HB.out)) hb); have n2_ := z0j (hbox); have n3_ := z0j ((by rw [hg]; exact (y7j (by repeat (first | (with_reducible first | exact HB.out | apply z4j | apply z5j | apply z6j | refine z7j ?_ GE249.out) | exact HB.out))) : w.heap.size ≤ gb250)); have n4_ := z0j ((by rw [hg]; exact (y7j (by repeat (first | (with_reducible first | exact HB.out | apply z4j | apply z5j | apply z6j | refine z7j ?_ GE249.out) | exact HB.out))) : w.heap.size ≤ gb250)); have n5_ := z0j ((by rw [hg]; exact Nat.ne_of_lt (blk_lt (g := gb249) (o := .cells #[.int .i64 a0_0, .int .i64 a0_1] 24 (0, 0)) (by (with_reducible repeat (first | refine z1j ?_ _ | refine z3j ?_ | refine z2j ?_ _)); exact BK249.out)) : gb249 ≠ gb250)); have n6_ := z0j ((by rw [hg]; exact Nat.ne_of_gt (blk_lt (g := gb249) (o := .cells #[.int .i64 a0_0, .int .i64 a0_1] 24 (0, 0)) (by (with_reducible repeat (first | refine z1j ?_ _ | refine z3j ?_ | refine z2j ?_ _)); exact BK249.out)) : gb250 ≠ gb249)); clear BK249; clear HB; have BK249 := n0_; have HB := n1_; have BK250 := n2_; have GW250 := n3_; have GE250 := n4_; have NB249_250 := n5_; have NB250_249 := n6_; clear n0_ n1_ n2_ n3_ n4_ n5_ n6_; clear hb hbox hg) | ((with_reducible refine gate_dst (N := 8) rfl ?_); refine box_event ?hg (N := 8) ?hd (cs := #[.int .i64 0, .int .i64 0, .slice none 0 0]) (t := 30) ?hr ?_; (case hd => rfl); (case hg => rfl); (case hr => first | (go_simp; done) | (go_simp; rfl)); intro gb251 hg w8 hbox hb; have n0_ := z0j (y5j (g := gb249) (o := .cells #[.int .i64 a0_0, .int .i64 a0_1] 24 (0, 0)) (by (with_reducible repeat (first | refine z1j ?_ _ | refine z3j ?_ | refine z2j ?_ _)); exact BK249.out) hb); have n1_ := z0j (y5j (g := gb250) (o := .cells #[.int .i64 a1] 3 (0, 0)) (by (with_reducible repeat (first | refine z1j ?_ _ | refine z3j ?_ | refine z2j ?_ _)); exact BK250.out) hb); have n2_ := z0j (y6j (by repeat (first | (with_reducible first | exact HB.out | apply z4j | apply z5j | apply z6j | refine z7j ?_ GE249.out | refine z7j ?_ GE250.out) | exact HB.out)) hb); have n3_ := z0j (hbox); have n4_ := z0j ((by rw [hg]; exact (y7j (by repeat (first | (with_reducible first | exact HB.out | apply z4j | apply z5j | apply z6j | refine z7j ?_ GE249.out | refine z7j ?_ GE250.out) | exact HB.out))) : w.heap.size ≤ gb251)); have n5_ := z0j ((by rw [hg]; exact (y7j (by repeat (first | (with_reducible first | exact HB.out | apply z4j | apply z5j | apply z6j | refine z7j ?_ GE249.out | refine z7j ?_ GE250.out) | exact HB.out))) : w.heap.size ≤ gb251)); have n6_ := z0j ((by rw [hg]; exact Nat.ne_of_lt (blk_lt (g := gb249) (o := .cells #[.int .i64 a0_0, .int .i64 a0_1] 24 (0, 0)) (by (with_reducible repeat (first | refine z1j ?_ _ | refine z3j ?_ | refine z2j ?_ _)); exact BK249.out)) : gb249 ≠ gb251)); have n7_ := z0j ((by rw [hg]; exact Nat.ne_of_gt (blk_lt (g := gb249) (o := .cells #[.int .i64 a0_0, .int .i64 a0_1] 24 (0, 0)) (by (with_reducible repeat (first | refine z1j ?_ _ | refine z3j ?_ | refine z2j ?_ _)); exact BK249.out)) : gb251 ≠ gb249)); have n8_ := z0j ((by rw [hg]; exact Nat.ne_of_lt (blk_lt (g := gb250) (o := .cells #[.int .i64 a1] 3 (0, 0)) (by (with_reducible repeat (first | refine z1j ?_ _ | refine z3j ?_ | refine z2j ?_ _)); exact BK250.out)) : gb250 ≠ gb251)); have n9_ := z0j ((by rw [hg]; exact Nat.ne_of_gt (blk_lt (g := gb250) (o := .cells #[.int .i64 a1] 3 (0, 0)) (by (with_reducible repeat (first | refine z1j ?_ _ | refine z3j ?_ | refine z2j ?_ _)); exact BK250.out)) : gb251 ≠ gb250)); clear BK249; clear BK250; clear HB; have BK249 := n0_; have BK250 := n1_; have HB := n2_; have BK251 := n3_; have GW251 := n4_; have GE251 := n5_; have NB249_251 := n6_; have NB251_249 := n7_; have NB250_251 := n8_; have NB251_250 := n9_; clear n0_ n1_ n2_ n3_ n4_ n5_ n6_ n7_ n8_ n9_; clear hb hbox hg))
 (try simp only [Act.put, s1j_, s2j_, s3j_])
 go_cut [29] (fun v29 wc => ∃ (kq : Nat) (x29_4 : Bool), v29 = .bool x29_4 ∧ Aside0 (impl_SpotPlate.j0 kq a2 a3 x29_4 a0_0 a0_1 a1 = some (r1, r2, r3, r4)) ∧ Aside0 (kq ≤ k) ∧ Aside0 (wc.heap[gb249]? = some (.cells #[.int .i64 a0_0, .int .i64 a0_1] 24 (0, 0))) ∧ Aside0 (wc.heap[gb250]? = some (.cells #[.int .i64 a1] 3 (0, 0))) ∧ Aside0 (wc.heap[gb251]? = some (.cells #[.int .i64 0, .int .i64 0, (.slice none 0 0)] 30 (0, 0))) ∧ Aside0 (Below w.heap.size w wc))
 case first =>
  have H := HC5.out
  clear HC5
  replace H := Option.bind_eq_some_iff.mp H
  obtain ⟨t252, A90, H⟩ := H
  replace H : (if t252 = true then (if a1 < 0 then (impl_SpotPlate.j0 k a2 a3 true a0_0 a0_1 a1) else ((impl_area.f a0_0 a0_1).bind fun t253 => (if a1 > t253 then (impl_SpotPlate.j0 k a2 a3 true a0_0 a0_1 a1) else ((impl_sized.f a2 a3).bind fun t254 => (impl_SpotPlate.j0 k a2 a3 (!t254) a0_0 a0_1 a1))))) else (impl_SpotPlate.j0 k a2 a3 true a0_0 a0_1 a1)) = some (r1, r2, r3, r4) := H
  have A9 := z0j A90
  clear A90
  by_cases c10 : t252 = true
  ·subst c10
   have H1 : (if a1 < 0 then (impl_SpotPlate.j0 k a2 a3 true a0_0 a0_1 a1) else ((impl_area.f a0_0 a0_1).bind fun t253 => (if a1 > t253 then (impl_SpotPlate.j0 k a2 a3 true a0_0 a0_1 a1) else ((impl_sized.f a2 a3).bind fun t254 => (impl_SpotPlate.j0 k a2 a3 (!t254) a0_0 a0_1 a1))))) = some (r1, r2, r3, r4) := by rw [if_pos rfl] at H; first | exact H | (simp only [if_true] at H ⊢; exact H)
   clear H
   have H := H1
   clear H1
   by_cases c11 : a1 < 0
   ·rw [if_pos c11] at H
    have c11b0 : decide (a1 < 0) = true := decide_eq_true c11
    clear c11
    (first | rw [c11b0] | (simp only [i64_w, i32_w]; rw [c11b0]) | skip)
    have H' := z0j H
    clear H
    try go_wp2
    have n0_ := z0j (z3j BK249.out)
    have n1_ := z0j (z3j BK250.out)
    have n2_ := z0j (z3j BK251.out)
    have n3_ := z0j (z6j HB.out)
    clear BK249
    clear BK250
    clear BK251
    clear HB
    have BK249 := n0_
    have BK250 := n1_
    have BK251 := n2_
    have HB := n3_
    clear n0_ n1_ n2_ n3_
    refine start_ (n := 19) (S := fun w' => w'.cell? ⟨gb249, 0, none⟩ = some (.int .i64 a0_0) ∧ w'.cell? ⟨gb249, 1, none⟩ = some (.int .i64 a0_1) ∧ w'.cell? ⟨gb250, 0, none⟩ = some (.int .i64 a1)) (ds := []) (bsj_ 19 0) (by kernel_rfl) rfl rfl ⟨(x3j BK249.out 0).trans rfl, (x3j BK249.out 1).trans rfl, (x3j BK250.out 0).trans rfl⟩ (fun hHeld => ?_); refine with_tabW impl_SpotPlate.tab1 impl_SpotPlate.bits1 (fun HT_ HW_ => ?_)
    generalize w8.drew = w12 at BK249 BK250 BK251 HB hHeld ⊢
    refine take_ (i := 0) (N := some 11) (v := ?_) (a' := ?_) (bsj_ 19 1) rfl rfl (take_ofW HT_.out HW_.out (by kernel_rfl)) (fun _ _ _ h => h) (Or.inl ⟨by rfl, ?_⟩) hHeld ?_ ?_
    rotate_left
    ·rintro w' ⟨s0, s1, s2⟩
     go_simp
     with_reducible rfl
    rotate_left
    ·simp only [Act.put, s1j_, s2j_, s3j_, i64_w, i32_w]
     rfl
    refine one_ (i := 1) (N := some 12) (bsj_ 19 3) rfl rfl (one_of HT_.out (by kernel_rfl)) (by decide) (fun K hK => ?_)
    refine goes_ Try.func38 (by kernel_rfl) rfl #[.agg #[.int .i64 a0_0, .int .i64 a0_1]] (by rfl) rfl rfl (by (try simp only [List.map_toArray, List.map_cons, List.map_nil]); first | done | rfl | (simp only [List.length_drop, List.length_take]; rfl)) ?_
    with_reducible refine (impl_IsLattice.calls a0_0 a0_1 true _ A9.out).mono ?_
    rintro e w13 ⟨rfl, hb⟩
    refine ⟨_, rfl, ?_⟩
    have n0_ := z0j (y5j (g := gb249) (o := .cells #[.int .i64 a0_0, .int .i64 a0_1] 24 (0, 0)) (by (with_reducible repeat (first | refine z1j ?_ _ | refine z3j ?_ | refine z2j ?_ _)); exact BK249.out) hb)
    have n1_ := z0j (y5j (g := gb250) (o := .cells #[.int .i64 a1] 3 (0, 0)) (by (with_reducible repeat (first | refine z1j ?_ _ | refine z3j ?_ | refine z2j ?_ _)); exact BK250.out) hb)
    have n2_ := z0j (y5j (g := gb251) (o := .cells #[.int .i64 0, .int .i64 0, .slice none 0 0] 30 (0, 0)) (by (with_reducible repeat (first | refine z1j ?_ _ | refine z3j ?_ | refine z2j ?_ _)); exact BK251.out) hb)
    have n3_ := z0j (y6j (by repeat (first | (with_reducible first | exact HB.out | apply z4j | apply z5j | apply z6j | refine z7j ?_ GE249.out | refine z7j ?_ GE250.out | refine z7j ?_ GE251.out) | exact HB.out)) hb)
    clear BK249
    clear BK250
    clear BK251
    clear HB
    have BK249 := n0_
    have BK250 := n1_
    have BK251 := n2_
    have HB := n3_
    clear n0_ n1_ n2_ n3_
    (try clear hb)
    (try clear hb2)
    (try clear hk)
    (try clear hi)
    refine hK.out _ _ ⟨(x3j BK249.out 0).trans rfl, (x3j BK249.out 1).trans rfl, (x3j BK250.out 0).trans rfl⟩ (fun hHeld => ?_)
    clear hK K
    refine norm_ (a' := ?_) ?_ ?_
    rotate_left
    ·show Act.put _ (some 12) _ = _
     simp only [Act.put, s1j_, s2j_, s3j_, i64_w, i32_w]
     rfl
    refine pure_ (i := 2) (N := some 13) (v := ?_) (a' := ?_) (bsj_ 19 7) rfl rfl (any_of HT_.out (by kernel_rfl)) (fun _ _ _ h => h) (Or.inl ⟨by rfl, ?_⟩) ?_ ?_
    rotate_left
    ·intro w'
     go_simp
     with_reducible rfl
    rotate_left
    ·simp only [Act.put, s1j_, s2j_, s3j_, i64_w, i32_w]
     rfl
    refine pure_ (i := 3) (N := some 14) (v := ?_) (a' := ?_) (bsj_ 19 15) rfl rfl (any_of HT_.out (by kernel_rfl)) (fun _ _ _ h => h) (Or.inl ⟨by rfl, ?_⟩) ?_ ?_
    rotate_left
    ·intro w'
     go_simp
     with_reducible rfl
    rotate_left
    ·simp only [Act.put, s1j_, s2j_, s3j_, i64_w, i32_w]
     rfl
    refine take_ (i := 4) (N := some 15) (v := ?_) (a' := ?_) (bsj_ 19 31) rfl rfl (take_ofW HT_.out HW_.out (by kernel_rfl)) (fun _ _ _ h => h) (Or.inl ⟨by rfl, ?_⟩) hHeld ?_ ?_
    rotate_left
    ·rintro w' ⟨s0, s1, s2⟩
     go_simp
     with_reducible rfl
    rotate_left
    ·simp only [Act.put, s1j_, s2j_, s3j_, i64_w, i32_w]
     rfl
    refine pure_ (i := 5) (N := some 16) (v := ?_) (a' := ?_) (bsj_ 19 63) rfl rfl (any_of HT_.out (by kernel_rfl)) (fun _ _ _ h => h) (Or.inl ⟨by rfl, ?_⟩) ?_ ?_
    rotate_left
    ·intro w'
     go_simp
     with_reducible rfl
    rotate_left
    ·simp only [Act.put, s1j_, s2j_, s3j_, i64_w, i32_w]
     rfl
    refine pure_ (i := 6) (N := some 17) (v := ?_) (a' := ?_) (bsj_ 19 127) rfl rfl (any_of HT_.out (by kernel_rfl)) (fun _ _ _ h => h) (Or.inl ⟨by rfl, ?_⟩) ?_ ?_
    rotate_left
    ·intro w'
     go_simp
     with_reducible rfl
    rotate_left
    ·simp only [Act.put, s1j_, s2j_, s3j_, i64_w, i32_w]
     rfl
    refine pure_ (i := 7) (N := some 18) (v := ?_) (a' := ?_) (bsj_ 19 255) rfl rfl (any_of HT_.out (by kernel_rfl)) (fun _ _ _ h => h) (Or.inl ⟨by rfl, ?_⟩) ?_ ?_
    rotate_left
    ·intro w'
     go_simp
     with_reducible rfl
    rotate_left
    ·simp only [Act.put, s1j_, s2j_, s3j_, i64_w, i32_w]
     rfl
    refine pure_ (i := 8) (N := some 19) (v := undef) (a' := ?_) (bsj_ 19 511) rfl rfl (any_of HT_.out (by kernel_rfl)) (fun _ _ _ h => h) (Or.inr ⟨by rfl, rfl⟩) ?_ ?_
    rotate_left
    ·simp only [Act.put, s1j_, s2j_, s3j_, i64_w, i32_w]
     rfl
    refine pure_ (i := 9) (N := some 20) (v := undef) (a' := ?_) (bsj_ 19 1023) rfl rfl (any_of HT_.out (by kernel_rfl)) (fun _ _ _ h => h) (Or.inr ⟨by rfl, rfl⟩) ?_ ?_
    rotate_left
    ·simp only [Act.put, s1j_, s2j_, s3j_, i64_w, i32_w]
     rfl
    refine pure_ (i := 10) (N := some 21) (v := undef) (a' := ?_) (bsj_ 19 2047) rfl rfl (any_of HT_.out (by kernel_rfl)) (fun _ _ _ h => h) (Or.inr ⟨by rfl, rfl⟩) ?_ ?_
    rotate_left
    ·simp only [Act.put, s1j_, s2j_, s3j_, i64_w, i32_w]
     rfl
    refine pure_ (i := 11) (N := some 22) (v := undef) (a' := ?_) (bsj_ 19 4095) rfl rfl (any_of HT_.out (by kernel_rfl)) (fun _ _ _ h => h) (Or.inr ⟨by rfl, rfl⟩) ?_ ?_
    rotate_left
    ·simp only [Act.put, s1j_, s2j_, s3j_, i64_w, i32_w]
     rfl
    refine pure_ (i := 12) (N := some 23) (v := ?_) (a' := ?_) (bsj_ 19 8191) rfl rfl (any_of HT_.out (by kernel_rfl)) (fun _ _ _ h => h) (Or.inl ⟨by rfl, ?_⟩) ?_ ?_
    rotate_left
    ·intro w'
     go_simp
     with_reducible rfl
    rotate_left
    ·simp only [Act.put, s1j_, s2j_, s3j_, i64_w, i32_w]
     rfl
    refine pure_ (i := 13) (N := some 24) (v := ?_) (a' := ?_) (bsj_ 19 16383) rfl rfl (any_of HT_.out (by kernel_rfl)) (fun _ _ _ h => h) (Or.inl ⟨by rfl, ?_⟩) ?_ ?_
    rotate_left
    ·intro w'
     go_simp
     with_reducible rfl
    rotate_left
    ·simp only [Act.put, s1j_, s2j_, s3j_, i64_w, i32_w]
     rfl
    refine pure_ (i := 14) (N := some 25) (v := undef) (a' := ?_) (bsj_ 19 32767) rfl rfl (any_of HT_.out (by kernel_rfl)) (fun _ _ _ h => h) (Or.inr ⟨by rfl, rfl⟩) ?_ ?_
    rotate_left
    ·simp only [Act.put, s1j_, s2j_, s3j_, i64_w, i32_w]
     rfl
    refine pure_ (i := 15) (N := some 26) (v := undef) (a' := ?_) (bsj_ 19 65535) rfl rfl (any_of HT_.out (by kernel_rfl)) (fun _ _ _ h => h) (Or.inr ⟨by rfl, rfl⟩) ?_ ?_
    rotate_left
    ·simp only [Act.put, s1j_, s2j_, s3j_, i64_w, i32_w]
     rfl
    refine pure_ (i := 16) (N := some 27) (v := undef) (a' := ?_) (bsj_ 19 131071) rfl rfl (any_of HT_.out (by kernel_rfl)) (fun _ _ _ h => h) (Or.inr ⟨by rfl, rfl⟩) ?_ ?_
    rotate_left
    ·simp only [Act.put, s1j_, s2j_, s3j_, i64_w, i32_w]
     rfl
    refine pure_ (i := 17) (N := some 28) (v := undef) (a' := ?_) (bsj_ 19 262143) rfl rfl (any_of HT_.out (by kernel_rfl)) (fun _ _ _ h => h) (Or.inr ⟨by rfl, rfl⟩) ?_ ?_
    rotate_left
    ·simp only [Act.put, s1j_, s2j_, s3j_, i64_w, i32_w]
     rfl
    refine pure_ (i := 18) (N := some 29) (v := ?_) (a' := ?_) (bsj_ 19 524287) rfl rfl (any_of HT_.out (by kernel_rfl)) (fun _ _ _ h => h) (Or.inl ⟨by rfl, ?_⟩) ?_ ?_
    rotate_left
    ·intro w'
     go_simp
     with_reducible rfl
    rotate_left
    ·simp only [Act.put, s1j_, s2j_, s3j_, i64_w, i32_w]
     rfl
    refine done_ (done_of HT_.out (by kernel_rfl)) ?_
    try go_wp2
    go_meet
    case rel => exact ⟨_, (true), (by first | rfl | (simp; done) | (simp [*]; done)), H', ⟨by first | omega | exact Nat.le_refl _⟩, ⟨by (with_reducible repeat (first | refine z1j ?_ _ | refine z3j ?_ | refine z2j ?_ _)); exact BK249.out⟩, ⟨by (with_reducible repeat (first | refine z1j ?_ _ | refine z3j ?_ | refine z2j ?_ _)); exact BK250.out⟩, ⟨by (with_reducible repeat (first | refine z1j ?_ _ | refine z3j ?_ | refine z2j ?_ _)); exact BK251.out⟩, ⟨by repeat (first | (with_reducible first | exact HB.out | apply z4j | apply z5j | apply z6j | refine z7j ?_ GE249.out | refine z7j ?_ GE250.out | refine z7j ?_ GE251.out) | exact HB.out)⟩⟩
   ·rw [if_neg c11] at H
    have c11b0 : decide (a1 < 0) = false := decide_eq_false c11
    clear c11
    (first | rw [c11b0] | (simp only [i64_w, i32_w]; rw [c11b0]) | skip)
    replace H := Option.bind_eq_some_iff.mp H
    obtain ⟨t253, A140, H⟩ := H
    replace H : (if a1 > t253 then (impl_SpotPlate.j0 k a2 a3 true a0_0 a0_1 a1) else ((impl_sized.f a2 a3).bind fun t254 => (impl_SpotPlate.j0 k a2 a3 (!t254) a0_0 a0_1 a1))) = some (r1, r2, r3, r4) := H
    have A14 := z0j A140
    clear A140
    by_cases c15 : a1 > t253
    ·rw [if_pos c15] at H
     have c15b0 : decide (t253 < a1) = true := decide_eq_true c15
     clear c15
     have H' := z0j H
     clear H
     try go_wp2
     have n0_ := z0j (z3j BK249.out)
     have n1_ := z0j (z3j BK250.out)
     have n2_ := z0j (z3j BK251.out)
     have n3_ := z0j (z6j HB.out)
     clear BK249
     clear BK250
     clear BK251
     clear HB
     have BK249 := n0_
     have BK250 := n1_
     have BK251 := n2_
     have HB := n3_
     clear n0_ n1_ n2_ n3_
     refine start_ (n := 19) (S := fun w' => w'.cell? ⟨gb249, 0, none⟩ = some (.int .i64 a0_0) ∧ w'.cell? ⟨gb249, 1, none⟩ = some (.int .i64 a0_1) ∧ w'.cell? ⟨gb250, 0, none⟩ = some (.int .i64 a1)) (ds := []) (bsj_ 19 0) (by kernel_rfl) rfl rfl ⟨(x3j BK249.out 0).trans rfl, (x3j BK249.out 1).trans rfl, (x3j BK250.out 0).trans rfl⟩ (fun hHeld => ?_); refine with_tabW impl_SpotPlate.tab1 impl_SpotPlate.bits1 (fun HT_ HW_ => ?_)
     generalize w8.drew = w16 at BK249 BK250 BK251 HB hHeld ⊢
     refine take_ (i := 0) (N := some 11) (v := ?_) (a' := ?_) (bsj_ 19 1) rfl rfl (take_ofW HT_.out HW_.out (by kernel_rfl)) (fun _ _ _ h => h) (Or.inl ⟨by rfl, ?_⟩) hHeld ?_ ?_
     rotate_left
     ·rintro w' ⟨s0, s1, s2⟩
      go_simp
      with_reducible rfl
     rotate_left
     ·simp only [Act.put, s1j_, s2j_, s3j_, i64_w, i32_w]
      rfl
     refine one_ (i := 1) (N := some 12) (bsj_ 19 3) rfl rfl (one_of HT_.out (by kernel_rfl)) (by decide) (fun K hK => ?_)
     refine goes_ Try.func38 (by kernel_rfl) rfl #[.agg #[.int .i64 a0_0, .int .i64 a0_1]] (by rfl) rfl rfl (by (try simp only [List.map_toArray, List.map_cons, List.map_nil]); first | done | rfl | (simp only [List.length_drop, List.length_take]; rfl)) ?_
     with_reducible refine (impl_IsLattice.calls a0_0 a0_1 true _ A9.out).mono ?_
     rintro e w17 ⟨rfl, hb⟩
     refine ⟨_, rfl, ?_⟩
     have n0_ := z0j (y5j (g := gb249) (o := .cells #[.int .i64 a0_0, .int .i64 a0_1] 24 (0, 0)) (by (with_reducible repeat (first | refine z1j ?_ _ | refine z3j ?_ | refine z2j ?_ _)); exact BK249.out) hb)
     have n1_ := z0j (y5j (g := gb250) (o := .cells #[.int .i64 a1] 3 (0, 0)) (by (with_reducible repeat (first | refine z1j ?_ _ | refine z3j ?_ | refine z2j ?_ _)); exact BK250.out) hb)
     have n2_ := z0j (y5j (g := gb251) (o := .cells #[.int .i64 0, .int .i64 0, .slice none 0 0] 30 (0, 0)) (by (with_reducible repeat (first | refine z1j ?_ _ | refine z3j ?_ | refine z2j ?_ _)); exact BK251.out) hb)
     have n3_ := z0j (y6j (by repeat (first | (with_reducible first | exact HB.out | apply z4j | apply z5j | apply z6j | refine z7j ?_ GE249.out | refine z7j ?_ GE250.out | refine z7j ?_ GE251.out) | exact HB.out)) hb)
     clear BK249
     clear BK250
     clear BK251
     clear HB
     have BK249 := n0_
     have BK250 := n1_
     have BK251 := n2_
     have HB := n3_
     clear n0_ n1_ n2_ n3_
     (try clear hb)
     (try clear hb2)
     (try clear hk)
     (try clear hi)
     refine hK.out _ _ ⟨(x3j BK249.out 0).trans rfl, (x3j BK249.out 1).trans rfl, (x3j BK250.out 0).trans rfl⟩ (fun hHeld => ?_)
     clear hK K
     refine norm_ (a' := ?_) ?_ ?_
     rotate_left
     ·show Act.put _ (some 12) _ = _
      simp only [Act.put, s1j_, s2j_, s3j_, i64_w, i32_w]
      rfl
     refine pure_ (i := 2) (N := some 13) (v := ?_) (a' := ?_) (bsj_ 19 7) rfl rfl (any_of HT_.out (by kernel_rfl)) (fun _ _ _ h => h) (Or.inl ⟨by rfl, ?_⟩) ?_ ?_
     rotate_left
     ·intro w'
      go_simp
      with_reducible rfl
     rotate_left
     ·simp only [Act.put, s1j_, s2j_, s3j_, i64_w, i32_w]
      rfl
     refine pure_ (i := 3) (N := some 14) (v := ?_) (a' := ?_) (bsj_ 19 15) rfl rfl (any_of HT_.out (by kernel_rfl)) (fun _ _ _ h => h) (Or.inl ⟨by rfl, ?_⟩) ?_ ?_
     rotate_left
     ·intro w'
      go_simp
      with_reducible rfl
     rotate_left
     ·simp only [Act.put, s1j_, s2j_, s3j_, i64_w, i32_w]
      rfl
     refine take_ (i := 4) (N := some 15) (v := ?_) (a' := ?_) (bsj_ 19 31) rfl rfl (take_ofW HT_.out HW_.out (by kernel_rfl)) (fun _ _ _ h => h) (Or.inl ⟨by rfl, ?_⟩) hHeld ?_ ?_
     rotate_left
     ·rintro w' ⟨s0, s1, s2⟩
      go_simp
      with_reducible rfl
     rotate_left
     ·simp only [Act.put, s1j_, s2j_, s3j_, i64_w, i32_w]
      rfl
     refine pure_ (i := 5) (N := some 16) (v := ?_) (a' := ?_) (bsj_ 19 63) rfl rfl (any_of HT_.out (by kernel_rfl)) (fun _ _ _ h => h) (Or.inl ⟨by rfl, ?_⟩) ?_ ?_
     rotate_left
     ·intro w'
      go_simp
      with_reducible rfl
     rotate_left
     ·simp only [Act.put, s1j_, s2j_, s3j_, i64_w, i32_w]
      rfl
     refine pure_ (i := 6) (N := some 17) (v := ?_) (a' := ?_) (bsj_ 19 127) rfl rfl (any_of HT_.out (by kernel_rfl)) (fun _ _ _ h => h) (Or.inl ⟨by rfl, ?_⟩) ?_ ?_
     rotate_left
     ·intro w'
      go_simp
      with_reducible rfl
     rotate_left
     ·simp only [Act.put, s1j_, s2j_, s3j_, i64_w, i32_w]
      rfl
     refine pure_ (i := 7) (N := some 18) (v := ?_) (a' := ?_) (bsj_ 19 255) rfl rfl (any_of HT_.out (by kernel_rfl)) (fun _ _ _ h => h) (Or.inl ⟨by rfl, ?_⟩) ?_ ?_
     rotate_left
     ·intro w'
      go_simp
      with_reducible rfl
     rotate_left
     ·simp only [Act.put, s1j_, s2j_, s3j_, i64_w, i32_w]
      rfl
     refine take_ (i := 8) (N := some 19) (v := ?_) (a' := ?_) (bsj_ 19 511) rfl rfl (take_ofW HT_.out HW_.out (by kernel_rfl)) (fun _ _ _ h => h) (Or.inl ⟨by rfl, ?_⟩) hHeld ?_ ?_
     rotate_left
     ·rintro w' ⟨s0, s1, s2⟩
      go_simp
      with_reducible rfl
     rotate_left
     ·simp only [Act.put, s1j_, s2j_, s3j_, i64_w, i32_w]
      rfl
     refine take_ (i := 9) (N := some 20) (v := ?_) (a' := ?_) (bsj_ 19 1023) rfl rfl (take_ofW HT_.out HW_.out (by kernel_rfl)) (fun _ _ _ h => h) (Or.inl ⟨by rfl, ?_⟩) hHeld ?_ ?_
     rotate_left
     ·rintro w' ⟨s0, s1, s2⟩
      go_simp
      with_reducible rfl
     rotate_left
     ·simp only [Act.put, s1j_, s2j_, s3j_, i64_w, i32_w]
      rfl
     refine one_ (i := 10) (N := some 21) (bsj_ 19 2047) rfl rfl (one_of HT_.out (by kernel_rfl)) (by decide) (fun K hK => ?_)
     refine goes_ Try.func39 (by kernel_rfl) rfl #[.agg #[.int .i64 a0_0, .int .i64 a0_1]] (by rfl) rfl rfl (by (try simp only [List.map_toArray, List.map_cons, List.map_nil]); first | done | rfl | (simp only [List.length_drop, List.length_take]; rfl)) ?_
     with_reducible refine (impl_area.calls a0_0 a0_1 t253 _ A14.out).mono ?_
     rintro e w18 ⟨rfl, hb⟩
     refine ⟨_, rfl, ?_⟩
     have n0_ := z0j (y5j (g := gb249) (o := .cells #[.int .i64 a0_0, .int .i64 a0_1] 24 (0, 0)) (by (with_reducible repeat (first | refine z1j ?_ _ | refine z3j ?_ | refine z2j ?_ _)); exact BK249.out) hb)
     have n1_ := z0j (y5j (g := gb250) (o := .cells #[.int .i64 a1] 3 (0, 0)) (by (with_reducible repeat (first | refine z1j ?_ _ | refine z3j ?_ | refine z2j ?_ _)); exact BK250.out) hb)
     have n2_ := z0j (y5j (g := gb251) (o := .cells #[.int .i64 0, .int .i64 0, .slice none 0 0] 30 (0, 0)) (by (with_reducible repeat (first | refine z1j ?_ _ | refine z3j ?_ | refine z2j ?_ _)); exact BK251.out) hb)
     have n3_ := z0j (y6j (by repeat (first | (with_reducible first | exact HB.out | apply z4j | apply z5j | apply z6j | refine z7j ?_ GE249.out | refine z7j ?_ GE250.out | refine z7j ?_ GE251.out) | exact HB.out)) hb)
     clear BK249
     clear BK250
     clear BK251
     clear HB
     have BK249 := n0_
     have BK250 := n1_
     have BK251 := n2_
     have HB := n3_
     clear n0_ n1_ n2_ n3_
     (try clear hb)
     (try clear hb2)
     (try clear hk)
     (try clear hi)
     refine hK.out _ _ ⟨(x3j BK249.out 0).trans rfl, (x3j BK249.out 1).trans rfl, (x3j BK250.out 0).trans rfl⟩ (fun hHeld => ?_)
     clear hK K
     refine norm_ (a' := ?_) ?_ ?_
     rotate_left
     ·show Act.put _ (some 21) _ = _
      simp only [Act.put, s1j_, s2j_, s3j_, i64_w, i32_w]
      rfl
     refine pure_ (i := 11) (N := some 22) (v := ?_) (a' := ?_) (bsj_ 19 4095) rfl rfl (any_of HT_.out (by kernel_rfl)) (fun _ _ _ h => h) (Or.inl ⟨by rfl, ?_⟩) ?_ ?_
     rotate_left
     ·intro w'
      go_simp
      with_reducible rfl
     rotate_left
     ·simp only [Act.put, s1j_, s2j_, s3j_, i64_w, i32_w]
      rfl
     refine pure_ (i := 12) (N := some 23) (v := ?_) (a' := ?_) (bsj_ 19 8191) rfl rfl (any_of HT_.out (by kernel_rfl)) (fun _ _ _ h => h) (Or.inl ⟨by rfl, ?_⟩) ?_ ?_
     rotate_left
     ·intro w'
      go_simp
      with_reducible rfl
     rotate_left
     ·simp only [Act.put, s1j_, s2j_, s3j_, i64_w, i32_w]
      rfl
     refine pure_ (i := 13) (N := some 24) (v := ?_) (a' := ?_) (bsj_ 19 16383) rfl rfl (any_of HT_.out (by kernel_rfl)) (fun _ _ _ h => h) (Or.inl ⟨by rfl, ?_⟩) ?_ ?_
     rotate_left
     ·intro w'
      go_simp
      with_reducible rfl
     rotate_left
     ·simp only [Act.put, s1j_, s2j_, s3j_, i64_w, i32_w]
      rfl
     refine pure_ (i := 14) (N := some 25) (v := undef) (a' := ?_) (bsj_ 19 32767) rfl rfl (any_of HT_.out (by kernel_rfl)) (fun _ _ _ h => h) (Or.inr ⟨by rfl, rfl⟩) ?_ ?_
     rotate_left
     ·simp only [Act.put, s1j_, s2j_, s3j_, i64_w, i32_w]
      rfl
     refine pure_ (i := 15) (N := some 26) (v := undef) (a' := ?_) (bsj_ 19 65535) rfl rfl (any_of HT_.out (by kernel_rfl)) (fun _ _ _ h => h) (Or.inr ⟨by rfl, rfl⟩) ?_ ?_
     rotate_left
     ·simp only [Act.put, s1j_, s2j_, s3j_, i64_w, i32_w]
      rfl
     refine pure_ (i := 16) (N := some 27) (v := undef) (a' := ?_) (bsj_ 19 131071) rfl rfl (any_of HT_.out (by kernel_rfl)) (fun _ _ _ h => h) (Or.inr ⟨by rfl, rfl⟩) ?_ ?_
     rotate_left
     ·simp only [Act.put, s1j_, s2j_, s3j_, i64_w, i32_w]
      rfl
     refine pure_ (i := 17) (N := some 28) (v := undef) (a' := ?_) (bsj_ 19 262143) rfl rfl (any_of HT_.out (by kernel_rfl)) (fun _ _ _ h => h) (Or.inr ⟨by rfl, rfl⟩) ?_ ?_
     rotate_left
     ·simp only [Act.put, s1j_, s2j_, s3j_, i64_w, i32_w]
      rfl
     refine pure_ (i := 18) (N := some 29) (v := ?_) (a' := ?_) (bsj_ 19 524287) rfl rfl (any_of HT_.out (by kernel_rfl)) (fun _ _ _ h => h) (Or.inl ⟨by rfl, ?_⟩) ?_ ?_
     rotate_left
     ·intro w'
      go_simp
      with_reducible rfl
     rotate_left
     ·simp only [Act.put, s1j_, s2j_, s3j_, i64_w, i32_w]
      rfl
     refine done_ (done_of HT_.out (by kernel_rfl)) ?_
     try go_wp2
     go_meet
     case rel => exact ⟨_, (true), (by first | rfl | (simp; done) | (simp [*]; done)), H', ⟨by first | omega | exact Nat.le_refl _⟩, ⟨by (with_reducible repeat (first | refine z1j ?_ _ | refine z3j ?_ | refine z2j ?_ _)); exact BK249.out⟩, ⟨by (with_reducible repeat (first | refine z1j ?_ _ | refine z3j ?_ | refine z2j ?_ _)); exact BK250.out⟩, ⟨by (with_reducible repeat (first | refine z1j ?_ _ | refine z3j ?_ | refine z2j ?_ _)); exact BK251.out⟩, ⟨by repeat (first | (with_reducible first | exact HB.out | apply z4j | apply z5j | apply z6j | refine z7j ?_ GE249.out | refine z7j ?_ GE250.out | refine z7j ?_ GE251.out) | exact HB.out)⟩⟩
    ·rw [if_neg c15] at H
     have c15b0 : decide (t253 < a1) = false := decide_eq_false c15
     clear c15
     replace H := Option.bind_eq_some_iff.mp H
     obtain ⟨t254, A190, H⟩ := H
     replace H : (impl_SpotPlate.j0 k a2 a3 (!t254) a0_0 a0_1 a1) = some (r1, r2, r3, r4) := H
     have A19 := z0j A190
     clear A190
     have H' := z0j H
     clear H
     try go_wp2
     have n0_ := z0j (z3j BK249.out)
     have n1_ := z0j (z3j BK250.out)
     have n2_ := z0j (z3j BK251.out)
     have n3_ := z0j (z6j HB.out)
     clear BK249
     clear BK250
     clear BK251
     clear HB
     have BK249 := n0_
     have BK250 := n1_
     have BK251 := n2_
     have HB := n3_
     clear n0_ n1_ n2_ n3_
     refine start_ (n := 19) (S := fun w' => w'.cell? ⟨gb249, 0, none⟩ = some (.int .i64 a0_0) ∧ w'.cell? ⟨gb249, 1, none⟩ = some (.int .i64 a0_1) ∧ w'.cell? ⟨gb250, 0, none⟩ = some (.int .i64 a1)) (ds := []) (bsj_ 19 0) (by kernel_rfl) rfl rfl ⟨(x3j BK249.out 0).trans rfl, (x3j BK249.out 1).trans rfl, (x3j BK250.out 0).trans rfl⟩ (fun hHeld => ?_); refine with_tabW impl_SpotPlate.tab1 impl_SpotPlate.bits1 (fun HT_ HW_ => ?_)
     generalize w8.drew = w20 at BK249 BK250 BK251 HB hHeld ⊢
     refine take_ (i := 0) (N := some 11) (v := ?_) (a' := ?_) (bsj_ 19 1) rfl rfl (take_ofW HT_.out HW_.out (by kernel_rfl)) (fun _ _ _ h => h) (Or.inl ⟨by rfl, ?_⟩) hHeld ?_ ?_
     rotate_left
     ·rintro w' ⟨s0, s1, s2⟩
      go_simp
      with_reducible rfl
     rotate_left
     ·simp only [Act.put, s1j_, s2j_, s3j_, i64_w, i32_w]
      rfl
     refine one_ (i := 1) (N := some 12) (bsj_ 19 3) rfl rfl (one_of HT_.out (by kernel_rfl)) (by decide) (fun K hK => ?_)
     refine goes_ Try.func38 (by kernel_rfl) rfl #[.agg #[.int .i64 a0_0, .int .i64 a0_1]] (by rfl) rfl rfl (by (try simp only [List.map_toArray, List.map_cons, List.map_nil]); first | done | rfl | (simp only [List.length_drop, List.length_take]; rfl)) ?_
     with_reducible refine (impl_IsLattice.calls a0_0 a0_1 true _ A9.out).mono ?_
     rintro e w21 ⟨rfl, hb⟩
     refine ⟨_, rfl, ?_⟩
     have n0_ := z0j (y5j (g := gb249) (o := .cells #[.int .i64 a0_0, .int .i64 a0_1] 24 (0, 0)) (by (with_reducible repeat (first | refine z1j ?_ _ | refine z3j ?_ | refine z2j ?_ _)); exact BK249.out) hb)
     have n1_ := z0j (y5j (g := gb250) (o := .cells #[.int .i64 a1] 3 (0, 0)) (by (with_reducible repeat (first | refine z1j ?_ _ | refine z3j ?_ | refine z2j ?_ _)); exact BK250.out) hb)
     have n2_ := z0j (y5j (g := gb251) (o := .cells #[.int .i64 0, .int .i64 0, .slice none 0 0] 30 (0, 0)) (by (with_reducible repeat (first | refine z1j ?_ _ | refine z3j ?_ | refine z2j ?_ _)); exact BK251.out) hb)
     have n3_ := z0j (y6j (by repeat (first | (with_reducible first | exact HB.out | apply z4j | apply z5j | apply z6j | refine z7j ?_ GE249.out | refine z7j ?_ GE250.out | refine z7j ?_ GE251.out) | exact HB.out)) hb)
     clear BK249
     clear BK250
     clear BK251
     clear HB
     have BK249 := n0_
     have BK250 := n1_
     have BK251 := n2_
     have HB := n3_
     clear n0_ n1_ n2_ n3_
     (try clear hb)
     (try clear hb2)
     (try clear hk)
     (try clear hi)
     refine hK.out _ _ ⟨(x3j BK249.out 0).trans rfl, (x3j BK249.out 1).trans rfl, (x3j BK250.out 0).trans rfl⟩ (fun hHeld => ?_)
     clear hK K
     refine norm_ (a' := ?_) ?_ ?_
     rotate_left
     ·show Act.put _ (some 12) _ = _
      simp only [Act.put, s1j_, s2j_, s3j_, i64_w, i32_w]
      rfl
     refine pure_ (i := 2) (N := some 13) (v := ?_) (a' := ?_) (bsj_ 19 7) rfl rfl (any_of HT_.out (by kernel_rfl)) (fun _ _ _ h => h) (Or.inl ⟨by rfl, ?_⟩) ?_ ?_
     rotate_left
     ·intro w'
      go_simp
      with_reducible rfl
     rotate_left
     ·simp only [Act.put, s1j_, s2j_, s3j_, i64_w, i32_w]
      rfl
     refine pure_ (i := 3) (N := some 14) (v := ?_) (a' := ?_) (bsj_ 19 15) rfl rfl (any_of HT_.out (by kernel_rfl)) (fun _ _ _ h => h) (Or.inl ⟨by rfl, ?_⟩) ?_ ?_
     rotate_left
     ·intro w'
      go_simp
      with_reducible rfl
     rotate_left
     ·simp only [Act.put, s1j_, s2j_, s3j_, i64_w, i32_w]
      rfl
     refine take_ (i := 4) (N := some 15) (v := ?_) (a' := ?_) (bsj_ 19 31) rfl rfl (take_ofW HT_.out HW_.out (by kernel_rfl)) (fun _ _ _ h => h) (Or.inl ⟨by rfl, ?_⟩) hHeld ?_ ?_
     rotate_left
     ·rintro w' ⟨s0, s1, s2⟩
      go_simp
      with_reducible rfl
     rotate_left
     ·simp only [Act.put, s1j_, s2j_, s3j_, i64_w, i32_w]
      rfl
     refine pure_ (i := 5) (N := some 16) (v := ?_) (a' := ?_) (bsj_ 19 63) rfl rfl (any_of HT_.out (by kernel_rfl)) (fun _ _ _ h => h) (Or.inl ⟨by rfl, ?_⟩) ?_ ?_
     rotate_left
     ·intro w'
      go_simp
      with_reducible rfl
     rotate_left
     ·simp only [Act.put, s1j_, s2j_, s3j_, i64_w, i32_w]
      rfl
     refine pure_ (i := 6) (N := some 17) (v := ?_) (a' := ?_) (bsj_ 19 127) rfl rfl (any_of HT_.out (by kernel_rfl)) (fun _ _ _ h => h) (Or.inl ⟨by rfl, ?_⟩) ?_ ?_
     rotate_left
     ·intro w'
      go_simp
      with_reducible rfl
     rotate_left
     ·simp only [Act.put, s1j_, s2j_, s3j_, i64_w, i32_w]
      rfl
     refine pure_ (i := 7) (N := some 18) (v := ?_) (a' := ?_) (bsj_ 19 255) rfl rfl (any_of HT_.out (by kernel_rfl)) (fun _ _ _ h => h) (Or.inl ⟨by rfl, ?_⟩) ?_ ?_
     rotate_left
     ·intro w'
      go_simp
      with_reducible rfl
     rotate_left
     ·simp only [Act.put, s1j_, s2j_, s3j_, i64_w, i32_w]
      rfl
     refine take_ (i := 8) (N := some 19) (v := ?_) (a' := ?_) (bsj_ 19 511) rfl rfl (take_ofW HT_.out HW_.out (by kernel_rfl)) (fun _ _ _ h => h) (Or.inl ⟨by rfl, ?_⟩) hHeld ?_ ?_
     rotate_left
     ·rintro w' ⟨s0, s1, s2⟩
      go_simp
      with_reducible rfl
     rotate_left
     ·simp only [Act.put, s1j_, s2j_, s3j_, i64_w, i32_w]
      rfl
     refine take_ (i := 9) (N := some 20) (v := ?_) (a' := ?_) (bsj_ 19 1023) rfl rfl (take_ofW HT_.out HW_.out (by kernel_rfl)) (fun _ _ _ h => h) (Or.inl ⟨by rfl, ?_⟩) hHeld ?_ ?_
     rotate_left
     ·rintro w' ⟨s0, s1, s2⟩
      go_simp
      with_reducible rfl
     rotate_left
     ·simp only [Act.put, s1j_, s2j_, s3j_, i64_w, i32_w]
      rfl
     refine one_ (i := 10) (N := some 21) (bsj_ 19 2047) rfl rfl (one_of HT_.out (by kernel_rfl)) (by decide) (fun K hK => ?_)
     refine goes_ Try.func39 (by kernel_rfl) rfl #[.agg #[.int .i64 a0_0, .int .i64 a0_1]] (by rfl) rfl rfl (by (try simp only [List.map_toArray, List.map_cons, List.map_nil]); first | done | rfl | (simp only [List.length_drop, List.length_take]; rfl)) ?_
     with_reducible refine (impl_area.calls a0_0 a0_1 t253 _ A14.out).mono ?_
     rintro e w22 ⟨rfl, hb⟩
     refine ⟨_, rfl, ?_⟩
     have n0_ := z0j (y5j (g := gb249) (o := .cells #[.int .i64 a0_0, .int .i64 a0_1] 24 (0, 0)) (by (with_reducible repeat (first | refine z1j ?_ _ | refine z3j ?_ | refine z2j ?_ _)); exact BK249.out) hb)
     have n1_ := z0j (y5j (g := gb250) (o := .cells #[.int .i64 a1] 3 (0, 0)) (by (with_reducible repeat (first | refine z1j ?_ _ | refine z3j ?_ | refine z2j ?_ _)); exact BK250.out) hb)
     have n2_ := z0j (y5j (g := gb251) (o := .cells #[.int .i64 0, .int .i64 0, .slice none 0 0] 30 (0, 0)) (by (with_reducible repeat (first | refine z1j ?_ _ | refine z3j ?_ | refine z2j ?_ _)); exact BK251.out) hb)
     have n3_ := z0j (y6j (by repeat (first | (with_reducible first | exact HB.out | apply z4j | apply z5j | apply z6j | refine z7j ?_ GE249.out | refine z7j ?_ GE250.out | refine z7j ?_ GE251.out) | exact HB.out)) hb)
     clear BK249
     clear BK250
     clear BK251
     clear HB
     have BK249 := n0_
     have BK250 := n1_
     have BK251 := n2_
     have HB := n3_
     clear n0_ n1_ n2_ n3_
     (try clear hb)
     (try clear hb2)
     (try clear hk)
     (try clear hi)
     refine hK.out _ _ ⟨(x3j BK249.out 0).trans rfl, (x3j BK249.out 1).trans rfl, (x3j BK250.out 0).trans rfl⟩ (fun hHeld => ?_)
     clear hK K
     refine norm_ (a' := ?_) ?_ ?_
     rotate_left
     ·show Act.put _ (some 21) _ = _
      simp only [Act.put, s1j_, s2j_, s3j_, i64_w, i32_w]
      rfl
     refine pure_ (i := 11) (N := some 22) (v := ?_) (a' := ?_) (bsj_ 19 4095) rfl rfl (any_of HT_.out (by kernel_rfl)) (fun _ _ _ h => h) (Or.inl ⟨by rfl, ?_⟩) ?_ ?_
     rotate_left
     ·intro w'
      go_simp
      with_reducible rfl
     rotate_left
     ·simp only [Act.put, s1j_, s2j_, s3j_, i64_w, i32_w]
      rfl
     refine pure_ (i := 12) (N := some 23) (v := ?_) (a' := ?_) (bsj_ 19 8191) rfl rfl (any_of HT_.out (by kernel_rfl)) (fun _ _ _ h => h) (Or.inl ⟨by rfl, ?_⟩) ?_ ?_
     rotate_left
     ·intro w'
      go_simp
      with_reducible rfl
     rotate_left
     ·simp only [Act.put, s1j_, s2j_, s3j_, i64_w, i32_w]
      rfl
     refine pure_ (i := 13) (N := some 24) (v := ?_) (a' := ?_) (bsj_ 19 16383) rfl rfl (any_of HT_.out (by kernel_rfl)) (fun _ _ _ h => h) (Or.inl ⟨by rfl, ?_⟩) ?_ ?_
     rotate_left
     ·intro w'
      go_simp
      with_reducible rfl
     rotate_left
     ·simp only [Act.put, s1j_, s2j_, s3j_, i64_w, i32_w]
      rfl
     refine pure_ (i := 14) (N := some 25) (v := ?_) (a' := ?_) (bsj_ 19 32767) rfl rfl (any_of HT_.out (by kernel_rfl)) (fun _ _ _ h => h) (Or.inl ⟨by rfl, ?_⟩) ?_ ?_
     rotate_left
     ·intro w'
      go_simp
      with_reducible rfl
     rotate_left
     ·simp only [Act.put, s1j_, s2j_, s3j_, i64_w, i32_w]
      rfl
     refine pure_ (i := 15) (N := some 26) (v := ?_) (a' := ?_) (bsj_ 19 65535) rfl rfl (any_of HT_.out (by kernel_rfl)) (fun _ _ _ h => h) (Or.inl ⟨by rfl, ?_⟩) ?_ ?_
     rotate_left
     ·intro w'
      go_simp
      with_reducible rfl
     rotate_left
     ·simp only [Act.put, s1j_, s2j_, s3j_, i64_w, i32_w]
      rfl
     refine one_ (i := 16) (N := some 27) (bsj_ 19 131071) rfl rfl (one_of HT_.out (by kernel_rfl)) (by decide) (fun K hK => ?_)
     refine goes_ Try.func40 (by kernel_rfl) rfl #[.int .i64 a2, .int .i64 a3] (by rfl) rfl rfl (by (try simp only [List.map_toArray, List.map_cons, List.map_nil]); first | done | rfl | (simp only [List.length_drop, List.length_take]; rfl)) ?_
     with_reducible refine (impl_sized.calls a2 a3 t254 _ A19.out).mono ?_
     rintro e w' ⟨rfl, ⟨nd, rfl⟩⟩
     refine ⟨_, rfl, ?_⟩
     refine hK.out _ _ ⟨(x3j BK249.out 0).trans rfl, (x3j BK249.out 1).trans rfl, (x3j BK250.out 0).trans rfl⟩ (fun hHeld => ?_)
     clear hK K
     refine norm_ (a' := ?_) ?_ ?_
     rotate_left
     ·show Act.put _ (some 27) _ = _
      simp only [Act.put, s1j_, s2j_, s3j_, i64_w, i32_w]
      rfl
     refine pure_ (i := 17) (N := some 28) (v := ?_) (a' := ?_) (bsj_ 19 262143) rfl rfl (any_of HT_.out (by kernel_rfl)) (fun _ _ _ h => h) (Or.inl ⟨by rfl, ?_⟩) ?_ ?_
     rotate_left
     ·intro w'
      go_simp
      with_reducible rfl
     rotate_left
     ·simp only [Act.put, s1j_, s2j_, s3j_, i64_w, i32_w]
      rfl
     refine pure_ (i := 18) (N := some 29) (v := ?_) (a' := ?_) (bsj_ 19 524287) rfl rfl (any_of HT_.out (by kernel_rfl)) (fun _ _ _ h => h) (Or.inl ⟨by rfl, ?_⟩) ?_ ?_
     rotate_left
     ·intro w'
      go_simp
      with_reducible rfl
     rotate_left
     ·simp only [Act.put, s1j_, s2j_, s3j_, i64_w, i32_w]
      rfl
     refine done_ (done_of HT_.out (by kernel_rfl)) ?_
     try go_wp2
     go_meet
     case rel => exact ⟨_, (!t254), (by first | rfl | (simp; done) | (simp [*]; done)), H', ⟨by first | omega | exact Nat.le_refl _⟩, ⟨by (with_reducible repeat (first | refine z1j ?_ _ | refine z3j ?_ | refine z2j ?_ _)); exact BK249.out⟩, ⟨by (with_reducible repeat (first | refine z1j ?_ _ | refine z3j ?_ | refine z2j ?_ _)); exact BK250.out⟩, ⟨by (with_reducible repeat (first | refine z1j ?_ _ | refine z3j ?_ | refine z2j ?_ _)); exact BK251.out⟩, ⟨by repeat (first | (with_reducible first | exact HB.out | apply z4j | apply z5j | apply z6j | refine z7j ?_ GE249.out | refine z7j ?_ GE250.out | refine z7j ?_ GE251.out) | exact HB.out)⟩⟩
  ·replace c10 := Bool.eq_false_iff.mpr c10
   subst c10
   have H1 : (impl_SpotPlate.j0 k a2 a3 true a0_0 a0_1 a1) = some (r1, r2, r3, r4) := by rw [if_neg (show ¬ (false = true) by decide)] at H; first | exact H | (simp only [if_true] at H ⊢; exact H)
   clear H
   have H := H1
   clear H1
   have H' := z0j H
   clear H
   try go_wp2
   have n0_ := z0j (z3j BK249.out)
   have n1_ := z0j (z3j BK250.out)
   have n2_ := z0j (z3j BK251.out)
   have n3_ := z0j (z6j HB.out)
   clear BK249
   clear BK250
   clear BK251
   clear HB
   have BK249 := n0_
   have BK250 := n1_
   have BK251 := n2_
   have HB := n3_
   clear n0_ n1_ n2_ n3_
   refine start_ (n := 19) (S := fun w' => w'.cell? ⟨gb249, 0, none⟩ = some (.int .i64 a0_0) ∧ w'.cell? ⟨gb249, 1, none⟩ = some (.int .i64 a0_1)) (ds := []) (bsj_ 19 0) (by kernel_rfl) rfl rfl ⟨(x3j BK249.out 0).trans rfl, (x3j BK249.out 1).trans rfl⟩ (fun hHeld => ?_); refine with_tabW impl_SpotPlate.tab1 impl_SpotPlate.bits1 (fun HT_ HW_ => ?_)
   generalize w8.drew = w23 at BK249 BK250 BK251 HB hHeld ⊢
   refine take_ (i := 0) (N := some 11) (v := ?_) (a' := ?_) (bsj_ 19 1) rfl rfl (take_ofW HT_.out HW_.out (by kernel_rfl)) (fun _ _ _ h => h) (Or.inl ⟨by rfl, ?_⟩) hHeld ?_ ?_
   rotate_left
   ·rintro w' ⟨s0, s1⟩
    go_simp
    with_reducible rfl
   rotate_left
   ·simp only [Act.put, s1j_, s2j_, s3j_, i64_w, i32_w]
    rfl
   refine one_ (i := 1) (N := some 12) (bsj_ 19 3) rfl rfl (one_of HT_.out (by kernel_rfl)) (by decide) (fun K hK => ?_)
   refine goes_ Try.func38 (by kernel_rfl) rfl #[.agg #[.int .i64 a0_0, .int .i64 a0_1]] (by rfl) rfl rfl (by (try simp only [List.map_toArray, List.map_cons, List.map_nil]); first | done | rfl | (simp only [List.length_drop, List.length_take]; rfl)) ?_
   with_reducible refine (impl_IsLattice.calls a0_0 a0_1 false _ A9.out).mono ?_
   rintro e w24 ⟨rfl, hb⟩
   refine ⟨_, rfl, ?_⟩
   have n0_ := z0j (y5j (g := gb249) (o := .cells #[.int .i64 a0_0, .int .i64 a0_1] 24 (0, 0)) (by (with_reducible repeat (first | refine z1j ?_ _ | refine z3j ?_ | refine z2j ?_ _)); exact BK249.out) hb)
   have n1_ := z0j (y5j (g := gb250) (o := .cells #[.int .i64 a1] 3 (0, 0)) (by (with_reducible repeat (first | refine z1j ?_ _ | refine z3j ?_ | refine z2j ?_ _)); exact BK250.out) hb)
   have n2_ := z0j (y5j (g := gb251) (o := .cells #[.int .i64 0, .int .i64 0, .slice none 0 0] 30 (0, 0)) (by (with_reducible repeat (first | refine z1j ?_ _ | refine z3j ?_ | refine z2j ?_ _)); exact BK251.out) hb)
   have n3_ := z0j (y6j (by repeat (first | (with_reducible first | exact HB.out | apply z4j | apply z5j | apply z6j | refine z7j ?_ GE249.out | refine z7j ?_ GE250.out | refine z7j ?_ GE251.out) | exact HB.out)) hb)
   clear BK249
   clear BK250
   clear BK251
   clear HB
   have BK249 := n0_
   have BK250 := n1_
   have BK251 := n2_
   have HB := n3_
   clear n0_ n1_ n2_ n3_
   (try clear hb)
   (try clear hb2)
   (try clear hk)
   (try clear hi)
   refine hK.out _ _ ⟨(x3j BK249.out 0).trans rfl, (x3j BK249.out 1).trans rfl⟩ (fun hHeld => ?_)
   clear hK K
   refine norm_ (a' := ?_) ?_ ?_
   rotate_left
   ·show Act.put _ (some 12) _ = _
    simp only [Act.put, s1j_, s2j_, s3j_, i64_w, i32_w]
    rfl
   refine pure_ (i := 2) (N := some 13) (v := ?_) (a' := ?_) (bsj_ 19 7) rfl rfl (any_of HT_.out (by kernel_rfl)) (fun _ _ _ h => h) (Or.inl ⟨by rfl, ?_⟩) ?_ ?_
   rotate_left
   ·intro w'
    go_simp
    with_reducible rfl
   rotate_left
   ·simp only [Act.put, s1j_, s2j_, s3j_, i64_w, i32_w]
    rfl
   refine pure_ (i := 3) (N := some 14) (v := ?_) (a' := ?_) (bsj_ 19 15) rfl rfl (any_of HT_.out (by kernel_rfl)) (fun _ _ _ h => h) (Or.inl ⟨by rfl, ?_⟩) ?_ ?_
   rotate_left
   ·intro w'
    go_simp
    with_reducible rfl
   rotate_left
   ·simp only [Act.put, s1j_, s2j_, s3j_, i64_w, i32_w]
    rfl
   refine pure_ (i := 4) (N := some 15) (v := undef) (a' := ?_) (bsj_ 19 31) rfl rfl (any_of HT_.out (by kernel_rfl)) (fun _ _ _ h => h) (Or.inr ⟨by rfl, rfl⟩) ?_ ?_
   rotate_left
   ·simp only [Act.put, s1j_, s2j_, s3j_, i64_w, i32_w]
    rfl
   refine pure_ (i := 5) (N := some 16) (v := undef) (a' := ?_) (bsj_ 19 63) rfl rfl (any_of HT_.out (by kernel_rfl)) (fun _ _ _ h => h) (Or.inr ⟨by rfl, rfl⟩) ?_ ?_
   rotate_left
   ·simp only [Act.put, s1j_, s2j_, s3j_, i64_w, i32_w]
    rfl
   refine pure_ (i := 6) (N := some 17) (v := ?_) (a' := ?_) (bsj_ 19 127) rfl rfl (any_of HT_.out (by kernel_rfl)) (fun _ _ _ h => h) (Or.inl ⟨by rfl, ?_⟩) ?_ ?_
   rotate_left
   ·intro w'
    go_simp
    with_reducible rfl
   rotate_left
   ·simp only [Act.put, s1j_, s2j_, s3j_, i64_w, i32_w]
    rfl
   refine pure_ (i := 7) (N := some 18) (v := ?_) (a' := ?_) (bsj_ 19 255) rfl rfl (any_of HT_.out (by kernel_rfl)) (fun _ _ _ h => h) (Or.inl ⟨by rfl, ?_⟩) ?_ ?_
   rotate_left
   ·intro w'
    go_simp
    with_reducible rfl
   rotate_left
   ·simp only [Act.put, s1j_, s2j_, s3j_, i64_w, i32_w]
    rfl
   refine pure_ (i := 8) (N := some 19) (v := undef) (a' := ?_) (bsj_ 19 511) rfl rfl (any_of HT_.out (by kernel_rfl)) (fun _ _ _ h => h) (Or.inr ⟨by rfl, rfl⟩) ?_ ?_
   rotate_left
   ·simp only [Act.put, s1j_, s2j_, s3j_, i64_w, i32_w]
    rfl
   refine pure_ (i := 9) (N := some 20) (v := undef) (a' := ?_) (bsj_ 19 1023) rfl rfl (any_of HT_.out (by kernel_rfl)) (fun _ _ _ h => h) (Or.inr ⟨by rfl, rfl⟩) ?_ ?_
   rotate_left
   ·simp only [Act.put, s1j_, s2j_, s3j_, i64_w, i32_w]
    rfl
   refine pure_ (i := 10) (N := some 21) (v := undef) (a' := ?_) (bsj_ 19 2047) rfl rfl (any_of HT_.out (by kernel_rfl)) (fun _ _ _ h => h) (Or.inr ⟨by rfl, rfl⟩) ?_ ?_
   rotate_left
   ·simp only [Act.put, s1j_, s2j_, s3j_, i64_w, i32_w]
    rfl
   refine pure_ (i := 11) (N := some 22) (v := undef) (a' := ?_) (bsj_ 19 4095) rfl rfl (any_of HT_.out (by kernel_rfl)) (fun _ _ _ h => h) (Or.inr ⟨by rfl, rfl⟩) ?_ ?_
   rotate_left
   ·simp only [Act.put, s1j_, s2j_, s3j_, i64_w, i32_w]
    rfl
   refine pure_ (i := 12) (N := some 23) (v := ?_) (a' := ?_) (bsj_ 19 8191) rfl rfl (any_of HT_.out (by kernel_rfl)) (fun _ _ _ h => h) (Or.inl ⟨by rfl, ?_⟩) ?_ ?_
   rotate_left
   ·intro w'
    go_simp
    with_reducible rfl
   rotate_left
   ·simp only [Act.put, s1j_, s2j_, s3j_, i64_w, i32_w]
    rfl
   refine pure_ (i := 13) (N := some 24) (v := ?_) (a' := ?_) (bsj_ 19 16383) rfl rfl (any_of HT_.out (by kernel_rfl)) (fun _ _ _ h => h) (Or.inl ⟨by rfl, ?_⟩) ?_ ?_
   rotate_left
   ·intro w'
    go_simp
    with_reducible rfl
   rotate_left
   ·simp only [Act.put, s1j_, s2j_, s3j_, i64_w, i32_w]
    rfl
   refine pure_ (i := 14) (N := some 25) (v := undef) (a' := ?_) (bsj_ 19 32767) rfl rfl (any_of HT_.out (by kernel_rfl)) (fun _ _ _ h => h) (Or.inr ⟨by rfl, rfl⟩) ?_ ?_
   rotate_left
   ·simp only [Act.put, s1j_, s2j_, s3j_, i64_w, i32_w]
    rfl
   refine pure_ (i := 15) (N := some 26) (v := undef) (a' := ?_) (bsj_ 19 65535) rfl rfl (any_of HT_.out (by kernel_rfl)) (fun _ _ _ h => h) (Or.inr ⟨by rfl, rfl⟩) ?_ ?_
   rotate_left
   ·simp only [Act.put, s1j_, s2j_, s3j_, i64_w, i32_w]
    rfl
   refine pure_ (i := 16) (N := some 27) (v := undef) (a' := ?_) (bsj_ 19 131071) rfl rfl (any_of HT_.out (by kernel_rfl)) (fun _ _ _ h => h) (Or.inr ⟨by rfl, rfl⟩) ?_ ?_
   rotate_left
   ·simp only [Act.put, s1j_, s2j_, s3j_, i64_w, i32_w]
    rfl
   refine pure_ (i := 17) (N := some 28) (v := undef) (a' := ?_) (bsj_ 19 262143) rfl rfl (any_of HT_.out (by kernel_rfl)) (fun _ _ _ h => h) (Or.inr ⟨by rfl, rfl⟩) ?_ ?_
   rotate_left
   ·simp only [Act.put, s1j_, s2j_, s3j_, i64_w, i32_w]
    rfl
   refine pure_ (i := 18) (N := some 29) (v := ?_) (a' := ?_) (bsj_ 19 524287) rfl rfl (any_of HT_.out (by kernel_rfl)) (fun _ _ _ h => h) (Or.inl ⟨by rfl, ?_⟩) ?_ ?_
   rotate_left
   ·intro w'
    go_simp
    with_reducible rfl
   rotate_left
   ·simp only [Act.put, s1j_, s2j_, s3j_, i64_w, i32_w]
    rfl
   refine done_ (done_of HT_.out (by kernel_rfl)) ?_
   try go_wp2
   go_meet
   case rel => exact ⟨_, (true), (by first | rfl | (simp; done) | (simp [*]; done)), H', ⟨by first | omega | exact Nat.le_refl _⟩, ⟨by (with_reducible repeat (first | refine z1j ?_ _ | refine z3j ?_ | refine z2j ?_ _)); exact BK249.out⟩, ⟨by (with_reducible repeat (first | refine z1j ?_ _ | refine z3j ?_ | refine z2j ?_ _)); exact BK250.out⟩, ⟨by (with_reducible repeat (first | refine z1j ?_ _ | refine z3j ?_ | refine z2j ?_ _)); exact BK251.out⟩, ⟨by repeat (first | (with_reducible first | exact HB.out | apply z4j | apply z5j | apply z6j | refine z7j ?_ GE249.out | refine z7j ?_ GE250.out | refine z7j ?_ GE251.out) | exact HB.out)⟩⟩
 case rest =>
  clear HC5
  try clear c1
  try clear p2
  try clear c3
  try clear c4
  try clear c10
  try clear c15
  try clear c15b0
  obtain ⟨kq, x29_4, rfl, HA, HJ4, BK249, BK250, BK251, HB⟩ := hcut
  cases kq with
  | zero => exact absurd HA.out (by simp [impl_SpotPlate.j0])
  | succ kj4 =>
   have H := HA.out
   clear HA
   simp only [impl_SpotPlate.j0] at H
   by_cases c25 : x29_4 = true
   ·subst c25
    have H1 : (some (0, 0, ([] : List Int), false)) = some (r1, r2, r3, r4) := by rw [if_pos rfl] at H; first | exact H | (simp only [if_true] at H ⊢; exact H)
    clear H
    have H := H1
    clear H1
    simp only [Option.some.injEq, Prod.mk.injEq] at H
    obtain ⟨rfl, rfl, rfl, rfl⟩ := H
    have hnb26 := NB251_249.out
    have hnc26 := NB249_251.out
    have hnb27 := NB251_250.out
    have hnc27 := NB250_251.out
    have hcz28_0 : wc.cell? ⟨gb251, 0, none⟩ = some (.int .i64 0) := (x3j BK251.out 0).trans rfl
    have hcz28_1 : wc.cell? ⟨gb251, 1, none⟩ = some (.int .i64 0) := (x3j BK251.out 1).trans rfl
    have hcz28_2 : wc.cell? ⟨gb251, 2, none⟩ = some (.slice none 0 0) := (x3j BK251.out 2).trans rfl
    have hfz28_0 := x2j BK251.out 0
    have hfz28_1 := x2j BK251.out 1
    have hfz28_2 := x2j BK251.out 2
    go_wp2
    refine bodyPost_ret (results_ct rfl _ _ gb251 30 #[.int .i64 0, .int .i64 0, .slice none 0 0] (0, 0) _ rfl (by (with_reducible repeat (first | refine z1j ?_ _ | refine z3j ?_ | refine z2j ?_ _)); refine blk_put (cs := #[.int .i64 0, .int .i64 0, .slice none 0 0]) ?_ 2 _ rfl; (with_reducible repeat (first | refine z1j ?_ _ | refine z3j ?_ | refine z2j ?_ _)); refine blk_put (cs := #[.int .i64 0, .int .i64 0, .slice none 0 0]) ?_ 1 _ rfl; (with_reducible repeat (first | refine z1j ?_ _ | refine z3j ?_ | refine z2j ?_ _)); refine blk_put (cs := #[.int .i64 0, .int .i64 0, .slice none 0 0]) ?_ 0 _ rfl; (with_reducible repeat (first | refine z1j ?_ _ | refine z3j ?_ | refine z2j ?_ _)); exact BK251.out) Try.underlying30 rfl (by kernel_rfl)) rfl ?_
    exact ⟨_, by first | rfl | (simp [errW_none, errW_some] <;> rfl) | (simp [*, errW_none, errW_some] <;> rfl), by first | exact Kd.R_nil _ _ _ _ _ | exact Kd.N_nil _ _ _ _ _ | exact Kd.V_nil _ _ _ _ _ | exact Kd.Q_nil _ _ _ _ _ | exact Kd.S_nil _ _ _ _ _, by repeat (first | (with_reducible first | exact HB.out | apply z4j | apply z5j | apply z6j | refine z7j ?_ GE249.out | refine z7j ?_ GE250.out | refine z7j ?_ GE251.out) | exact HB.out)⟩
   ·replace c25 := Bool.eq_false_iff.mpr c25
    subst c25
    have H1 : ((impl_SpotRanks.f kj4 a0_0 a0_1).bind fun t255 => ((impl_SpotPlate_1.drawn.f kj4 a2 a3 t255 a0_0 a0_1 a1).bind fun bt259 => (some (bt259.1, bt259.2.1, bt259.2.2, true)))) = some (r1, r2, r3, r4) := by rw [if_neg (show ¬ (false = true) by decide)] at H; first | exact H | (simp only [if_true] at H ⊢; exact H)
    clear H
    have H := H1
    clear H1
    replace H := Option.bind_eq_some_iff.mp H
    obtain ⟨t255, A290, H⟩ := H
    replace H : ((impl_SpotPlate_1.drawn.f kj4 a2 a3 t255 a0_0 a0_1 a1).bind fun bt259 => (some (bt259.1, bt259.2.1, bt259.2.2, true))) = some (r1, r2, r3, r4) := H
    have A29 := z0j A290
    clear A290
    replace H := Option.bind_eq_some_iff.mp H
    obtain ⟨⟨t259, t260, t261⟩, A300, H⟩ := H
    replace H : (some (t259, t260, t261, true)) = some (r1, r2, r3, r4) := H
    have A30 := z0j A300
    clear A300
    simp only [Option.some.injEq, Prod.mk.injEq] at H
    obtain ⟨rfl, rfl, rfl, rfl⟩ := H
    have hnb31 := NB249_250.out
    have hnc31 := NB250_249.out
    have hnb32 := NB249_251.out
    have hnc32 := NB251_249.out
    have hcz33_0 : wc.cell? ⟨gb249, 0, none⟩ = some (.int .i64 a0_0) := (x3j BK249.out 0).trans rfl
    have hcz33_1 : wc.cell? ⟨gb249, 1, none⟩ = some (.int .i64 a0_1) := (x3j BK249.out 1).trans rfl
    have hfz33_0 := x2j BK249.out 0
    have hfz33_1 := x2j BK249.out 1
    go_wp2_with (first | ((with_reducible refine gate_callee (f := 21) rfl ?_); refine goesL_ (some 32) rfl rfl Try.func21 (by kernel_rfl) rfl #[.agg #[.int .i64 a0_0, .int .i64 a0_1]] rfl (by (try simp only [List.map_toArray, List.map_cons, List.map_nil]); first | done | rfl | (simp only [List.length_drop, List.length_take]; rfl)) ?_; (with_reducible refine (impl_SpotRanks.calls kj4 a0_0 a0_1 t255 _ A29.out).mono ?_); rintro e w34 ⟨v256, rfl, ho0, hb⟩; refine ⟨_, rfl, ?_⟩; have n0_ := z0j (Kd.R_lower (Kd.R_newB ho0 (g := gb250) (o := .cells #[.int .i64 a1] 3 (0, 0)) (by (with_reducible repeat (first | refine z1j ?_ _ | refine z3j ?_ | refine z2j ?_ _)); exact BK250.out)) (y7j (by repeat (first | (with_reducible first | exact HB.out | apply z4j | apply z5j | apply z6j | refine z7j ?_ GE249.out | refine z7j ?_ GE250.out | refine z7j ?_ GE251.out) | exact HB.out)))); have n1_ := z0j (y5j (g := gb249) (o := .cells #[.int .i64 a0_0, .int .i64 a0_1] 24 (0, 0)) (by (with_reducible repeat (first | refine z1j ?_ _ | refine z3j ?_ | refine z2j ?_ _)); exact BK249.out) hb); have n2_ := z0j (y5j (g := gb250) (o := .cells #[.int .i64 a1] 3 (0, 0)) (by (with_reducible repeat (first | refine z1j ?_ _ | refine z3j ?_ | refine z2j ?_ _)); exact BK250.out) hb); have n3_ := z0j (y5j (g := gb251) (o := .cells #[.int .i64 0, .int .i64 0, .slice none 0 0] 30 (0, 0)) (by (with_reducible repeat (first | refine z1j ?_ _ | refine z3j ?_ | refine z2j ?_ _)); exact BK251.out) hb); have n4_ := z0j (y6j (by repeat (first | (with_reducible first | exact HB.out | apply z4j | apply z5j | apply z6j | refine z7j ?_ GE249.out | refine z7j ?_ GE250.out | refine z7j ?_ GE251.out) | exact HB.out)) hb); clear BK249; clear BK250; clear BK251; clear HB; have HO257 := n0_; have BK249 := n1_; have BK250 := n2_; have BK251 := n3_; have HB := n4_; clear n0_ n1_ n2_ n3_ n4_; (try clear hb); (try clear ho0)) | ((with_reducible refine gate_dst (N := 10) rfl ?_); refine box_event ?hg (N := 10) ?hd (cs := #[.slice none 0 0]) (t := 28) ?hr ?_; (case hd => rfl); (case hg => rfl); (case hr => first | (go_simp; done) | (go_simp; rfl)); intro gb258 hg w35 hbox hb; have n0_ := z0j (Kd.R_below (by (with_reducible repeat (first | apply Kd.R_alloc | apply Kd.R_drewN | apply Kd.R_drew)); exact HO257.out) hb); have n1_ := z0j (y5j (g := gb249) (o := .cells #[.int .i64 a0_0, .int .i64 a0_1] 24 (0, 0)) (by (with_reducible repeat (first | refine z1j ?_ _ | refine z3j ?_ | refine z2j ?_ _)); exact BK249.out) hb); have n2_ := z0j (y5j (g := gb250) (o := .cells #[.int .i64 a1] 3 (0, 0)) (by (with_reducible repeat (first | refine z1j ?_ _ | refine z3j ?_ | refine z2j ?_ _)); exact BK250.out) hb); have n3_ := z0j (y5j (g := gb251) (o := .cells #[.int .i64 0, .int .i64 0, .slice none 0 0] 30 (0, 0)) (by (with_reducible repeat (first | refine z1j ?_ _ | refine z3j ?_ | refine z2j ?_ _)); exact BK251.out) hb); have n4_ := z0j (y6j (by repeat (first | (with_reducible first | exact HB.out | apply z4j | apply z5j | apply z6j | refine z7j ?_ GE249.out | refine z7j ?_ GE250.out | refine z7j ?_ GE251.out) | exact HB.out)) hb); have n5_ := z0j (hbox); have n6_ := z0j ((by rw [hg]; exact (y7j (by repeat (first | (with_reducible first | exact HB.out | apply z4j | apply z5j | apply z6j | refine z7j ?_ GE249.out | refine z7j ?_ GE250.out | refine z7j ?_ GE251.out) | exact HB.out))) : w.heap.size ≤ gb258)); have n7_ := z0j ((by rw [hg]; exact (y7j (by repeat (first | (with_reducible first | exact HB.out | apply z4j | apply z5j | apply z6j | refine z7j ?_ GE249.out | refine z7j ?_ GE250.out | refine z7j ?_ GE251.out) | exact HB.out))) : w.heap.size ≤ gb258)); have n8_ := z0j ((by rw [hg]; exact Nat.ne_of_lt (blk_lt (g := gb249) (o := .cells #[.int .i64 a0_0, .int .i64 a0_1] 24 (0, 0)) (by (with_reducible repeat (first | refine z1j ?_ _ | refine z3j ?_ | refine z2j ?_ _)); exact BK249.out)) : gb249 ≠ gb258)); have n9_ := z0j ((by rw [hg]; exact Nat.ne_of_gt (blk_lt (g := gb249) (o := .cells #[.int .i64 a0_0, .int .i64 a0_1] 24 (0, 0)) (by (with_reducible repeat (first | refine z1j ?_ _ | refine z3j ?_ | refine z2j ?_ _)); exact BK249.out)) : gb258 ≠ gb249)); have n10_ := z0j ((by rw [hg]; exact Nat.ne_of_lt (blk_lt (g := gb250) (o := .cells #[.int .i64 a1] 3 (0, 0)) (by (with_reducible repeat (first | refine z1j ?_ _ | refine z3j ?_ | refine z2j ?_ _)); exact BK250.out)) : gb250 ≠ gb258)); have n11_ := z0j ((by rw [hg]; exact Nat.ne_of_gt (blk_lt (g := gb250) (o := .cells #[.int .i64 a1] 3 (0, 0)) (by (with_reducible repeat (first | refine z1j ?_ _ | refine z3j ?_ | refine z2j ?_ _)); exact BK250.out)) : gb258 ≠ gb250)); have n12_ := z0j ((by rw [hg]; exact Nat.ne_of_lt (blk_lt (g := gb251) (o := .cells #[.int .i64 0, .int .i64 0, .slice none 0 0] 30 (0, 0)) (by (with_reducible repeat (first | refine z1j ?_ _ | refine z3j ?_ | refine z2j ?_ _)); exact BK251.out)) : gb251 ≠ gb258)); have n13_ := z0j ((by rw [hg]; exact Nat.ne_of_gt (blk_lt (g := gb251) (o := .cells #[.int .i64 0, .int .i64 0, .slice none 0 0] 30 (0, 0)) (by (with_reducible repeat (first | refine z1j ?_ _ | refine z3j ?_ | refine z2j ?_ _)); exact BK251.out)) : gb258 ≠ gb251)); clear HO257; clear BK249; clear BK250; clear BK251; clear HB; have HO257 := n0_; have BK249 := n1_; have BK250 := n2_; have BK251 := n3_; have HB := n4_; have BK258 := n5_; have GW258 := n6_; have GE258 := n7_; have NB249_258 := n8_; have NB258_249 := n9_; have NB250_258 := n10_; have NB258_250 := n11_; have NB251_258 := n12_; have NB258_251 := n13_; clear n0_ n1_ n2_ n3_ n4_ n5_ n6_ n7_ n8_ n9_ n10_ n11_ n12_ n13_; clear hb hbox hg; obtain ⟨Ao36, co36, eo36⟩ := Kd.R_slice HO257.out; subst eo36; have hnb37 := NB258_249.out; have hnc37 := NB249_258.out; have hnb38 := NB258_250.out; have hnc38 := NB250_258.out; have hnb39 := NB258_251.out; have hnc39 := NB251_258.out; have hcz40_0 : w35.cell? ⟨gb258, 0, none⟩ = some (.slice none 0 0) := (x3j BK258.out 0).trans rfl; have hfz40_0 := x2j BK258.out 0) | ((with_reducible refine gate_callee (f := 41) rfl ?_); refine goesL_ (some 36) rfl rfl Try.func41 (by kernel_rfl) rfl #[.int .i64 a2, .int .i64 a3, .func (.func 42) #[] #[.pointer (some ⟨gb258, 0, none⟩), .pointer (some ⟨gb249, 0, none⟩), .pointer (some ⟨gb250, 0, none⟩)]] rfl (by (try simp only [List.map_toArray, List.map_cons, List.map_nil]); first | done | rfl | (simp only [List.length_drop, List.length_take]; rfl)) ?_; (with_reducible refine (impl_SpotPlate_1.drawn.calls kj4 a2 a3 Ao36 co36 t255 a0_0 a0_1 a1 t259 t260 t261 _ ?side1 ?side2 ?side3 ?side4 ?side5 A30.out).mono ?_); (case side1 => refine (Kd.R_reads' (e := 3) (base := w.heap.size) (ok := fun k_ => (True ∧ k_ ≠ gb250)) (n := t255.length) (c := co36) ?_).2.2; exact (by (with_reducible repeat (first | apply Kd.R_alloc | apply Kd.R_drewN | apply Kd.R_drew)); exact (Kd.R_mono (Kd.R_far (p := ⟨gb258, 0, none⟩) (Kd.R_types HO257.out BK258.out (by decide)) (fun _ hk => hk.2) (.slice Ao36 t255.length co36)) (fun _ h_ => h_.1)))); (case side2 => exact (Kd.R_reads' HO257.out).2.1); (case side3 => exact by (with_reducible repeat (first | refine z1j ?_ _ | refine z3j ?_ | refine z2j ?_ _)); refine blk_put (cs := #[.slice none 0 0]) ?_ 0 _ rfl; (with_reducible repeat (first | refine z1j ?_ _ | refine z3j ?_ | refine z2j ?_ _)); exact BK258.out); (case side4 => exact by (with_reducible repeat (first | refine z1j ?_ _ | refine z3j ?_ | refine z2j ?_ _)); refine blk_far ?_ NB249_258.out _; (with_reducible repeat (first | refine z1j ?_ _ | refine z3j ?_ | refine z2j ?_ _)); exact BK249.out); (case side5 => exact by (with_reducible repeat (first | refine z1j ?_ _ | refine z3j ?_ | refine z2j ?_ _)); refine blk_far ?_ NB250_258.out _; (with_reducible repeat (first | refine z1j ?_ _ | refine z3j ?_ | refine z2j ?_ _)); exact BK250.out); rintro e w41 ⟨v262, rfl, ho0, hb⟩; refine ⟨_, rfl, ?_⟩; have n0_ := z0j (Kd.R_elder' (by (with_reducible repeat (first | apply Kd.R_alloc | apply Kd.R_drewN | apply Kd.R_drew)); exact (Kd.R_mono (Kd.R_far (p := ⟨gb258, 0, none⟩) (Kd.R_types HO257.out BK258.out (by decide)) (fun _ hk => hk.2) (.slice Ao36 t255.length co36)) (fun _ h_ => h_.1))) (Kd.R_base ho0) hb); have n1_ := z0j (Kd.R_lower (Kd.R_newB (Kd.R_new' ho0 (Kd.R_lt (by (with_reducible repeat (first | apply Kd.R_alloc | apply Kd.R_drewN | apply Kd.R_drew)); exact (Kd.R_mono (Kd.R_far (p := ⟨gb258, 0, none⟩) (Kd.R_types HO257.out BK258.out (by decide)) (fun _ hk => hk.2) (.slice Ao36 t255.length co36)) (fun _ h_ => h_.1))))) (g := gb250) (o := .cells #[.int .i64 a1] 3 (0, 0)) (by (with_reducible repeat (first | refine z1j ?_ _ | refine z3j ?_ | refine z2j ?_ _)); refine blk_far ?_ NB250_258.out _; (with_reducible repeat (first | refine z1j ?_ _ | refine z3j ?_ | refine z2j ?_ _)); exact BK250.out)) (y7j (by repeat (first | (with_reducible first | exact HB.out | apply z4j | apply z5j | apply z6j | refine z7j ?_ GE249.out | refine z7j ?_ GE250.out | refine z7j ?_ GE251.out | refine z7j ?_ GE258.out) | exact HB.out)))); have n2_ := z0j (y5j (g := gb249) (o := .cells #[.int .i64 a0_0, .int .i64 a0_1] 24 (0, 0)) (by (with_reducible repeat (first | refine z1j ?_ _ | refine z3j ?_ | refine z2j ?_ _)); refine blk_far ?_ NB249_258.out _; (with_reducible repeat (first | refine z1j ?_ _ | refine z3j ?_ | refine z2j ?_ _)); exact BK249.out) hb); have n3_ := z0j (y5j (g := gb250) (o := .cells #[.int .i64 a1] 3 (0, 0)) (by (with_reducible repeat (first | refine z1j ?_ _ | refine z3j ?_ | refine z2j ?_ _)); refine blk_far ?_ NB250_258.out _; (with_reducible repeat (first | refine z1j ?_ _ | refine z3j ?_ | refine z2j ?_ _)); exact BK250.out) hb); have n4_ := z0j (y5j (g := gb251) (o := .cells #[.int .i64 0, .int .i64 0, .slice none 0 0] 30 (0, 0)) (by (with_reducible repeat (first | refine z1j ?_ _ | refine z3j ?_ | refine z2j ?_ _)); refine blk_far ?_ NB251_258.out _; (with_reducible repeat (first | refine z1j ?_ _ | refine z3j ?_ | refine z2j ?_ _)); exact BK251.out) hb); have n5_ := z0j (y5j (g := gb258) (o := .cells #[.slice Ao36 t255.length co36] 28 (0, 0)) (by (with_reducible repeat (first | refine z1j ?_ _ | refine z3j ?_ | refine z2j ?_ _)); refine blk_put (cs := #[.slice none 0 0]) ?_ 0 _ rfl; (with_reducible repeat (first | refine z1j ?_ _ | refine z3j ?_ | refine z2j ?_ _)); exact BK258.out) hb); have n6_ := z0j (y6j (by repeat (first | (with_reducible first | exact HB.out | apply z4j | apply z5j | apply z6j | refine z7j ?_ GE249.out | refine z7j ?_ GE250.out | refine z7j ?_ GE251.out | refine z7j ?_ GE258.out) | exact HB.out)) hb); clear HO257; clear BK249; clear BK250; clear BK251; clear BK258; clear HB; have HO257 := n0_; have HO263 := n1_; have BK249 := n2_; have BK250 := n3_; have BK251 := n4_; have BK258 := n5_; have HB := n6_; clear n0_ n1_ n2_ n3_ n4_ n5_ n6_; (try clear hb); (try clear ho0); have hnb42 := NB251_250.out; have hnc42 := NB250_251.out; have hcz43_0 : w41.cell? ⟨gb251, 0, none⟩ = some (.int .i64 0) := (x3j BK251.out 0).trans rfl; have hcz43_1 : w41.cell? ⟨gb251, 1, none⟩ = some (.int .i64 0) := (x3j BK251.out 1).trans rfl; have hcz43_2 : w41.cell? ⟨gb251, 2, none⟩ = some (.slice none 0 0) := (x3j BK251.out 2).trans rfl; have hfz43_0 := x2j BK251.out 0; have hfz43_1 := x2j BK251.out 1; have hfz43_2 := x2j BK251.out 2; obtain ⟨Ao44, co44, eo44⟩ := Kd.R_slice HO263.out; subst eo44))
    refine bodyPost_ret (results_ct rfl _ _ gb251 30 #[.int .i64 t259, .int .i64 t260, .slice Ao44 t261.length co44] (0, 0) _ rfl (by (with_reducible repeat (first | refine z1j ?_ _ | refine z3j ?_ | refine z2j ?_ _)); refine blk_put (cs := #[.int .i64 t259, .int .i64 t260, .slice none 0 0]) ?_ 2 _ rfl; (with_reducible repeat (first | refine z1j ?_ _ | refine z3j ?_ | refine z2j ?_ _)); refine blk_put (cs := #[.int .i64 t259, .int .i64 0, .slice none 0 0]) ?_ 1 _ rfl; (with_reducible repeat (first | refine z1j ?_ _ | refine z3j ?_ | refine z2j ?_ _)); refine blk_put (cs := #[.int .i64 0, .int .i64 0, .slice none 0 0]) ?_ 0 _ rfl; (with_reducible repeat (first | refine z1j ?_ _ | refine z3j ?_ | refine z2j ?_ _)); exact BK251.out) Try.underlying30 rfl (by kernel_rfl)) rfl ?_
    exact ⟨_, by first | rfl | (simp [errW_none, errW_some] <;> rfl) | (simp [*, errW_none, errW_some] <;> rfl), by (with_reducible repeat (first | apply Kd.R_alloc | apply Kd.R_drewN | apply Kd.R_drew)); exact Kd.R_mono (Kd.R_far (p := ⟨gb251, 2, none⟩) (Kd.R_far (p := ⟨gb251, 1, none⟩) (Kd.R_far (p := ⟨gb251, 0, none⟩) (Kd.R_types HO263.out BK251.out (by decide)) (fun _ hk => hk.2) (.int .i64 t259)) (fun _ hk => hk.2) (.int .i64 t260)) (fun _ hk => hk.2) (.slice Ao44 t261.length co44)) (fun _ hk => trivial), by repeat (first | (with_reducible first | exact HB.out | apply z4j | apply z5j | apply z6j | refine z7j ?_ GE249.out | refine z7j ?_ GE250.out | refine z7j ?_ GE251.out | refine z7j ?_ GE258.out) | exact HB.out)⟩

end Go.Proofs.Ytkkcedkiohefmaa.PFnSpotMatrix
