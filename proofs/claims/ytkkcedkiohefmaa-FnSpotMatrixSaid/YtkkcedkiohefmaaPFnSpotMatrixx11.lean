/- Machine side of laws FnSpotMatrix: written for this claim by the kit's print program under this session's wip/tools/mp_setup.py (with contracts of the session's own, wip/ext). -/
import Derived.Test.YtkkcedkiohefmaaPFnSpotMatrixx0
import Derived.Test.YtkkcedkiohefmaaPFnSpotMatrixx1
import Derived.Test.YtkkcedkiohefmaaPFnSpotMatrixx6
import Derived.Test.YtkkcedkiohefmaaPFnSpotMatrixx8
import Derived.Test.YtkkcedkiohefmaaPFnSpotMatrixx10
namespace Go.Proofs.Ytkkcedkiohefmaa.PFnSpotMatrix
open Go.RowKit Go.Proofs.YtkkcedkiohefmaaW.PrintWords Go.Proofs.YtkkcedkiohefmaaW.PrintLast Go.Proofs.YtkkcedkiohefmaaW.PrintMore
attribute [local go_sem] max2_int min2_int max_two min_two max_three min_three max_four min_four   -- for this text's walks alone
set_option linter.unusedVariables false
set_option linter.unusedSimpArgs false
-- squeezed: words under short names
set_option linter.defProp false in
def z0l := @Aside0.mk
set_option linter.defProp false in
def z1l := @blk_drewN
set_option linter.defProp false in
def z2l := @blk_alloc
set_option linter.defProp false in
def z3l := @blk_drew
set_option linter.defProp false in
def z4l := @below_alloc
set_option linter.defProp false in
def z5l := @pw_below_drewN
set_option linter.defProp false in
def z6l := @below_drew1
set_option linter.defProp false in
def z7l := @below_set
set_option linter.defProp false in
def z8l := @Kd.R_alloc
set_option linter.defProp false in
def z9l := @Kd.R_drewN
set_option linter.defProp false in
def y1l := @Kd.R_drew
set_option linter.defProp false in
def y5l := @blk_below
set_option linter.defProp false in
def y6l := @below_step
set_option linter.defProp false in
def y7l := @below_size
set_option linter.defProp false in
def x1l := @Kd.R_far
set_option linter.defProp false in
def x2l := @blk_frozen
set_option linter.defProp false in
def x3l := @blk_cell
set_option linter.defProp false in
def x4l := @Kd.R_below
set_option linter.defProp false in
def x6l := @Kd.R_mono
set_option linter.defProp false in
def x7l := @Kd.R_types
set_option linter.defProp false in
def x8l := @blk_far
set_option linter.defProp false in
def x9l := @Kd.R_ne
def bsl_ (n m : Nat) : Array Bool := ((List.range n).map fun i => m.testBit i).toArray
theorem s1l_ {α : Type} (l : List α) (i : Nat) (a : α) : l.toArray.setIfInBounds i a = (l.set i a).toArray := List.setIfInBounds_toArray l i a
theorem s2l_ {α : Type} (a b : α) (l : List α) : (a :: l).set 0 b = b :: l := rfl
theorem s3l_ {α : Type} (a b : α) (n : Nat) (l : List α) : (a :: l).set (n + 1) b = a :: l.set n b := rfl

mutual
def impl_SpotMatrix.j0 : Nat → Int → Bool → Int → Int → Option (Int × Int × List Int × Bool)
 | 0, _, _, _, _ => none
 | k + 1, x4, x22, x270000, x270001 => if x22 = true then (some (0, 0, ([] : List Int), false)) else ((impl_SpotRanks.f k x270000 x270001).bind fun t274 => (impl_SpotMatrix.l0 k x4 t274 (([] : List Int)) (wrap64 (x4 * x4)) 0 x270000 x270001 (([] : List Int))))
def impl_SpotMatrix.l0 : Nat → Int → List Int → List Int → Int → Int → Int → Int → List Int → Option (Int × Int × List Int × Bool)
 | 0, _, _, _, _, _, _, _, _ => none
 | k + 1, x4, x5, x6, x30, x31, x270000, x270001, x284000 => if x31 < x30 then (if x6.length < 17592186044416 then (if x4 = 0 then (none) else ((impl_name.f k x270000 x270001 (Int.tmod x31 x4) (wrap64 (Int.tdiv x31 x4))).bind fun t287 => (if 0 ≤ t287 then (if t287 < (x5.length : Int) then (if x284000.length < 17592186044416 then (impl_SpotMatrix.l0 k x4 x5 (x6 ++ [x31]) x30 (wrap64 (x31 + 1)) x270000 x270001 (x284000 ++ [rd x5 t287])) else (none)) else (none)) else (none)))) else (none)) else ((impl_SpotMatrix_1.sort.f k x6 x284000).bind fun t292 => (if 0 ≤ (x6.length : Int) then (if ((x6.length : Int) : Int).toNat ≤ 35184372088832 then (impl_SpotMatrix.l1 k t292 (x6.length : Int) 0 x4 x4 (List.replicate ((x6.length : Int) : Int).toNat 0)) else (none)) else (none)))
def impl_SpotMatrix.l1 : Nat → List Int → Int → Int → Int → Int → List Int → Option (Int × Int × List Int × Bool)
 | 0, _, _, _, _, _, _ => none
 | k + 1, x62, x63, x64, x297000, x297001, x297002 => if x64 < x63 then (if 0 ≤ x64 then (if x64 < (x62.length : Int) then (if 0 ≤ (rd x62 x64) then (if (rd x62 x64) < (x297002.length : Int) then (impl_SpotMatrix.l1 k x62 x63 (wrap64 (x64 + 1)) x297000 x297001 (x297002.set ((rd x62 x64) : Int).toNat x64)) else (none)) else (none)) else (none)) else (none)) else (some (x297000, x297001, x297002, true))
end
def impl_SpotMatrix.f (k : Nat) (a0_0 : Int) (a0_1 : Int) : Option (Int × Int × List Int × Bool) := (impl_PeriodOf.f k a0_0 a0_1).bind fun t271 => ((impl_IsLattice.f a0_0 a0_1).bind fun t272 => (if t272 = true then ((impl_celled.f t271 t271).bind fun t273 => (impl_SpotMatrix.j0 k t271 (!t273) a0_0 a0_1)) else (impl_SpotMatrix.j0 k t271 true a0_0 a0_1)))
def impl_SpotMatrix.T9 : Bool × List (List Nat × List Nat) := (true, [([], []), ([], []), ([1], [1]), ([0, 2], [0, 2]), ([], []), ([], []), ([], []), ([], []), ([], []), ([7, 8], [7, 8]), ([], []), ([], []), ([10, 11], [10, 11]), ([6, 9, 12, 3], [6, 9, 12]), ([5, 13], [5, 13]), ([14], [14]), ([15], [15]), ([4, 16, 13], [4, 16]), ([3, 17, 0, 1, 2, 3], [0, 3]), ([17, 18, 0, 1, 2, 3, 4, 5, 6, 7, 8, 9, 10, 11, 12, 13, 14, 15, 16, 17, 18], [17])])
def impl_SpotMatrix.B9 : List Nat := [0, 0, 2, 7, 0, 0, 0, 0, 0, 384, 0, 0, 3072, 8143, 16367, 32751, 65519, 131071, 262143, 524287]
theorem impl_SpotMatrix.tab9 : rtab .any (opsOf Try.f15 9) = impl_SpotMatrix.T9 := by kernel_rfl
theorem impl_SpotMatrix.bits9 : waitsOk impl_SpotMatrix.T9.2 impl_SpotMatrix.B9 = true := by kernel_rfl
set_option maxHeartbeats 8000000 in
set_option maxRecDepth 100000 in
theorem impl_SpotMatrix.calls (k : Nat) (a0_0 : Int) (a0_1 : Int) (r1 : Int) (r2 : Int) (r3 : List Int) (r4 : Bool) (w : World) (h : impl_SpotMatrix.f k a0_0 a0_1 = some (r1, r2, r3, r4)) :
  Calls Try.prog 15 #[.agg #[.int .i64 a0_0, .int .i64 a0_1]] w fun e w' => ∃ v2_ : Value, e = .returned (.tuple #[.agg #[.int .i64 r1, .int .i64 r2, v2_], .bool r4]) ∧ Kd.R (Kd.int .i64) 3 w' w.heap.size (fun _ => True) v2_ r3 ∧ Below w.heap.size w w' := by
 have hu24 := Try.underlying24
 have hu37 := Try.underlying37
 have HB := z0l (Below.refl w.heap.size w)
 have H : ((impl_PeriodOf.f k a0_0 a0_1).bind fun t271 => ((impl_IsLattice.f a0_0 a0_1).bind fun t272 => (if t272 = true then ((impl_celled.f t271 t271).bind fun t273 => (impl_SpotMatrix.j0 k t271 (!t273) a0_0 a0_1)) else (impl_SpotMatrix.j0 k t271 true a0_0 a0_1)))) = some (r1, r2, r3, r4) := h
 clear h
 replace H := Option.bind_eq_some_iff.mp H
 obtain ⟨t271, A20, H⟩ := H
 replace H : ((impl_IsLattice.f a0_0 a0_1).bind fun t272 => (if t272 = true then ((impl_celled.f t271 t271).bind fun t273 => (impl_SpotMatrix.j0 k t271 (!t273) a0_0 a0_1)) else (impl_SpotMatrix.j0 k t271 true a0_0 a0_1))) = some (r1, r2, r3, r4) := H
 have A2 := z0l A20
 clear A20
 have HC3 := z0l H
 clear H
 go_enter Try.func15, Try.ntmps15
 go_upto_region 2 with (first | ((with_reducible refine gate_dst (N := 1) rfl ?_); refine box_event ?hg (N := 1) ?hd (cs := #[.int .i64 a0_0, .int .i64 a0_1]) (t := 24) ?hr ?_; (case hd => rfl); (case hg => rfl); (case hr => first | (go_simp; done) | (go_simp; rfl)); intro gb269 hg w4 hbox hb; have n0_ := z0l (y6l (by repeat (first | (with_reducible first | exact HB.out | apply z4l | apply z5l | apply z6l) | exact HB.out)) hb); have n1_ := z0l (hbox); have n2_ := z0l ((by rw [hg]; exact (y7l (by repeat (first | (with_reducible first | exact HB.out | apply z4l | apply z5l | apply z6l) | exact HB.out))) : w.heap.size ≤ gb269)); have n3_ := z0l ((by rw [hg]; exact (y7l (by repeat (first | (with_reducible first | exact HB.out | apply z4l | apply z5l | apply z6l) | exact HB.out))) : w.heap.size ≤ gb269)); clear HB; have HB := n0_; have BK269 := n1_; have GW269 := n2_; have GE269 := n3_; clear n0_ n1_ n2_ n3_; clear hb hbox hg) | ((with_reducible refine gate_dst (N := 2) rfl ?_); refine box_event ?hg (N := 2) ?hd (cs := #[.int .i64 0, .int .i64 0, .slice none 0 0]) (t := 37) ?hr ?_; (case hd => rfl); (case hg => rfl); (case hr => first | (go_simp; done) | (go_simp; rfl)); intro gb270 hg w5 hbox hb; have n0_ := z0l (y5l (g := gb269) (o := .cells #[.int .i64 a0_0, .int .i64 a0_1] 24 (0, 0)) (by (with_reducible repeat (first | refine z1l ?_ _ | refine z3l ?_ | refine z2l ?_ _)); exact BK269.out) hb); have n1_ := z0l (y6l (by repeat (first | (with_reducible first | exact HB.out | apply z4l | apply z5l | apply z6l | refine z7l ?_ GE269.out) | exact HB.out)) hb); have n2_ := z0l (hbox); have n3_ := z0l ((by rw [hg]; exact (y7l (by repeat (first | (with_reducible first | exact HB.out | apply z4l | apply z5l | apply z6l | refine z7l ?_ GE269.out) | exact HB.out))) : w.heap.size ≤ gb270)); have n4_ := z0l ((by rw [hg]; exact (y7l (by repeat (first | (with_reducible first | exact HB.out | apply z4l | apply z5l | apply z6l | refine z7l ?_ GE269.out) | exact HB.out))) : w.heap.size ≤ gb270)); have n5_ := z0l ((by rw [hg]; exact Nat.ne_of_lt (blk_lt (g := gb269) (o := .cells #[.int .i64 a0_0, .int .i64 a0_1] 24 (0, 0)) (by (with_reducible repeat (first | refine z1l ?_ _ | refine z3l ?_ | refine z2l ?_ _)); exact BK269.out)) : gb269 ≠ gb270)); have n6_ := z0l ((by rw [hg]; exact Nat.ne_of_gt (blk_lt (g := gb269) (o := .cells #[.int .i64 a0_0, .int .i64 a0_1] 24 (0, 0)) (by (with_reducible repeat (first | refine z1l ?_ _ | refine z3l ?_ | refine z2l ?_ _)); exact BK269.out)) : gb270 ≠ gb269)); clear BK269; clear HB; have BK269 := n0_; have HB := n1_; have BK270 := n2_; have GW270 := n3_; have GE270 := n4_; have NB269_270 := n5_; have NB270_269 := n6_; clear n0_ n1_ n2_ n3_ n4_ n5_ n6_; clear hb hbox hg; have hnb6 := NB269_270.out; have hnc6 := NB270_269.out; have hcz7_0 : w5.cell? ⟨gb269, 0, none⟩ = some (.int .i64 a0_0) := (x3l BK269.out 0).trans rfl; have hcz7_1 : w5.cell? ⟨gb269, 1, none⟩ = some (.int .i64 a0_1) := (x3l BK269.out 1).trans rfl; have hfz7_0 := x2l BK269.out 0; have hfz7_1 := x2l BK269.out 1) | ((with_reducible refine gate_callee (f := 47) rfl ?_); refine goesL_ (some 13) rfl rfl Try.func47 (by kernel_rfl) rfl #[.agg #[.int .i64 a0_0, .int .i64 a0_1]] rfl (by (try simp only [List.map_toArray, List.map_cons, List.map_nil]); first | done | rfl | (simp only [List.length_drop, List.length_take]; rfl)) ?_; (with_reducible refine (impl_PeriodOf.calls k a0_0 a0_1 t271 _ A2.out).mono ?_); rintro e w8 ⟨rfl, hb⟩; refine ⟨_, rfl, ?_⟩; have n0_ := z0l (y5l (g := gb269) (o := .cells #[.int .i64 a0_0, .int .i64 a0_1] 24 (0, 0)) (by (with_reducible repeat (first | refine z1l ?_ _ | refine z3l ?_ | refine z2l ?_ _)); exact BK269.out) hb); have n1_ := z0l (y5l (g := gb270) (o := .cells #[.int .i64 0, .int .i64 0, .slice none 0 0] 37 (0, 0)) (by (with_reducible repeat (first | refine z1l ?_ _ | refine z3l ?_ | refine z2l ?_ _)); exact BK270.out) hb); have n2_ := z0l (y6l (by repeat (first | (with_reducible first | exact HB.out | apply z4l | apply z5l | apply z6l | refine z7l ?_ GE269.out | refine z7l ?_ GE270.out) | exact HB.out)) hb); clear BK269; clear BK270; clear HB; have BK269 := n0_; have BK270 := n1_; have HB := n2_; clear n0_ n1_ n2_; (try clear hb)))
 (try simp only [Act.put, s1l_, s2l_, s3l_])
 go_cut [22] (fun v22 wc => ∃ (kq : Nat) (x22_2 : Bool), v22 = .bool x22_2 ∧ Aside0 (impl_SpotMatrix.j0 kq t271 x22_2 a0_0 a0_1 = some (r1, r2, r3, r4)) ∧ Aside0 (kq ≤ k) ∧ Aside0 (wc.heap[gb269]? = some (.cells #[.int .i64 a0_0, .int .i64 a0_1] 24 (0, 0))) ∧ Aside0 (wc.heap[gb270]? = some (.cells #[.int .i64 0, .int .i64 0, (.slice none 0 0)] 37 (0, 0))) ∧ Aside0 (Below w.heap.size w wc))
 case first =>
  have H := HC3.out
  clear HC3
  replace H := Option.bind_eq_some_iff.mp H
  obtain ⟨t272, A90, H⟩ := H
  replace H : (if t272 = true then ((impl_celled.f t271 t271).bind fun t273 => (impl_SpotMatrix.j0 k t271 (!t273) a0_0 a0_1)) else (impl_SpotMatrix.j0 k t271 true a0_0 a0_1)) = some (r1, r2, r3, r4) := H
  have A9 := z0l A90
  clear A90
  by_cases c10 : t272 = true
  ·subst c10
   have H1 : ((impl_celled.f t271 t271).bind fun t273 => (impl_SpotMatrix.j0 k t271 (!t273) a0_0 a0_1)) = some (r1, r2, r3, r4) := by rw [if_pos rfl] at H; first | exact H | (simp only [if_true] at H ⊢; exact H)
   clear H
   have H := H1
   clear H1
   replace H := Option.bind_eq_some_iff.mp H
   obtain ⟨t273, A110, H⟩ := H
   replace H : (impl_SpotMatrix.j0 k t271 (!t273) a0_0 a0_1) = some (r1, r2, r3, r4) := H
   have A11 := z0l A110
   clear A110
   have H' := z0l H
   clear H
   have hnb12 := NB269_270.out
   have hnc12 := NB270_269.out
   have hcz13_0 : w8.cell? ⟨gb269, 0, none⟩ = some (.int .i64 a0_0) := (x3l BK269.out 0).trans rfl
   have hcz13_1 : w8.cell? ⟨gb269, 1, none⟩ = some (.int .i64 a0_1) := (x3l BK269.out 1).trans rfl
   have hfz13_0 := x2l BK269.out 0
   have hfz13_1 := x2l BK269.out 1
   go_wp2_with (first | ((with_reducible refine gate_callee (f := 38) rfl ?_); refine goesL_ (some 15) rfl rfl Try.func38 (by kernel_rfl) rfl #[.agg #[.int .i64 a0_0, .int .i64 a0_1]] rfl (by (try simp only [List.map_toArray, List.map_cons, List.map_nil]); first | done | rfl | (simp only [List.length_drop, List.length_take]; rfl)) ?_; (with_reducible refine (impl_IsLattice.calls a0_0 a0_1 true _ A9.out).mono ?_); rintro e w14 ⟨rfl, hb⟩; refine ⟨_, rfl, ?_⟩; have n0_ := z0l (y5l (g := gb269) (o := .cells #[.int .i64 a0_0, .int .i64 a0_1] 24 (0, 0)) (by (with_reducible repeat (first | refine z1l ?_ _ | refine z3l ?_ | refine z2l ?_ _)); exact BK269.out) hb); have n1_ := z0l (y5l (g := gb270) (o := .cells #[.int .i64 0, .int .i64 0, .slice none 0 0] 37 (0, 0)) (by (with_reducible repeat (first | refine z1l ?_ _ | refine z3l ?_ | refine z2l ?_ _)); exact BK270.out) hb); have n2_ := z0l (y6l (by repeat (first | (with_reducible first | exact HB.out | apply z4l | apply z5l | apply z6l | refine z7l ?_ GE269.out | refine z7l ?_ GE270.out) | exact HB.out)) hb); clear BK269; clear BK270; clear HB; have BK269 := n0_; have BK270 := n1_; have HB := n2_; clear n0_ n1_ n2_; (try clear hb)) | (go_at_call 48; (with_reducible refine (impl_celled.calls t271 t271 t273 _ A11.out).mono ?_); rintro e w' ⟨rfl, ⟨nd, rfl⟩⟩))
   go_meet
   case rel => exact ⟨_, (!t273), (by first | rfl | (simp; done) | (simp [*]; done)), H', ⟨by first | omega | exact Nat.le_refl _⟩, ⟨by (with_reducible repeat (first | refine z1l ?_ _ | refine z3l ?_ | refine z2l ?_ _)); exact BK269.out⟩, ⟨by (with_reducible repeat (first | refine z1l ?_ _ | refine z3l ?_ | refine z2l ?_ _)); exact BK270.out⟩, ⟨by repeat (first | (with_reducible first | exact HB.out | apply z4l | apply z5l | apply z6l | refine z7l ?_ GE269.out | refine z7l ?_ GE270.out) | exact HB.out)⟩⟩
  ·replace c10 := Bool.eq_false_iff.mpr c10
   subst c10
   have H1 : (impl_SpotMatrix.j0 k t271 true a0_0 a0_1) = some (r1, r2, r3, r4) := by rw [if_neg (show ¬ (false = true) by decide)] at H; first | exact H | (simp only [if_true] at H ⊢; exact H)
   clear H
   have H := H1
   clear H1
   have H' := z0l H
   clear H
   have hnb15 := NB269_270.out
   have hnc15 := NB270_269.out
   have hcz16_0 : w8.cell? ⟨gb269, 0, none⟩ = some (.int .i64 a0_0) := (x3l BK269.out 0).trans rfl
   have hcz16_1 : w8.cell? ⟨gb269, 1, none⟩ = some (.int .i64 a0_1) := (x3l BK269.out 1).trans rfl
   have hfz16_0 := x2l BK269.out 0
   have hfz16_1 := x2l BK269.out 1
   go_wp2_with (first | ((with_reducible refine gate_callee (f := 38) rfl ?_); refine goesL_ (some 15) rfl rfl Try.func38 (by kernel_rfl) rfl #[.agg #[.int .i64 a0_0, .int .i64 a0_1]] rfl (by (try simp only [List.map_toArray, List.map_cons, List.map_nil]); first | done | rfl | (simp only [List.length_drop, List.length_take]; rfl)) ?_; (with_reducible refine (impl_IsLattice.calls a0_0 a0_1 false _ A9.out).mono ?_); rintro e w17 ⟨rfl, hb⟩; refine ⟨_, rfl, ?_⟩; have n0_ := z0l (y5l (g := gb269) (o := .cells #[.int .i64 a0_0, .int .i64 a0_1] 24 (0, 0)) (by (with_reducible repeat (first | refine z1l ?_ _ | refine z3l ?_ | refine z2l ?_ _)); exact BK269.out) hb); have n1_ := z0l (y5l (g := gb270) (o := .cells #[.int .i64 0, .int .i64 0, .slice none 0 0] 37 (0, 0)) (by (with_reducible repeat (first | refine z1l ?_ _ | refine z3l ?_ | refine z2l ?_ _)); exact BK270.out) hb); have n2_ := z0l (y6l (by repeat (first | (with_reducible first | exact HB.out | apply z4l | apply z5l | apply z6l | refine z7l ?_ GE269.out | refine z7l ?_ GE270.out) | exact HB.out)) hb); clear BK269; clear BK270; clear HB; have BK269 := n0_; have BK270 := n1_; have HB := n2_; clear n0_ n1_ n2_; (try clear hb)))
   go_meet
   case rel => exact ⟨_, (true), (by first | rfl | (simp; done) | (simp [*]; done)), H', ⟨by first | omega | exact Nat.le_refl _⟩, ⟨by (with_reducible repeat (first | refine z1l ?_ _ | refine z3l ?_ | refine z2l ?_ _)); exact BK269.out⟩, ⟨by (with_reducible repeat (first | refine z1l ?_ _ | refine z3l ?_ | refine z2l ?_ _)); exact BK270.out⟩, ⟨by repeat (first | (with_reducible first | exact HB.out | apply z4l | apply z5l | apply z6l | refine z7l ?_ GE269.out | refine z7l ?_ GE270.out) | exact HB.out)⟩⟩
 case rest =>
  clear HC3
  try clear c1
  try clear p2
  try clear c3
  try clear c4
  try clear c6
  try clear c10
  try clear c12
  try clear c15
  try clear hcz13_0
  try clear hcz13_1
  try clear hcz16_0
  try clear hcz16_1
  try clear hcz7_0
  try clear hcz7_1
  try clear hfz13_0
  try clear hfz13_1
  try clear hfz16_0
  try clear hfz16_1
  try clear hfz7_0
  try clear hfz7_1
  obtain ⟨kq, x22_2, rfl, HA, HJ2, BK269, BK270, HB⟩ := hcut
  cases kq with
  | zero => exact absurd HA.out (by simp [impl_SpotMatrix.j0])
  | succ kj2 =>
   have H := HA.out
   clear HA
   simp only [impl_SpotMatrix.j0] at H
   by_cases c18 : x22_2 = true
   ·subst c18
    have H1 : (some (0, 0, ([] : List Int), false)) = some (r1, r2, r3, r4) := by rw [if_pos rfl] at H; first | exact H | (simp only [if_true] at H ⊢; exact H)
    clear H
    have H := H1
    clear H1
    simp only [Option.some.injEq, Prod.mk.injEq] at H
    obtain ⟨rfl, rfl, rfl, rfl⟩ := H
    have hnb19 := NB270_269.out
    have hnc19 := NB269_270.out
    have hcz20_0 : wc.cell? ⟨gb270, 0, none⟩ = some (.int .i64 0) := (x3l BK270.out 0).trans rfl
    have hcz20_1 : wc.cell? ⟨gb270, 1, none⟩ = some (.int .i64 0) := (x3l BK270.out 1).trans rfl
    have hcz20_2 : wc.cell? ⟨gb270, 2, none⟩ = some (.slice none 0 0) := (x3l BK270.out 2).trans rfl
    have hfz20_0 := x2l BK270.out 0
    have hfz20_1 := x2l BK270.out 1
    have hfz20_2 := x2l BK270.out 2
    go_wp2
    refine bodyPost_ret (results_ct rfl _ _ gb270 37 #[.int .i64 0, .int .i64 0, .slice none 0 0] (0, 0) _ rfl (by (with_reducible repeat (first | refine z1l ?_ _ | refine z3l ?_ | refine z2l ?_ _)); refine blk_put (cs := #[.int .i64 0, .int .i64 0, .slice none 0 0]) ?_ 2 _ rfl; (with_reducible repeat (first | refine z1l ?_ _ | refine z3l ?_ | refine z2l ?_ _)); refine blk_put (cs := #[.int .i64 0, .int .i64 0, .slice none 0 0]) ?_ 1 _ rfl; (with_reducible repeat (first | refine z1l ?_ _ | refine z3l ?_ | refine z2l ?_ _)); refine blk_put (cs := #[.int .i64 0, .int .i64 0, .slice none 0 0]) ?_ 0 _ rfl; (with_reducible repeat (first | refine z1l ?_ _ | refine z3l ?_ | refine z2l ?_ _)); exact BK270.out) Try.underlying37 rfl (by kernel_rfl)) rfl ?_
    exact ⟨_, by first | rfl | (simp [errW_none, errW_some] <;> rfl) | (simp [*, errW_none, errW_some] <;> rfl), by first | exact Kd.R_nil _ _ _ _ _ | exact Kd.N_nil _ _ _ _ _ | exact Kd.V_nil _ _ _ _ _ | exact Kd.Q_nil _ _ _ _ _ | exact Kd.S_nil _ _ _ _ _, by repeat (first | (with_reducible first | exact HB.out | apply z4l | apply z5l | apply z6l | refine z7l ?_ GE269.out | refine z7l ?_ GE270.out) | exact HB.out)⟩
   ·replace c18 := Bool.eq_false_iff.mpr c18
    subst c18
    have H1 : ((impl_SpotRanks.f kj2 a0_0 a0_1).bind fun t274 => (impl_SpotMatrix.l0 kj2 t271 t274 (([] : List Int)) (wrap64 (t271 * t271)) 0 a0_0 a0_1 (([] : List Int)))) = some (r1, r2, r3, r4) := by rw [if_neg (show ¬ (false = true) by decide)] at H; first | exact H | (simp only [if_true] at H ⊢; exact H)
    clear H
    have H := H1
    clear H1
    replace H := Option.bind_eq_some_iff.mp H
    obtain ⟨t274, A210, H⟩ := H
    replace H : (impl_SpotMatrix.l0 kj2 t271 t274 (([] : List Int)) (wrap64 (t271 * t271)) 0 a0_0 a0_1 (([] : List Int))) = some (r1, r2, r3, r4) := H
    have A21 := z0l A210
    clear A210
    obtain ⟨y277, hy277⟩ : ∃ y_ : List Int, y_ = (([] : List Int)) := ⟨_, rfl⟩
    replace H : (impl_SpotMatrix.l0 kj2 t271 t274 y277 (wrap64 (t271 * t271)) 0 a0_0 a0_1 (([] : List Int))) = some (r1, r2, r3, r4) := by first | (rw [hy277]; with_reducible exact H) | (have H2_ := (Option.bind_some _ _).symm.trans H; rw [hy277]; with_reducible exact H2_) | (have H2_ := (Option.bind_some _ _).symm.trans H; with_reducible exact H2_) | with_reducible exact H | (rw [hy277]; exact H) | exact H
    have Ny277 := z0l hy277
    clear hy277
    obtain ⟨y280, hy280⟩ : ∃ y_ : List Int, y_ = (([] : List Int)) := ⟨_, rfl⟩
    replace H : (impl_SpotMatrix.l0 kj2 t271 t274 y277 (wrap64 (t271 * t271)) 0 a0_0 a0_1 y280) = some (r1, r2, r3, r4) := by first | (rw [hy280]; with_reducible exact H) | (have H2_ := (Option.bind_some _ _).symm.trans H; rw [hy280]; with_reducible exact H2_) | (have H2_ := (Option.bind_some _ _).symm.trans H; with_reducible exact H2_) | with_reducible exact H | (rw [hy280]; exact H) | exact H
    have Ny280 := z0l hy280
    clear hy280
    have H' := z0l H
    clear H
    have hnb22 := NB269_270.out
    have hnc22 := NB270_269.out
    have hcz23_0 : wc.cell? ⟨gb269, 0, none⟩ = some (.int .i64 a0_0) := (x3l BK269.out 0).trans rfl
    have hcz23_1 : wc.cell? ⟨gb269, 1, none⟩ = some (.int .i64 a0_1) := (x3l BK269.out 1).trans rfl
    have hfz23_0 := x2l BK269.out 0
    have hfz23_1 := x2l BK269.out 1
    go_wp2_with (first | ((with_reducible refine gate_callee (f := 21) rfl ?_); refine goesL_ (some 25) rfl rfl Try.func21 (by kernel_rfl) rfl #[.agg #[.int .i64 a0_0, .int .i64 a0_1]] rfl (by (try simp only [List.map_toArray, List.map_cons, List.map_nil]); first | done | rfl | (simp only [List.length_drop, List.length_take]; rfl)) ?_; (with_reducible refine (impl_SpotRanks.calls kj2 a0_0 a0_1 t274 _ A21.out).mono ?_); rintro e w24 ⟨v275, rfl, ho0, hb⟩; refine ⟨_, rfl, ?_⟩; have n0_ := z0l (Kd.R_lower ho0 (y7l (by repeat (first | (with_reducible first | exact HB.out | apply z4l | apply z5l | apply z6l | refine z7l ?_ GE269.out | refine z7l ?_ GE270.out) | exact HB.out)))); have n1_ := z0l (y5l (g := gb269) (o := .cells #[.int .i64 a0_0, .int .i64 a0_1] 24 (0, 0)) (by (with_reducible repeat (first | refine z1l ?_ _ | refine z3l ?_ | refine z2l ?_ _)); exact BK269.out) hb); have n2_ := z0l (y5l (g := gb270) (o := .cells #[.int .i64 0, .int .i64 0, .slice none 0 0] 37 (0, 0)) (by (with_reducible repeat (first | refine z1l ?_ _ | refine z3l ?_ | refine z2l ?_ _)); exact BK270.out) hb); have n3_ := z0l (y6l (by repeat (first | (with_reducible first | exact HB.out | apply z4l | apply z5l | apply z6l | refine z7l ?_ GE269.out | refine z7l ?_ GE270.out) | exact HB.out)) hb); clear BK269; clear BK270; clear HB; have HO276 := n0_; have BK269 := n1_; have BK270 := n2_; have HB := n3_; clear n0_ n1_ n2_ n3_; (try clear hb); (try clear ho0)) | ((with_reducible refine gate_dst (N := 26) rfl ?_); refine Kd.R_lit (Kd.int .i64) _ 3 ?hg (N := 26) ?hd (xs := ([] : List Int)) (inner := []) (ok := fun _ => True) (okp := fun _ => True) ?hr ?hp (fun _ hk => hk) trivial (Below.refl _ _) (Nat.le_refl _) (by simp) ?_; (case hd => rfl); (case hg => rfl); (case hr => first | (go_simp; done) | (go_simp; rfl)); (case hp => exact (Reps.none _ _)); intro v278 w25 ho26 hb hg_ hnew_; clear hg_ hnew_; (first | rw [← Ny277.out] at ho26 | (simp only [Int.reduceToNat] at ho26; rw [← Ny277.out] at ho26)); have n0_ := z0l (Kd.R_elder' (by (with_reducible repeat (first | apply z8l | apply z9l | apply y1l)); exact HO276.out) (Kd.R_base ho26) hb); have n1_ := z0l (Kd.R_lower (Kd.R_new' ho26 (Kd.R_lt (by (with_reducible repeat (first | apply z8l | apply z9l | apply y1l)); exact HO276.out))) (y7l (by repeat (first | (with_reducible first | exact HB.out | apply z4l | apply z5l | apply z6l | refine z7l ?_ GE269.out | refine z7l ?_ GE270.out) | exact HB.out)))); have n2_ := z0l (y5l (g := gb269) (o := .cells #[.int .i64 a0_0, .int .i64 a0_1] 24 (0, 0)) (by (with_reducible repeat (first | refine z1l ?_ _ | refine z3l ?_ | refine z2l ?_ _)); exact BK269.out) hb); have n3_ := z0l (y5l (g := gb270) (o := .cells #[.int .i64 0, .int .i64 0, .slice none 0 0] 37 (0, 0)) (by (with_reducible repeat (first | refine z1l ?_ _ | refine z3l ?_ | refine z2l ?_ _)); exact BK270.out) hb); have n4_ := z0l (y6l (by repeat (first | (with_reducible first | exact HB.out | apply z4l | apply z5l | apply z6l | refine z7l ?_ GE269.out | refine z7l ?_ GE270.out) | exact HB.out)) hb); clear HO276; clear BK269; clear BK270; clear HB; have HO276 := n0_; have HO279 := n1_; have BK269 := n2_; have BK270 := n3_; have HB := n4_; clear n0_ n1_ n2_ n3_ n4_; clear hb ho26) | ((with_reducible refine gate_dst (N := 27) rfl ?_); refine Kd.R_lit (Kd.int .i64) _ 3 ?hg (N := 27) ?hd (xs := ([] : List Int)) (inner := []) (ok := fun _ => True) (okp := fun _ => True) ?hr ?hp (fun _ hk => hk) trivial (Below.refl _ _) (Nat.le_refl _) (by simp) ?_; (case hd => rfl); (case hg => rfl); (case hr => first | (go_simp; done) | (go_simp; rfl)); (case hp => exact (Reps.none _ _)); intro v281 w27 ho28 hb hg_ hnew_; clear hg_ hnew_; (first | rw [← Ny280.out] at ho28 | (simp only [Int.reduceToNat] at ho28; rw [← Ny280.out] at ho28)); have n0_ := z0l (Kd.R_elder' (by (with_reducible repeat (first | apply z8l | apply z9l | apply y1l)); exact HO276.out) (Kd.R_base ho28) hb); have n1_ := z0l (Kd.R_elder' (by (with_reducible repeat (first | apply z8l | apply z9l | apply y1l)); exact HO279.out) (Kd.R_base ho28) hb); have n2_ := z0l (Kd.R_lower (Kd.R_new' (Kd.R_new' ho28 (Kd.R_lt (by (with_reducible repeat (first | apply z8l | apply z9l | apply y1l)); exact HO276.out))) (Kd.R_lt (by (with_reducible repeat (first | apply z8l | apply z9l | apply y1l)); exact HO279.out))) (y7l (by repeat (first | (with_reducible first | exact HB.out | apply z4l | apply z5l | apply z6l | refine z7l ?_ GE269.out | refine z7l ?_ GE270.out) | exact HB.out)))); have n3_ := z0l (y5l (g := gb269) (o := .cells #[.int .i64 a0_0, .int .i64 a0_1] 24 (0, 0)) (by (with_reducible repeat (first | refine z1l ?_ _ | refine z3l ?_ | refine z2l ?_ _)); exact BK269.out) hb); have n4_ := z0l (y5l (g := gb270) (o := .cells #[.int .i64 0, .int .i64 0, .slice none 0 0] 37 (0, 0)) (by (with_reducible repeat (first | refine z1l ?_ _ | refine z3l ?_ | refine z2l ?_ _)); exact BK270.out) hb); have n5_ := z0l (y6l (by repeat (first | (with_reducible first | exact HB.out | apply z4l | apply z5l | apply z6l | refine z7l ?_ GE269.out | refine z7l ?_ GE270.out) | exact HB.out)) hb); clear HO276; clear HO279; clear BK269; clear BK270; clear HB; have HO276 := n0_; have HO279 := n1_; have HO282 := n2_; have BK269 := n3_; have BK270 := n4_; have HB := n5_; clear n0_ n1_ n2_ n3_ n4_ n5_; clear hb ho28) | ((with_reducible refine gate_dst (N := 7) rfl ?_); refine box_event ?hg (N := 7) ?hd (cs := #[.slice none 0 0]) (t := 28) ?hr ?_; (case hd => rfl); (case hg => rfl); (case hr => first | (go_simp; done) | (go_simp; rfl)); intro gb283 hg w29 hbox hb; have n0_ := z0l (x4l (by (with_reducible repeat (first | apply z8l | apply z9l | apply y1l)); exact HO276.out) hb); have n1_ := z0l (x4l (by (with_reducible repeat (first | apply z8l | apply z9l | apply y1l)); exact HO279.out) hb); have n2_ := z0l (x4l (by (with_reducible repeat (first | apply z8l | apply z9l | apply y1l)); exact HO282.out) hb); have n3_ := z0l (y5l (g := gb269) (o := .cells #[.int .i64 a0_0, .int .i64 a0_1] 24 (0, 0)) (by (with_reducible repeat (first | refine z1l ?_ _ | refine z3l ?_ | refine z2l ?_ _)); exact BK269.out) hb); have n4_ := z0l (y5l (g := gb270) (o := .cells #[.int .i64 0, .int .i64 0, .slice none 0 0] 37 (0, 0)) (by (with_reducible repeat (first | refine z1l ?_ _ | refine z3l ?_ | refine z2l ?_ _)); exact BK270.out) hb); have n5_ := z0l (y6l (by repeat (first | (with_reducible first | exact HB.out | apply z4l | apply z5l | apply z6l | refine z7l ?_ GE269.out | refine z7l ?_ GE270.out) | exact HB.out)) hb); have n6_ := z0l (hbox); have n7_ := z0l ((by rw [hg]; exact (y7l (by repeat (first | (with_reducible first | exact HB.out | apply z4l | apply z5l | apply z6l | refine z7l ?_ GE269.out | refine z7l ?_ GE270.out) | exact HB.out))) : w.heap.size ≤ gb283)); have n8_ := z0l ((by rw [hg]; exact (y7l (by repeat (first | (with_reducible first | exact HB.out | apply z4l | apply z5l | apply z6l | refine z7l ?_ GE269.out | refine z7l ?_ GE270.out) | exact HB.out))) : w.heap.size ≤ gb283)); have n9_ := z0l ((by rw [hg]; exact Nat.ne_of_lt (blk_lt (g := gb269) (o := .cells #[.int .i64 a0_0, .int .i64 a0_1] 24 (0, 0)) (by (with_reducible repeat (first | refine z1l ?_ _ | refine z3l ?_ | refine z2l ?_ _)); exact BK269.out)) : gb269 ≠ gb283)); have n10_ := z0l ((by rw [hg]; exact Nat.ne_of_gt (blk_lt (g := gb269) (o := .cells #[.int .i64 a0_0, .int .i64 a0_1] 24 (0, 0)) (by (with_reducible repeat (first | refine z1l ?_ _ | refine z3l ?_ | refine z2l ?_ _)); exact BK269.out)) : gb283 ≠ gb269)); have n11_ := z0l ((by rw [hg]; exact Nat.ne_of_lt (blk_lt (g := gb270) (o := .cells #[.int .i64 0, .int .i64 0, .slice none 0 0] 37 (0, 0)) (by (with_reducible repeat (first | refine z1l ?_ _ | refine z3l ?_ | refine z2l ?_ _)); exact BK270.out)) : gb270 ≠ gb283)); have n12_ := z0l ((by rw [hg]; exact Nat.ne_of_gt (blk_lt (g := gb270) (o := .cells #[.int .i64 0, .int .i64 0, .slice none 0 0] 37 (0, 0)) (by (with_reducible repeat (first | refine z1l ?_ _ | refine z3l ?_ | refine z2l ?_ _)); exact BK270.out)) : gb283 ≠ gb270)); clear HO276; clear HO279; clear HO282; clear BK269; clear BK270; clear HB; have HO276 := n0_; have HO279 := n1_; have HO282 := n2_; have BK269 := n3_; have BK270 := n4_; have HB := n5_; have BK283 := n6_; have GW283 := n7_; have GE283 := n8_; have NB269_283 := n9_; have NB283_269 := n10_; have NB270_283 := n11_; have NB283_270 := n12_; clear n0_ n1_ n2_ n3_ n4_ n5_ n6_ n7_ n8_ n9_ n10_ n11_ n12_; clear hb hbox hg; obtain ⟨Ao30, co30, eo30⟩ := Kd.R_slice HO282.out; subst eo30; have hnb31 := NB283_269.out; have hnc31 := NB269_283.out; have hnb32 := NB283_270.out; have hnc32 := NB270_283.out; have hcz33_0 : w29.cell? ⟨gb283, 0, none⟩ = some (.slice none 0 0) := (x3l BK283.out 0).trans rfl; have hfz33_0 := x2l BK283.out 0))
    (try simp only [Act.put, s1l_, s2l_, s3l_])
    go_loopg [6, 31] kj2 (fun kq v6 v31 w' => ∃ (x6_2 : List Int) (x31_2 : Int) (y280 : List Int) (Ao30 : Option Addr) (co30 : Nat), v31 = .int .i64 x31_2 ∧ Aside0 (impl_SpotMatrix.l0 kq t271 t274 x6_2 (wrap64 (t271 * t271)) x31_2 a0_0 a0_1 y280 = some (r1, r2, r3, r4)) ∧ Aside0 (kq ≤ kj2) ∧ Aside0 (Kd.R (Kd.int .i64) 3 w' w.heap.size (fun k_ => some k_ ≠ (v6 : Value).ownBlock ∧ some k_ ≠ ((.slice Ao30 y280.length co30) : Value).ownBlock) v275 t274) ∧ Aside0 (Kd.R (Kd.int .i64) 3 w' w.heap.size (fun k_ => some k_ ≠ (v275 : Value).ownBlock ∧ some k_ ≠ ((.slice Ao30 y280.length co30) : Value).ownBlock) v6 x6_2) ∧ Aside0 (Kd.R (Kd.int .i64) 3 w' w.heap.size (fun k_ => some k_ ≠ (v275 : Value).ownBlock ∧ some k_ ≠ (v6 : Value).ownBlock) (.slice Ao30 y280.length co30) y280) ∧ Aside0 (w'.heap[gb269]? = some (.cells #[.int .i64 a0_0, .int .i64 a0_1] 24 (0, 0))) ∧ Aside0 (w'.heap[gb270]? = some (.cells #[.int .i64 0, .int .i64 0, (.slice none 0 0)] 37 (0, 0))) ∧ Aside0 (w'.heap[gb283]? = some (.cells #[(.slice Ao30 y280.length co30)] 28 (0, 0))) ∧ Aside0 (Below w.heap.size w w'))
    case atStart => exact ⟨(y277), (0), y280, Ao30, co30, (by first | rfl | (simp; done) | (simp [*]; done)), H', ⟨Nat.le_refl _⟩, ⟨by (with_reducible repeat (first | apply z8l | apply z9l | apply y1l)); exact x6l (x1l (p := ⟨gb283, 0, none⟩) (x7l HO276.out BK283.out (by decide)) (fun _ hk => hk.2) (.slice Ao30 y280.length co30)) (fun _ hk => ⟨hk.1.1.2, hk.1.2⟩)⟩, ⟨by (with_reducible repeat (first | apply z8l | apply z9l | apply y1l)); exact x6l (x1l (p := ⟨gb283, 0, none⟩) (x7l HO279.out BK283.out (by decide)) (fun _ hk => hk.2) (.slice Ao30 y280.length co30)) (fun _ hk => ⟨hk.1.1.2, hk.1.2⟩)⟩, ⟨by (with_reducible repeat (first | apply z8l | apply z9l | apply y1l)); exact x6l (x1l (p := ⟨gb283, 0, none⟩) (x7l HO282.out BK283.out (by decide)) (fun _ hk => hk.2) (.slice Ao30 y280.length co30)) (fun _ hk => ⟨hk.1.1.2, hk.1.2⟩)⟩, ⟨by (with_reducible repeat (first | refine z1l ?_ _ | refine z3l ?_ | refine z2l ?_ _)); refine x8l ?_ NB269_283.out _; (with_reducible repeat (first | refine z1l ?_ _ | refine z3l ?_ | refine z2l ?_ _)); exact BK269.out⟩, ⟨by (with_reducible repeat (first | refine z1l ?_ _ | refine z3l ?_ | refine z2l ?_ _)); refine x8l ?_ NB270_283.out _; (with_reducible repeat (first | refine z1l ?_ _ | refine z3l ?_ | refine z2l ?_ _)); exact BK270.out⟩, ⟨by (with_reducible repeat (first | refine z1l ?_ _ | refine z3l ?_ | refine z2l ?_ _)); refine blk_put (cs := #[.slice none 0 0]) ?_ 0 _ rfl; (with_reducible repeat (first | refine z1l ?_ _ | refine z3l ?_ | refine z2l ?_ _)); exact BK283.out⟩, ⟨by repeat (first | (with_reducible first | exact HB.out | apply z4l | apply z5l | apply z6l | refine z7l ?_ GE269.out | refine z7l ?_ GE270.out | refine z7l ?_ GE283.out) | exact HB.out)⟩⟩
    case round =>
     clear H'
     try clear c1
     try clear c2
     try clear p2
     try clear c3
     try clear c4
     try clear c6
     try clear p6
     try clear c10
     try clear c12
     try clear c15
     try clear c18
     try clear c19
     try clear c21
     try clear c22
     try clear c31
     try clear c32
     try clear hcz13_0
     try clear hcz13_1
     try clear hcz16_0
     try clear hcz16_1
     try clear hcz20_0
     try clear hcz20_1
     try clear hcz20_2
     try clear hcz23_0
     try clear hcz23_1
     try clear hcz33_0
     try clear hcz7_0
     try clear hcz7_1
     try clear hfz13_0
     try clear hfz13_1
     try clear hfz16_0
     try clear hfz16_1
     try clear hfz20_0
     try clear hfz20_1
     try clear hfz20_2
     try clear hfz23_0
     try clear hfz23_1
     try clear hfz33_0
     try clear hfz7_0
     try clear hfz7_1
     try clear p2
     obtain ⟨x6_2, x31_2, y280, Ao30, co30, rfl, HA, HK2, HO_5, HO_6, Ha_, BK269, BK270, BK283, HB⟩ := hrel
     cases gk with
     | zero => exact absurd HA.out (by simp [impl_SpotMatrix.l0])
     | succ k2 =>
      have H := HA.out
      clear HA
      simp only [impl_SpotMatrix.l0] at H
      by_cases c34 : x31_2 < (wrap64 (t271 * t271))
      ·rw [if_pos c34] at H
       have c34b0 : decide (x31_2 < (wrap64 (t271 * t271))) = true := decide_eq_true c34
       clear c34
       by_cases c35 : x6_2.length < 17592186044416
       ·rw [if_pos c35] at H
        have LMc35 := z0l c35
        clear c35
        obtain ⟨y284, hy284⟩ : ∃ y_ : List Int, y_ = (x6_2 ++ [x31_2]) := ⟨_, rfl⟩
        replace H : (if t271 = 0 then (none) else ((impl_name.f k2 a0_0 a0_1 (Int.tmod x31_2 t271) (wrap64 (Int.tdiv x31_2 t271))).bind fun t287 => (if 0 ≤ t287 then (if t287 < (t274.length : Int) then (if y280.length < 17592186044416 then (impl_SpotMatrix.l0 k2 t271 t274 y284 (wrap64 (t271 * t271)) (wrap64 (x31_2 + 1)) a0_0 a0_1 (y280 ++ [rd t274 t287])) else (none)) else (none)) else (none)))) = some (r1, r2, r3, r4) := by first | (rw [hy284]; with_reducible exact H) | (have H2_ := (Option.bind_some _ _).symm.trans H; rw [hy284]; with_reducible exact H2_) | (have H2_ := (Option.bind_some _ _).symm.trans H; with_reducible exact H2_) | with_reducible exact H | (rw [hy284]; exact H) | exact H
        have Ny284 := z0l hy284
        clear hy284
        by_cases c36 : t271 = 0
        ·rw [if_pos c36] at H
         exact absurd H (by simp)
        ·rw [if_neg c36] at H
         have c36b0 : (t271 == 0) = false := beq_eq_false_iff_ne.mpr c36
         have c36b1 : (t271 != 0) = true := bne_iff_ne.mpr c36
         replace H := Option.bind_eq_some_iff.mp H
         obtain ⟨t287, A370, H⟩ := H
         replace H : (if 0 ≤ t287 then (if t287 < (t274.length : Int) then (if y280.length < 17592186044416 then (impl_SpotMatrix.l0 k2 t271 t274 y284 (wrap64 (t271 * t271)) (wrap64 (x31_2 + 1)) a0_0 a0_1 (y280 ++ [rd t274 t287])) else (none)) else (none)) else (none)) = some (r1, r2, r3, r4) := H
         have A37 := z0l A370
         clear A370
         by_cases c38 : 0 ≤ t287
         ·rw [if_pos c38] at H
          have c38b0 : decide (0 ≤ t287) = true := decide_eq_true c38
          clear c38
          by_cases c39 : t287 < (t274.length : Int)
          ·rw [if_pos c39] at H
           have c39b0 : decide (t287 < (t274.length : Int)) = true := decide_eq_true c39
           clear c39
           by_cases c40 : y280.length < 17592186044416
           ·rw [if_pos c40] at H
            have LMc40 := z0l c40
            clear c40
            obtain ⟨y289, hy289⟩ : ∃ y_ : List Int, y_ = (y280 ++ [rd t274 t287]) := ⟨_, rfl⟩
            replace H : (impl_SpotMatrix.l0 k2 t271 t274 y284 (wrap64 (t271 * t271)) (wrap64 (x31_2 + 1)) a0_0 a0_1 y289) = some (r1, r2, r3, r4) := by first | (rw [hy289]; with_reducible exact H) | (have H2_ := (Option.bind_some _ _).symm.trans H; rw [hy289]; with_reducible exact H2_) | (have H2_ := (Option.bind_some _ _).symm.trans H; with_reducible exact H2_) | with_reducible exact H | (rw [hy289]; exact H) | exact H
            have Ny289 := z0l hy289
            clear hy289
            have H' := z0l H
            clear H
            try go_wp2
            have n0_ := z0l (y1l HO_5.out)
            have n1_ := z0l (y1l HO_6.out)
            have n2_ := z0l (y1l Ha_.out)
            have n3_ := z0l (z3l BK269.out)
            have n4_ := z0l (z3l BK270.out)
            have n5_ := z0l (z3l BK283.out)
            have n6_ := z0l (z6l HB.out)
            clear HO_5
            clear HO_6
            clear Ha_
            clear BK269
            clear BK270
            clear BK283
            clear HB
            have HO_5 := n0_
            have HO_6 := n1_
            have Ha_ := n2_
            have BK269 := n3_
            have BK270 := n4_
            have BK283 := n5_
            have HB := n6_
            clear n0_ n1_ n2_ n3_ n4_ n5_ n6_
            have p288 : 0 ≤ (t287 : Int) := of_decide_eq_true (by first | (with_reducible assumption) | assumption)
            have q288 : t287 < (t274.length : Int) := of_decide_eq_true (by first | (with_reducible assumption) | assumption)
            (try (obtain ⟨Az288_, cz288_, ez288_⟩ := Kd.R_slice HO_5.out; subst ez288_))
            obtain ⟨ad288, e288, hx288_0⟩ := Kd.at_int (Kd.R_reads' HO_5.out).2.2 t287 p288 q288
            cases e288
            replace p288 := eq_true p288
            replace q288 := eq_true q288
            refine start_ (n := 20) (S := fun w' => w'.cell? ⟨gb283, 0, none⟩ = some (.slice Ao30 y280.length co30) ∧ w'.cell? ⟨gb269, 0, none⟩ = some (.int .i64 a0_0) ∧ w'.cell? ⟨gb269, 1, none⟩ = some (.int .i64 a0_1) ∧ w'.cell? (ad288.add (t287).toNat) = some (.int .i64 (rd t274 t287))) (ds := [19]) (bsl_ 20 0) (by kernel_rfl) rfl rfl ⟨(x3l BK283.out 0).trans rfl, (x3l BK269.out 0).trans rfl, (x3l BK269.out 1).trans rfl, hx288_0⟩ (fun hHeld => ?_); refine with_tabW impl_SpotMatrix.tab9 impl_SpotMatrix.bits9 (fun HT_ HW_ => ?_)
            generalize wr.drew = w41 at HO_5 HO_6 Ha_ BK269 BK270 BK283 HB hx288_0 hHeld ⊢
            refine pure_ (i := 0) (N := some 34) (v := ?_) (a' := ?_) (bsl_ 20 1) rfl rfl (any_of HT_.out (by kernel_rfl)) (fun _ _ _ h => h) (Or.inl ⟨by rfl, ?_⟩) ?_ ?_
            rotate_left
            ·intro w'
             go_simp
             with_reducible rfl
            rotate_left
            ·simp only [Act.put, s1l_, s2l_, s3l_, i64_w, i32_w]
             rfl
            refine pure_ (i := 1) (N := some 35) (v := ?_) (a' := ?_) (bsl_ 20 3) rfl rfl (any_of HT_.out (by kernel_rfl)) (fun _ _ _ h => h) (Or.inl ⟨by rfl, ?_⟩) ?_ ?_
            rotate_left
            ·intro w'
             go_simp
             with_reducible rfl
            rotate_left
            ·simp only [Act.put, s1l_, s2l_, s3l_, i64_w, i32_w]
             rfl
            refine pure_ (i := 5) (N := some 39) (v := ?_) (a' := ?_) (bsl_ 20 35) rfl rfl (any_of HT_.out (by kernel_rfl)) (fun _ _ _ h => h) (Or.inl ⟨by rfl, ?_⟩) ?_ ?_
            rotate_left
            ·intro w'
             go_simp
             with_reducible rfl
            rotate_left
            ·simp only [Act.put, s1l_, s2l_, s3l_, i64_w, i32_w]
             rfl
            refine pure_ (i := 7) (N := some 41) (v := ?_) (a' := ?_) (bsl_ 20 163) rfl rfl (any_of HT_.out (by kernel_rfl)) (fun _ _ _ h => h) (Or.inl ⟨by rfl, ?_⟩) ?_ ?_
            rotate_left
            ·intro w'
             go_simp
             with_reducible rfl
            rotate_left
            ·simp only [Act.put, s1l_, s2l_, s3l_, i64_w, i32_w]
             rfl
            refine pure_ (i := 8) (N := some 42) (v := ?_) (a' := ?_) (bsl_ 20 419) rfl rfl (any_of HT_.out (by kernel_rfl)) (fun _ _ _ h => h) (Or.inl ⟨by rfl, ?_⟩) ?_ ?_
            rotate_left
            ·intro w'
             go_simp
             with_reducible rfl
            rotate_left
            ·simp only [Act.put, s1l_, s2l_, s3l_, i64_w, i32_w]
             rfl
            refine pure_ (i := 9) (N := some 43) (v := ?_) (a' := ?_) (bsl_ 20 931) rfl rfl (any_of HT_.out (by kernel_rfl)) (fun _ _ _ h => h) (Or.inl ⟨by rfl, ?_⟩) ?_ ?_
            rotate_left
            ·intro w'
             go_simp
             with_reducible rfl
            rotate_left
            ·simp only [Act.put, s1l_, s2l_, s3l_, i64_w, i32_w]
             rfl
            refine pure_ (i := 10) (N := some 44) (v := ?_) (a' := ?_) (bsl_ 20 1955) rfl rfl (any_of HT_.out (by kernel_rfl)) (fun _ _ _ h => h) (Or.inl ⟨by rfl, ?_⟩) ?_ ?_
            rotate_left
            ·intro w'
             go_simp
             with_reducible rfl
            rotate_left
            ·simp only [Act.put, s1l_, s2l_, s3l_, i64_w, i32_w]
             rfl
            refine pure_ (i := 11) (N := some 45) (v := ?_) (a' := ?_) (bsl_ 20 4003) rfl rfl (any_of HT_.out (by kernel_rfl)) (fun _ _ _ h => h) (Or.inl ⟨by rfl, ?_⟩) ?_ ?_
            rotate_left
            ·intro w'
             go_simp
             with_reducible rfl
            rotate_left
            ·simp only [Act.put, s1l_, s2l_, s3l_, i64_w, i32_w]
             rfl
            refine pure_ (i := 12) (N := some 46) (v := ?_) (a' := ?_) (bsl_ 20 8099) rfl rfl (any_of HT_.out (by kernel_rfl)) (fun _ _ _ h => h) (Or.inl ⟨by rfl, ?_⟩) ?_ ?_
            rotate_left
            ·intro w'
             go_simp
             with_reducible rfl
            rotate_left
            ·simp only [Act.put, s1l_, s2l_, s3l_, i64_w, i32_w]
             rfl
            refine take_ (i := 4) (N := some 38) (v := ?_) (a' := ?_) (bsl_ 20 8115) rfl rfl (take_ofW HT_.out HW_.out (by kernel_rfl)) (fun _ _ _ h => h) (Or.inl ⟨by rfl, ?_⟩) hHeld ?_ ?_
            rotate_left
            ·rintro w' ⟨s0, s1, s2, s3⟩
             go_simp
             with_reducible rfl
            rotate_left
            ·simp only [Act.put, s1l_, s2l_, s3l_, i64_w, i32_w]
             rfl
            refine take_ (i := 6) (N := some 40) (v := ?_) (a' := ?_) (bsl_ 20 8179) rfl rfl (take_ofW HT_.out HW_.out (by kernel_rfl)) (fun _ _ _ h => h) (Or.inl ⟨by rfl, ?_⟩) hHeld ?_ ?_
            rotate_left
            ·rintro w' ⟨s0, s1, s2, s3⟩
             go_simp
             with_reducible rfl
            rotate_left
            ·simp only [Act.put, s1l_, s2l_, s3l_, i64_w, i32_w]
             rfl
            refine one_ (i := 2) (N := some 36) (bsl_ 20 8183) rfl rfl (one_of HT_.out (by kernel_rfl)) (by decide) (fun K hK => ?_)
            refine value_ (w1 := ?_) (v := ?_) (by rfl) rfl ?_ ?_
            rotate_left 2
            ·go_simp
             constructor
             ·rfl
             ·rfl
            refine hK.out _ _ ⟨(x3l (z2l BK283.out _) 0).trans rfl, (x3l (z2l BK269.out _) 0).trans rfl, (x3l (z2l BK269.out _) 1).trans rfl, (World.cell?_alloc_lt _ _ _ (World.block_lt_of_cell? _ _ (hHeld.2.2.2))).trans (hHeld.2.2.2)⟩ (fun hHeld => ?_)
            clear hK K
            refine norm_ (a' := ?_) ?_ ?_
            rotate_left
            ·show Act.put _ (some 36) _ = _
             simp only [Act.put, s1l_, s2l_, s3l_, i64_w, i32_w]
             rfl
            refine one_ (i := 3) (N := some 37) (bsl_ 20 8191) rfl rfl (one_of HT_.out (by kernel_rfl)) (by decide) (fun K hK => ?_)
            refine Kd.R_append_step (Kd.int .i64) (w0 := w) w.heap.size (by rfl) (.tmp 34) (.tmp 36) 28 3 (.int .i64 0) 8 rfl Try.underlying28 info3 rfl (by decide) (by omega) u6 x6_2 x31_2 [.int .i64 x31_2] (fun k_ => some k_ ≠ ((.slice (some ad288) t274.length cz288_) : Value).ownBlock ∧ some k_ ≠ (.slice Ao30 y280.length co30 : Value).ownBlock) (fun _ => False) rfl rfl ?aP (fun _ hk => hk.elim) ?aF ?aO ?aB ?aS ?aL ?_
            (case aP => exact rfl)
            (case aB => exact (by repeat (first | (with_reducible first | exact HB.out | apply z4l | apply z5l | apply z6l | refine z7l ?_ GE269.out | refine z7l ?_ GE270.out | refine z7l ?_ GE283.out) | exact HB.out)))
            (case aF => exact (fun k_ hk => ⟨Kd.fresh' (Kd.R_lt (by (with_reducible repeat (first | apply z8l | apply z9l | apply y1l)); exact HO_5.out)) k_ hk, Kd.fresh' (Kd.R_lt (by (with_reducible repeat (first | apply z8l | apply z9l | apply y1l)); exact Ha_.out)) k_ hk⟩))
            (case aO => exact (by (with_reducible repeat (first | apply z8l | apply z9l | apply y1l)); exact HO_6.out))
            (case aS => exact (y7l (by repeat (first | (with_reducible first | exact HB.out | apply z4l | apply z5l | apply z6l | refine z7l ?_ GE269.out | refine z7l ?_ GE270.out | refine z7l ?_ GE283.out) | exact HB.out))))
            (case aL => have := LMc35.out; omega)
            intro v285 w42 ho hb hg hat
            (first | have HS3_ := cell_grown hg (hHeld.2.2.2) (by first | (rw [add_block]; exact (fun e_ => by have q_ := HO_6.out.1 _ e_.symm; first | exact q_ rfl | exact q_.1 rfl | exact q_.2 rfl | exact q_.2.1 rfl | exact q_.2.2 rfl)) | (show some (Addr.add _ _).block ≠ _; rw [add_block]; exact (fun e_ => by have q_ := HO_6.out.1 _ e_.symm; first | exact q_ rfl | exact q_.1 rfl | exact q_.2 rfl | exact q_.2.1 rfl | exact q_.2.2 rfl)) | exact (fun e_ => by have q_ := HO_6.out.1 _ e_.symm; first | exact q_ rfl | exact q_.1 rfl | exact q_.2 rfl | exact q_.2.1 rfl | exact q_.2.2 rfl)) | have HS3_ := cell_grown hg (cell_unalloc (hHeld.2.2.2) (by first | (rw [add_block]; exact Kd.R_lt HO_5.out _ rfl) | (show (Addr.add _ _).block < _; rw [add_block]; exact Kd.R_lt HO_5.out _ rfl) | exact Kd.R_lt HO_5.out _ rfl)) (by first | (rw [add_block]; exact (fun e_ => by have q_ := HO_6.out.1 _ e_.symm; first | exact q_ rfl | exact q_.1 rfl | exact q_.2 rfl | exact q_.2.1 rfl | exact q_.2.2 rfl)) | (show some (Addr.add _ _).block ≠ _; rw [add_block]; exact (fun e_ => by have q_ := HO_6.out.1 _ e_.symm; first | exact q_ rfl | exact q_.1 rfl | exact q_.2 rfl | exact q_.2.1 rfl | exact q_.2.2 rfl)) | exact (fun e_ => by have q_ := HO_6.out.1 _ e_.symm; first | exact q_ rfl | exact q_.1 rfl | exact q_.2 rfl | exact q_.2.1 rfl | exact q_.2.2 rfl)))
            rw [← Ny284.out] at ho
            have n0_ := z0l (Kd.R_after (ok := (fun k_ => some k_ ≠ (.slice Ao30 y280.length co30 : Value).ownBlock)) (by (with_reducible repeat (first | apply z8l | apply z9l | apply y1l)); exact x6l HO_5.out (fun _ hk => ⟨hk.2, hk.1⟩)) hg hat)
            have n1_ := z0l (Kd.R_after (ok := (fun k_ => some k_ ≠ ((.slice (some ad288) t274.length cz288_) : Value).ownBlock)) (by (with_reducible repeat (first | apply z8l | apply z9l | apply y1l)); exact Ha_.out) hg hat)
            have n2_ := z0l (blk_grown (g := gb269) (o := .cells #[.int .i64 a0_0, .int .i64 a0_1] 24 (0, 0)) (by (with_reducible repeat (first | refine z1l ?_ _ | refine z3l ?_ | refine z2l ?_ _)); exact BK269.out) hg (x9l HO_6.out BK269.out (by decide)))
            have n3_ := z0l (blk_grown (g := gb270) (o := .cells #[.int .i64 0, .int .i64 0, .slice none 0 0] 37 (0, 0)) (by (with_reducible repeat (first | refine z1l ?_ _ | refine z3l ?_ | refine z2l ?_ _)); exact BK270.out) hg (x9l HO_6.out BK270.out (by decide)))
            have n4_ := z0l (blk_grown (g := gb283) (o := .cells #[.slice Ao30 y280.length co30] 28 (0, 0)) (by (with_reducible repeat (first | refine z1l ?_ _ | refine z3l ?_ | refine z2l ?_ _)); exact BK283.out) hg (x9l HO_6.out BK283.out (by decide)))
            have n5_ := z0l (hb)
            have n6_ := z0l (ho)
            clear HO_5
            clear Ha_
            clear BK269
            clear BK270
            clear BK283
            clear HB
            clear HO_6
            have HO_5 := n0_
            have Ha_ := n1_
            have BK269 := n2_
            have BK270 := n3_
            have BK283 := n4_
            have HB := n5_
            have HO286 := n6_
            clear n0_ n1_ n2_ n3_ n4_ n5_ n6_
            clear ho hb hg hat
            refine hK.out _ _ ⟨(x3l BK283.out 0).trans rfl, (x3l BK269.out 0).trans rfl, (x3l BK269.out 1).trans rfl, HS3_⟩ (fun hHeld => ?_)
            clear hK K
            refine norm_ (a' := ?_) ?_ ?_
            rotate_left
            ·show Act.put _ (some 37) _ = _
             simp only [Act.put, s1l_, s2l_, s3l_, i64_w, i32_w]
             rfl
            refine one_ (i := 13) (N := some 47) (bsl_ 20 16383) rfl rfl (one_of HT_.out (by kernel_rfl)) (by decide) (fun K hK => ?_)
            refine goes_ Try.func44 (by kernel_rfl) rfl #[.agg #[.int .i64 a0_0, .int .i64 a0_1], .int .i64 (Int.tmod x31_2 t271), .int .i64 (wrap64 (Int.tdiv x31_2 t271))] (by rfl) rfl rfl (by (try simp only [List.map_toArray, List.map_cons, List.map_nil]); first | done | rfl | (simp only [List.length_drop, List.length_take]; rfl)) ?_
            with_reducible refine (impl_name.calls k2 a0_0 a0_1 (Int.tmod x31_2 t271) (wrap64 (Int.tdiv x31_2 t271)) t287 _ A37.out).mono ?_
            rintro e w43 ⟨rfl, hb⟩
            have HS3_ := (hb.cell (World.block_lt_of_cell? _ _ (hHeld.2.2.2))).trans (hHeld.2.2.2)
            refine ⟨_, rfl, ?_⟩
            have n0_ := z0l (x4l (by (with_reducible repeat (first | apply z8l | apply z9l | apply y1l)); exact HO_5.out) hb)
            have n1_ := z0l (x4l (by (with_reducible repeat (first | apply z8l | apply z9l | apply y1l)); exact Ha_.out) hb)
            have n2_ := z0l (x4l (by (with_reducible repeat (first | apply z8l | apply z9l | apply y1l)); exact HO286.out) hb)
            have n3_ := z0l (y5l (g := gb269) (o := .cells #[.int .i64 a0_0, .int .i64 a0_1] 24 (0, 0)) (by (with_reducible repeat (first | refine z1l ?_ _ | refine z3l ?_ | refine z2l ?_ _)); exact BK269.out) hb)
            have n4_ := z0l (y5l (g := gb270) (o := .cells #[.int .i64 0, .int .i64 0, .slice none 0 0] 37 (0, 0)) (by (with_reducible repeat (first | refine z1l ?_ _ | refine z3l ?_ | refine z2l ?_ _)); exact BK270.out) hb)
            have n5_ := z0l (y5l (g := gb283) (o := .cells #[.slice Ao30 y280.length co30] 28 (0, 0)) (by (with_reducible repeat (first | refine z1l ?_ _ | refine z3l ?_ | refine z2l ?_ _)); exact BK283.out) hb)
            have n6_ := z0l (y6l (by repeat (first | (with_reducible first | exact HB.out | apply z4l | apply z5l | apply z6l | refine z7l ?_ GE269.out | refine z7l ?_ GE270.out | refine z7l ?_ GE283.out) | exact HB.out)) hb)
            clear HO_5
            clear Ha_
            clear HO286
            clear BK269
            clear BK270
            clear BK283
            clear HB
            have HO_5 := n0_
            have Ha_ := n1_
            have HO286 := n2_
            have BK269 := n3_
            have BK270 := n4_
            have BK283 := n5_
            have HB := n6_
            clear n0_ n1_ n2_ n3_ n4_ n5_ n6_
            (try clear hb)
            (try clear hb2)
            (try clear hk)
            (try clear hi)
            obtain ⟨Ao44, co44, eo44⟩ := Kd.R_slice HO_5.out
            (first | subst eo44 | (injection eo44 with f1_ f2_ f3_; have f4_ := f1_.symm; have f5_ := f3_.symm; clear f1_ f2_ f3_; subst f4_; subst f5_))
            refine hK.out _ _ ⟨(x3l BK283.out 0).trans rfl, (x3l BK269.out 0).trans rfl, (x3l BK269.out 1).trans rfl, HS3_⟩ (fun hHeld => ?_)
            clear hK K
            refine norm_ (a' := ?_) ?_ ?_
            rotate_left
            ·show Act.put _ (some 47) _ = _
             simp only [Act.put, s1l_, s2l_, s3l_, i64_w, i32_w]
             rfl
            refine pure_ (i := 14) (N := some 48) (v := ?_) (a' := ?_) (bsl_ 20 32767) rfl rfl (any_of HT_.out (by kernel_rfl)) (fun _ _ _ h => h) (Or.inl ⟨by rfl, ?_⟩) ?_ ?_
            rotate_left
            ·intro w'
             go_simp
             with_reducible rfl
            rotate_left
            ·simp only [Act.put, s1l_, s2l_, s3l_, i64_w, i32_w]
             rfl
            refine take_ (i := 15) (N := some 49) (v := ?_) (a' := ?_) (bsl_ 20 65535) rfl rfl (take_ofW HT_.out HW_.out (by kernel_rfl)) (fun _ _ _ h => h) (Or.inl ⟨by rfl, ?_⟩) hHeld ?_ ?_
            rotate_left
            ·rintro w' ⟨s0, s1, s2, s3⟩
             go_simp
             with_reducible rfl
            rotate_left
            ·simp only [Act.put, s1l_, s2l_, s3l_, i64_w, i32_w]
             rfl
            refine one_ (i := 16) (N := some 50) (bsl_ 20 131071) rfl rfl (one_of HT_.out (by kernel_rfl)) (by decide) (fun K hK => ?_)
            refine value_ (w1 := ?_) (v := ?_) (by rfl) rfl ?_ ?_
            rotate_left 2
            ·go_simp
             constructor
             ·rfl
             ·rfl
            refine hK.out _ _ ⟨(x3l (z2l BK283.out _) 0).trans rfl, (x3l (z2l BK269.out _) 0).trans rfl, (x3l (z2l BK269.out _) 1).trans rfl, (World.cell?_alloc_lt _ _ _ (World.block_lt_of_cell? _ _ (hHeld.2.2.2))).trans (hHeld.2.2.2)⟩ (fun hHeld => ?_)
            clear hK K
            refine norm_ (a' := ?_) ?_ ?_
            rotate_left
            ·show Act.put _ (some 50) _ = _
             simp only [Act.put, s1l_, s2l_, s3l_, i64_w, i32_w]
             rfl
            refine one_ (i := 17) (N := some 51) (bsl_ 20 262143) rfl rfl (one_of HT_.out (by kernel_rfl)) (by decide) (fun K hK => ?_)
            refine Kd.R_append_step (Kd.int .i64) (w0 := w) w.heap.size (by rfl) (.tmp 38) (.tmp 50) 28 3 (.int .i64 0) 8 rfl Try.underlying28 info3 rfl (by decide) (by omega) (.slice Ao30 y280.length co30) y280 (rd t274 t287) [.int .i64 (rd t274 t287)] (fun k_ => some k_ ≠ (.slice (some ad288) t274.length co44 : Value).ownBlock ∧ some k_ ≠ (v285 : Value).ownBlock) (fun _ => False) rfl rfl ?aP (fun _ hk => hk.elim) ?aF ?aO ?aB ?aS ?aL ?_
            (case aP => exact rfl)
            (case aB => exact (by repeat (first | (with_reducible first | exact HB.out | apply z4l | apply z5l | apply z6l | refine z7l ?_ GE269.out | refine z7l ?_ GE270.out | refine z7l ?_ GE283.out) | exact HB.out)))
            (case aF => exact (fun k_ hk => ⟨Kd.fresh' (Kd.R_lt (by (with_reducible repeat (first | apply z8l | apply z9l | apply y1l)); exact HO_5.out)) k_ hk, Kd.fresh' (Kd.R_lt (by (with_reducible repeat (first | apply z8l | apply z9l | apply y1l)); exact HO286.out)) k_ hk⟩))
            (case aO => exact (by (with_reducible repeat (first | apply z8l | apply z9l | apply y1l)); exact Ha_.out))
            (case aS => exact (y7l (by repeat (first | (with_reducible first | exact HB.out | apply z4l | apply z5l | apply z6l | refine z7l ?_ GE269.out | refine z7l ?_ GE270.out | refine z7l ?_ GE283.out) | exact HB.out))))
            (case aL => have := LMc40.out; omega)
            intro v290 w45 ho hb hg hat
            (first | have HS3_ := cell_grown hg (hHeld.2.2.2) (by first | (rw [add_block]; exact (fun e_ => by have q_ := Ha_.out.1 _ e_.symm; first | exact q_ rfl | exact q_.1 rfl | exact q_.2 rfl | exact q_.2.1 rfl | exact q_.2.2 rfl)) | (show some (Addr.add _ _).block ≠ _; rw [add_block]; exact (fun e_ => by have q_ := Ha_.out.1 _ e_.symm; first | exact q_ rfl | exact q_.1 rfl | exact q_.2 rfl | exact q_.2.1 rfl | exact q_.2.2 rfl)) | exact (fun e_ => by have q_ := Ha_.out.1 _ e_.symm; first | exact q_ rfl | exact q_.1 rfl | exact q_.2 rfl | exact q_.2.1 rfl | exact q_.2.2 rfl)) | have HS3_ := cell_grown hg (cell_unalloc (hHeld.2.2.2) (by first | (rw [add_block]; exact Kd.R_lt HO_5.out _ rfl) | (show (Addr.add _ _).block < _; rw [add_block]; exact Kd.R_lt HO_5.out _ rfl) | exact Kd.R_lt HO_5.out _ rfl)) (by first | (rw [add_block]; exact (fun e_ => by have q_ := Ha_.out.1 _ e_.symm; first | exact q_ rfl | exact q_.1 rfl | exact q_.2 rfl | exact q_.2.1 rfl | exact q_.2.2 rfl)) | (show some (Addr.add _ _).block ≠ _; rw [add_block]; exact (fun e_ => by have q_ := Ha_.out.1 _ e_.symm; first | exact q_ rfl | exact q_.1 rfl | exact q_.2 rfl | exact q_.2.1 rfl | exact q_.2.2 rfl)) | exact (fun e_ => by have q_ := Ha_.out.1 _ e_.symm; first | exact q_ rfl | exact q_.1 rfl | exact q_.2 rfl | exact q_.2.1 rfl | exact q_.2.2 rfl)))
            rw [← Ny289.out] at ho
            have n0_ := z0l (Kd.R_after (ok := (fun k_ => some k_ ≠ (v285 : Value).ownBlock)) (by (with_reducible repeat (first | apply z8l | apply z9l | apply y1l)); exact x6l HO_5.out (fun _ hk => ⟨hk.2, hk.1⟩)) hg hat)
            have n1_ := z0l (blk_grown (g := gb269) (o := .cells #[.int .i64 a0_0, .int .i64 a0_1] 24 (0, 0)) (by (with_reducible repeat (first | refine z1l ?_ _ | refine z3l ?_ | refine z2l ?_ _)); exact BK269.out) hg (x9l Ha_.out BK269.out (by decide)))
            have n2_ := z0l (blk_grown (g := gb270) (o := .cells #[.int .i64 0, .int .i64 0, .slice none 0 0] 37 (0, 0)) (by (with_reducible repeat (first | refine z1l ?_ _ | refine z3l ?_ | refine z2l ?_ _)); exact BK270.out) hg (x9l Ha_.out BK270.out (by decide)))
            have n3_ := z0l (blk_grown (g := gb283) (o := .cells #[.slice Ao30 y280.length co30] 28 (0, 0)) (by (with_reducible repeat (first | refine z1l ?_ _ | refine z3l ?_ | refine z2l ?_ _)); exact BK283.out) hg (x9l Ha_.out BK283.out (by decide)))
            have n4_ := z0l (Kd.R_after (ok := (fun k_ => some k_ ≠ (.slice (some ad288) t274.length co44 : Value).ownBlock)) (by (with_reducible repeat (first | apply z8l | apply z9l | apply y1l)); exact HO286.out) hg hat)
            have n5_ := z0l (hb)
            have n6_ := z0l (ho)
            clear HO_5
            clear BK269
            clear BK270
            clear BK283
            clear HO286
            clear HB
            clear Ha_
            have HO_5 := n0_
            have BK269 := n1_
            have BK270 := n2_
            have BK283 := n3_
            have HO286 := n4_
            have HB := n5_
            have HO291 := n6_
            clear n0_ n1_ n2_ n3_ n4_ n5_ n6_
            clear ho hb hg hat
            obtain ⟨Ao46, co46, eo46⟩ := Kd.R_slice HO291.out
            (first | subst eo46 | (injection eo46 with f1_ f2_ f3_; have f4_ := f1_.symm; have f5_ := f3_.symm; clear f1_ f2_ f3_; subst f4_; subst f5_))
            refine hK.out _ _ ⟨(x3l BK283.out 0).trans rfl, (x3l BK269.out 0).trans rfl, (x3l BK269.out 1).trans rfl, HS3_⟩ (fun hHeld => ?_)
            clear hK K
            refine norm_ (a' := ?_) ?_ ?_
            rotate_left
            ·show Act.put _ (some 51) _ = _
             simp only [Act.put, s1l_, s2l_, s3l_, i64_w, i32_w]
             rfl
            refine pure_ (i := 18) (N := some 6) (v := ?_) (a' := ?_) (bsl_ 20 524287) rfl rfl (any_of HT_.out (by kernel_rfl)) (fun _ _ _ h => h) (Or.inl ⟨by rfl, ?_⟩) ?_ ?_
            rotate_left
            ·intro w'
             go_simp
             with_reducible rfl
            rotate_left
            ·simp only [Act.put, s1l_, s2l_, s3l_, i64_w, i32_w]
             rfl
            refine last_ (i := 19) (N := none) (bsl_ 20 1048575) rfl rfl (one_of HT_.out (by kernel_rfl)) (by decide) (fun K hK => ?_)
            have hs47 : w45.cell? ⟨gb283, 0, none⟩ = some (.slice Ao30 y280.length co30) := (x3l BK283.out 0).trans rfl
            have hfs47 := x2l BK283.out 0
            have hns47_0 := NB269_283.out
            have hns47_1 := NB270_283.out
            have hms47_0 := NB283_269.out
            have hms47_1 := NB283_270.out
            refine skip_ (w1 := ?_) (by rfl) rfl ?_ ?_
            rotate_left
            ·go_simp
             rfl
            refine hK.out _ _ ?_
            clear hK K
            refine done_ (done_of HT_.out (by kernel_rfl)) ?_
            try go_wp2
            go_roundg k2
            case measure => have := HJ2.out; have := HK2.out; omega
            case rel => exact ⟨(y284), (wrap64 (x31_2 + 1)), y289, Ao46, co46, (by first | rfl | (simp; done) | (simp [*]; done)), H', ⟨by have := HJ2.out; have := HK2.out; omega⟩, ⟨by (with_reducible repeat (first | apply z8l | apply z9l | apply y1l)); exact x6l (x1l (p := ⟨gb283, 0, none⟩) (x7l HO_5.out BK283.out (by decide)) (fun _ hk => hk.2) (.slice Ao46 y289.length co46)) (fun _ hk => ⟨hk.1.1, hk.1.2⟩)⟩, ⟨by (with_reducible repeat (first | apply z8l | apply z9l | apply y1l)); exact x6l (x1l (p := ⟨gb283, 0, none⟩) (x7l HO286.out BK283.out (by decide)) (fun _ hk => hk.2) (.slice Ao46 y289.length co46)) (fun _ hk => ⟨hk.1.1, hk.1.2⟩)⟩, ⟨by (with_reducible repeat (first | apply z8l | apply z9l | apply y1l)); exact x6l (x1l (p := ⟨gb283, 0, none⟩) (x7l HO291.out BK283.out (by decide)) (fun _ hk => hk.2) (.slice Ao46 y289.length co46)) (fun _ hk => ⟨hk.1.1, hk.1.2⟩)⟩, ⟨by (with_reducible repeat (first | refine z1l ?_ _ | refine z3l ?_ | refine z2l ?_ _)); refine x8l ?_ NB269_283.out _; (with_reducible repeat (first | refine z1l ?_ _ | refine z3l ?_ | refine z2l ?_ _)); exact BK269.out⟩, ⟨by (with_reducible repeat (first | refine z1l ?_ _ | refine z3l ?_ | refine z2l ?_ _)); refine x8l ?_ NB270_283.out _; (with_reducible repeat (first | refine z1l ?_ _ | refine z3l ?_ | refine z2l ?_ _)); exact BK270.out⟩, ⟨by (with_reducible repeat (first | refine z1l ?_ _ | refine z3l ?_ | refine z2l ?_ _)); refine blk_put (cs := #[.slice Ao30 y280.length co30]) ?_ 0 _ rfl; (with_reducible repeat (first | refine z1l ?_ _ | refine z3l ?_ | refine z2l ?_ _)); exact BK283.out⟩, ⟨by repeat (first | (with_reducible first | exact HB.out | apply z4l | apply z5l | apply z6l | refine z7l ?_ GE269.out | refine z7l ?_ GE270.out | refine z7l ?_ GE283.out) | exact HB.out)⟩⟩
           ·rw [if_neg c40] at H
            exact absurd H (by simp)
          ·rw [if_neg c39] at H
           exact absurd H (by simp)
         ·rw [if_neg c38] at H
          exact absurd H (by simp)
       ·rw [if_neg c35] at H
        exact absurd H (by simp)
      ·rw [if_neg c34] at H
       have c34b0 : decide (x31_2 < (wrap64 (t271 * t271))) = false := decide_eq_false c34
       clear c34
       replace H := Option.bind_eq_some_iff.mp H
       obtain ⟨t292, A480, H⟩ := H
       replace H : (if 0 ≤ (x6_2.length : Int) then (if ((x6_2.length : Int) : Int).toNat ≤ 35184372088832 then (impl_SpotMatrix.l1 k2 t292 (x6_2.length : Int) 0 t271 t271 (List.replicate ((x6_2.length : Int) : Int).toNat 0)) else (none)) else (none)) = some (r1, r2, r3, r4) := H
       have A48 := z0l A480
       clear A480
       by_cases c49 : 0 ≤ (x6_2.length : Int)
       ·rw [if_pos c49] at H
        have c49b0 := eq_true c49
        have c49b1 : decide (0 ≤ (x6_2.length : Int)) = true := decide_eq_true c49
        clear c49
        by_cases c50 : ((x6_2.length : Int) : Int).toNat ≤ 35184372088832
        ·rw [if_pos c50] at H
         have c50b0 := eq_true c50
         have c50b1 : decide (((x6_2.length : Int) : Int).toNat ≤ 35184372088832) = true := decide_eq_true c50
         clear c50
         obtain ⟨y293, hy293⟩ : ∃ y_ : List Int, y_ = (List.replicate ((x6_2.length : Int) : Int).toNat 0) := ⟨_, rfl⟩
         replace H : (impl_SpotMatrix.l1 k2 t292 (x6_2.length : Int) 0 t271 t271 y293) = some (r1, r2, r3, r4) := by first | (rw [hy293]; with_reducible exact H) | (have H2_ := (Option.bind_some _ _).symm.trans H; rw [hy293]; with_reducible exact H2_) | (have H2_ := (Option.bind_some _ _).symm.trans H; with_reducible exact H2_) | with_reducible exact H | (rw [hy293]; exact H) | exact H
         have Ny293 := z0l hy293
         clear hy293
         have H' := z0l H
         clear H
         obtain ⟨Ao51, co51, eo51⟩ := Kd.R_slice HO_6.out
         subst eo51
         go_wp2_with (first | ((with_reducible refine gate_callee (f := 49) rfl ?_); refine goesL_ (some 55) rfl rfl Try.func49 (by kernel_rfl) rfl #[.slice Ao51 x6_2.length co51, .func (.func 50) #[] #[.pointer (some ⟨gb283, 0, none⟩)]] rfl (by (try simp only [List.map_toArray, List.map_cons, List.map_nil]); first | done | rfl | (simp only [List.length_drop, List.length_take]; rfl)) ?_; (with_reducible refine (impl_SpotMatrix_1.sort.calls k2 (fun k_ => some k_ = (.slice Ao51 x6_2.length co51 : Value).ownBlock) (.slice Ao51 x6_2.length co51) x6_2 Ao30 co30 y280 t292 w _ ?side1 ?side2 ?side3 ?side4 ?side5 A48.out).mono ?_); (case side1 => repeat (first | (with_reducible first | exact HB.out | apply z4l | apply z5l | apply z6l | refine z7l ?_ GE269.out | refine z7l ?_ GE270.out | refine z7l ?_ GE283.out) | exact HB.out)); (case side2 => exact Kd.R_tight rfl HO_6.out); (case side3 => exact Kd.C_kept_own (Ha_.out) (fun k_ hk_ hs_ => (hk_.2) hs_)); (case side4 => exact (Kd.R_reads' Ha_.out).2.1); (case side5 => exact by (with_reducible repeat (first | refine z1l ?_ _ | refine z3l ?_ | refine z2l ?_ _)); exact BK283.out); rintro e w52 ⟨rfl, hy0, hb, hkp⟩; refine ⟨_, rfl, ?_⟩; have n0_ := z0l (x6l (ok' := fun k_ => some k_ ≠ (.slice Ao51 x6_2.length co51 : Value).ownBlock ∧ some k_ ≠ (.slice Ao30 y280.length co30 : Value).ownBlock) (Kd.R_keptB (HO_5.out) hkp (fun k_ hk_ hs_ => (hk_.1) hs_)) (fun k_ hk_ => ⟨hk_.1.1, hk_.1.2⟩)); have n1_ := z0l (Kd.R_reok rfl hy0 (fun k_ e_ => HO_6.out.1 k_ e_)); have n2_ := z0l (x6l (ok' := fun k_ => some k_ ≠ (v275 : Value).ownBlock ∧ some k_ ≠ (.slice Ao51 x6_2.length co51 : Value).ownBlock) (Kd.R_keptB (Ha_.out) hkp (fun k_ hk_ hs_ => (hk_.2) hs_)) (fun k_ hk_ => ⟨hk_.1.1, hk_.1.2⟩)); have n3_ := z0l (blk_kept (by (with_reducible repeat (first | refine z1l ?_ _ | refine z3l ?_ | refine z2l ?_ _)); exact BK269.out) hkp (fun hs_ => (fun e_ => (x9l HO_6.out BK269.out (by decide)) e_) hs_)); have n4_ := z0l (blk_kept (by (with_reducible repeat (first | refine z1l ?_ _ | refine z3l ?_ | refine z2l ?_ _)); exact BK270.out) hkp (fun hs_ => (fun e_ => (x9l HO_6.out BK270.out (by decide)) e_) hs_)); have n5_ := z0l (blk_kept (by (with_reducible repeat (first | refine z1l ?_ _ | refine z3l ?_ | refine z2l ?_ _)); exact BK283.out) hkp (fun hs_ => (fun e_ => (x9l HO_6.out BK283.out (by decide)) e_) hs_)); have n6_ := z0l (hb); clear HO_5; clear HO_6; clear Ha_; clear BK269; clear BK270; clear BK283; clear HB; have HO_5 := n0_; have HO_6 := n1_; have Ha_ := n2_; have BK269 := n3_; have BK270 := n4_; have BK283 := n5_; have HB := n6_; clear n0_ n1_ n2_ n3_ n4_ n5_ n6_; (try clear hb); (try clear hkp); (try clear hy0)) | ((with_reducible refine gate_dst (N := 60) rfl ?_); refine Kd.R_make (Kd.int .i64) _ 3 rfl (N := 60) rfl 28 _ _ rfl (x6_2.length : Int) rfl rfl Try.underlying28 (.int .i64 0) 8 info3 rfl (by decide) (by omega) 0 (ok := fun _ => True) (okp := fun _ => True) rfl (fun _ hk => hk) trivial (of_decide_eq_true (by first | (with_reducible assumption) | assumption)) (Nat.le_trans (Nat.mul_le_mul_right _ (of_decide_eq_true (by first | (with_reducible assumption) | assumption) : (x6_2.length : Int).toNat ≤ 35184372088832)) (by omega)) (Below.refl _ _) (Nat.le_refl _) ?_; intro v294 w53 ho54 hb hg_ hnew_; clear hg_ hnew_; (first | rw [← Ny293.out] at ho54 | (simp only [Int.reduceToNat] at ho54; rw [← Ny293.out] at ho54)); have n0_ := z0l (Kd.R_elder' (by (with_reducible repeat (first | apply z8l | apply z9l | apply y1l)); exact HO_5.out) (Kd.R_base ho54) hb); have n1_ := z0l (Kd.R_elder' (by (with_reducible repeat (first | apply z8l | apply z9l | apply y1l)); exact HO_6.out) (Kd.R_base ho54) hb); have n2_ := z0l (Kd.R_elder' (by (with_reducible repeat (first | apply z8l | apply z9l | apply y1l)); exact Ha_.out) (Kd.R_base ho54) hb); have n3_ := z0l (Kd.R_lower (Kd.R_new' (Kd.R_new' (Kd.R_new' ho54 (Kd.R_lt (by (with_reducible repeat (first | apply z8l | apply z9l | apply y1l)); exact HO_5.out))) (Kd.R_lt (by (with_reducible repeat (first | apply z8l | apply z9l | apply y1l)); exact HO_6.out))) (Kd.R_lt (by (with_reducible repeat (first | apply z8l | apply z9l | apply y1l)); exact Ha_.out))) (y7l (by repeat (first | (with_reducible first | exact HB.out | apply z4l | apply z5l | apply z6l | refine z7l ?_ GE269.out | refine z7l ?_ GE270.out | refine z7l ?_ GE283.out) | exact HB.out)))); have n4_ := z0l (y5l (g := gb269) (o := .cells #[.int .i64 a0_0, .int .i64 a0_1] 24 (0, 0)) (by (with_reducible repeat (first | refine z1l ?_ _ | refine z3l ?_ | refine z2l ?_ _)); exact BK269.out) hb); have n5_ := z0l (y5l (g := gb270) (o := .cells #[.int .i64 0, .int .i64 0, .slice none 0 0] 37 (0, 0)) (by (with_reducible repeat (first | refine z1l ?_ _ | refine z3l ?_ | refine z2l ?_ _)); exact BK270.out) hb); have n6_ := z0l (y5l (g := gb283) (o := .cells #[.slice Ao30 y280.length co30] 28 (0, 0)) (by (with_reducible repeat (first | refine z1l ?_ _ | refine z3l ?_ | refine z2l ?_ _)); exact BK283.out) hb); have n7_ := z0l (y6l (by repeat (first | (with_reducible first | exact HB.out | apply z4l | apply z5l | apply z6l | refine z7l ?_ GE269.out | refine z7l ?_ GE270.out | refine z7l ?_ GE283.out) | exact HB.out)) hb); clear HO_5; clear HO_6; clear Ha_; clear BK269; clear BK270; clear BK283; clear HB; have HO_5 := n0_; have HO_6 := n1_; have Ha_ := n2_; have HO295 := n3_; have BK269 := n4_; have BK270 := n5_; have BK283 := n6_; have HB := n7_; clear n0_ n1_ n2_ n3_ n4_ n5_ n6_ n7_; clear hb ho54; obtain ⟨Ao55, co55, eo55⟩ := Kd.R_slice HO295.out; subst eo55) | ((with_reducible refine gate_dst (N := 9) rfl ?_); refine box_event ?hg (N := 9) ?hd (cs := #[.int .i64 0, .int .i64 0, .slice none 0 0]) (t := 37) ?hr ?_; (case hd => rfl); (case hg => rfl); (case hr => first | (go_simp; done) | (go_simp; rfl)); intro gb296 hg w56 hbox hb; have n0_ := z0l (x4l (by (with_reducible repeat (first | apply z8l | apply z9l | apply y1l)); exact HO_5.out) hb); have n1_ := z0l (x4l (by (with_reducible repeat (first | apply z8l | apply z9l | apply y1l)); exact HO_6.out) hb); have n2_ := z0l (x4l (by (with_reducible repeat (first | apply z8l | apply z9l | apply y1l)); exact Ha_.out) hb); have n3_ := z0l (x4l (by (with_reducible repeat (first | apply z8l | apply z9l | apply y1l)); exact HO295.out) hb); have n4_ := z0l (y5l (g := gb269) (o := .cells #[.int .i64 a0_0, .int .i64 a0_1] 24 (0, 0)) (by (with_reducible repeat (first | refine z1l ?_ _ | refine z3l ?_ | refine z2l ?_ _)); exact BK269.out) hb); have n5_ := z0l (y5l (g := gb270) (o := .cells #[.int .i64 0, .int .i64 0, .slice none 0 0] 37 (0, 0)) (by (with_reducible repeat (first | refine z1l ?_ _ | refine z3l ?_ | refine z2l ?_ _)); exact BK270.out) hb); have n6_ := z0l (y5l (g := gb283) (o := .cells #[.slice Ao30 y280.length co30] 28 (0, 0)) (by (with_reducible repeat (first | refine z1l ?_ _ | refine z3l ?_ | refine z2l ?_ _)); exact BK283.out) hb); have n7_ := z0l (y6l (by repeat (first | (with_reducible first | exact HB.out | apply z4l | apply z5l | apply z6l | refine z7l ?_ GE269.out | refine z7l ?_ GE270.out | refine z7l ?_ GE283.out) | exact HB.out)) hb); have n8_ := z0l (hbox); have n9_ := z0l ((by rw [hg]; exact (y7l (by repeat (first | (with_reducible first | exact HB.out | apply z4l | apply z5l | apply z6l | refine z7l ?_ GE269.out | refine z7l ?_ GE270.out | refine z7l ?_ GE283.out) | exact HB.out))) : w.heap.size ≤ gb296)); have n10_ := z0l ((by rw [hg]; exact (y7l (by repeat (first | (with_reducible first | exact HB.out | apply z4l | apply z5l | apply z6l | refine z7l ?_ GE269.out | refine z7l ?_ GE270.out | refine z7l ?_ GE283.out) | exact HB.out))) : w.heap.size ≤ gb296)); have n11_ := z0l ((by rw [hg]; exact Nat.ne_of_lt (blk_lt (g := gb269) (o := .cells #[.int .i64 a0_0, .int .i64 a0_1] 24 (0, 0)) (by (with_reducible repeat (first | refine z1l ?_ _ | refine z3l ?_ | refine z2l ?_ _)); exact BK269.out)) : gb269 ≠ gb296)); have n12_ := z0l ((by rw [hg]; exact Nat.ne_of_gt (blk_lt (g := gb269) (o := .cells #[.int .i64 a0_0, .int .i64 a0_1] 24 (0, 0)) (by (with_reducible repeat (first | refine z1l ?_ _ | refine z3l ?_ | refine z2l ?_ _)); exact BK269.out)) : gb296 ≠ gb269)); have n13_ := z0l ((by rw [hg]; exact Nat.ne_of_lt (blk_lt (g := gb270) (o := .cells #[.int .i64 0, .int .i64 0, .slice none 0 0] 37 (0, 0)) (by (with_reducible repeat (first | refine z1l ?_ _ | refine z3l ?_ | refine z2l ?_ _)); exact BK270.out)) : gb270 ≠ gb296)); have n14_ := z0l ((by rw [hg]; exact Nat.ne_of_gt (blk_lt (g := gb270) (o := .cells #[.int .i64 0, .int .i64 0, .slice none 0 0] 37 (0, 0)) (by (with_reducible repeat (first | refine z1l ?_ _ | refine z3l ?_ | refine z2l ?_ _)); exact BK270.out)) : gb296 ≠ gb270)); have n15_ := z0l ((by rw [hg]; exact Nat.ne_of_lt (blk_lt (g := gb283) (o := .cells #[.slice Ao30 y280.length co30] 28 (0, 0)) (by (with_reducible repeat (first | refine z1l ?_ _ | refine z3l ?_ | refine z2l ?_ _)); exact BK283.out)) : gb283 ≠ gb296)); have n16_ := z0l ((by rw [hg]; exact Nat.ne_of_gt (blk_lt (g := gb283) (o := .cells #[.slice Ao30 y280.length co30] 28 (0, 0)) (by (with_reducible repeat (first | refine z1l ?_ _ | refine z3l ?_ | refine z2l ?_ _)); exact BK283.out)) : gb296 ≠ gb283)); clear HO_5; clear HO_6; clear Ha_; clear HO295; clear BK269; clear BK270; clear BK283; clear HB; have HO_5 := n0_; have HO_6 := n1_; have Ha_ := n2_; have HO295 := n3_; have BK269 := n4_; have BK270 := n5_; have BK283 := n6_; have HB := n7_; have BK296 := n8_; have GW296 := n9_; have GE296 := n10_; have NB269_296 := n11_; have NB296_269 := n12_; have NB270_296 := n13_; have NB296_270 := n14_; have NB283_296 := n15_; have NB296_283 := n16_; clear n0_ n1_ n2_ n3_ n4_ n5_ n6_ n7_ n8_ n9_ n10_ n11_ n12_ n13_ n14_ n15_ n16_; clear hb hbox hg; have hnb57 := NB296_269.out; have hnc57 := NB269_296.out; have hnb58 := NB296_270.out; have hnc58 := NB270_296.out; have hnb59 := NB296_283.out; have hnc59 := NB283_296.out; have hcz60_0 : w56.cell? ⟨gb296, 0, none⟩ = some (.int .i64 0) := (x3l BK296.out 0).trans rfl; have hcz60_1 : w56.cell? ⟨gb296, 1, none⟩ = some (.int .i64 0) := (x3l BK296.out 1).trans rfl; have hcz60_2 : w56.cell? ⟨gb296, 2, none⟩ = some (.slice none 0 0) := (x3l BK296.out 2).trans rfl; have hfz60_0 := x2l BK296.out 0; have hfz60_1 := x2l BK296.out 1; have hfz60_2 := x2l BK296.out 2))
         (try simp only [Act.put, s1l_, s2l_, s3l_])
         go_loopg [64] k2 (fun kq v64 w' => ∃ (x62_3 : List Int) (x64_3 : Int) (x284000_3 : List Int) (x297002_3 : List Int) (u284000 : Value) (u297002 : Value), v64 = .int .i64 x64_3 ∧ Aside0 (impl_SpotMatrix.l1 kq x62_3 (x6_2.length : Int) x64_3 t271 t271 x297002_3 = some (r1, r2, r3, r4)) ∧ Aside0 (kq ≤ k2) ∧ Aside0 (Kd.R (Kd.int .i64) 3 w' w.heap.size (fun k_ => some k_ ≠ (u284000 : Value).ownBlock ∧ some k_ ≠ (u297002 : Value).ownBlock) (.slice Ao51 x6_2.length co51) x62_3) ∧ Aside0 (Kd.R (Kd.int .i64) 3 w' w.heap.size (fun k_ => some k_ ≠ ((.slice Ao51 x6_2.length co51) : Value).ownBlock ∧ some k_ ≠ (u297002 : Value).ownBlock) u284000 x284000_3) ∧ Aside0 (Kd.R (Kd.int .i64) 3 w' w.heap.size (fun k_ => some k_ ≠ ((.slice Ao51 x6_2.length co51) : Value).ownBlock ∧ some k_ ≠ (u284000 : Value).ownBlock) u297002 x297002_3) ∧ Aside0 (w'.heap[gb269]? = some (.cells #[.int .i64 a0_0, .int .i64 a0_1] 24 (0, 0))) ∧ Aside0 (w'.heap[gb270]? = some (.cells #[.int .i64 0, .int .i64 0, (.slice none 0 0)] 37 (0, 0))) ∧ Aside0 (w'.heap[gb283]? = some (.cells #[u284000] 28 (0, 0))) ∧ Aside0 (w'.heap[gb296]? = some (.cells #[.int .i64 t271, .int .i64 t271, u297002] 37 (0, 0))) ∧ Aside0 (Below w.heap.size w w'))
         case atStart => exact ⟨(t292), (0), (y280), (y293), (.slice Ao30 y280.length co30), (.slice Ao55 y293.length co55), (by first | rfl | (simp; done) | (simp [*]; done)), H', ⟨Nat.le_refl _⟩, ⟨by (with_reducible repeat (first | apply z8l | apply z9l | apply y1l)); exact x6l (x1l (p := ⟨gb296, 2, none⟩) (x1l (p := ⟨gb296, 1, none⟩) (x1l (p := ⟨gb296, 0, none⟩) (x7l HO_6.out BK296.out (by decide)) (fun _ hk => hk.2) (.int .i64 t271)) (fun _ hk => hk.2) (.int .i64 t271)) (fun _ hk => hk.2) (.slice Ao55 y293.length co55)) (fun _ hk => ⟨hk.1.1.2, hk.1.2⟩)⟩, ⟨by (with_reducible repeat (first | apply z8l | apply z9l | apply y1l)); exact x6l (x1l (p := ⟨gb296, 2, none⟩) (x1l (p := ⟨gb296, 1, none⟩) (x1l (p := ⟨gb296, 0, none⟩) (x7l Ha_.out BK296.out (by decide)) (fun _ hk => hk.2) (.int .i64 t271)) (fun _ hk => hk.2) (.int .i64 t271)) (fun _ hk => hk.2) (.slice Ao55 y293.length co55)) (fun _ hk => ⟨hk.1.1.2, hk.1.2⟩)⟩, ⟨by (with_reducible repeat (first | apply z8l | apply z9l | apply y1l)); exact x6l (x1l (p := ⟨gb296, 2, none⟩) (x1l (p := ⟨gb296, 1, none⟩) (x1l (p := ⟨gb296, 0, none⟩) (x7l HO295.out BK296.out (by decide)) (fun _ hk => hk.2) (.int .i64 t271)) (fun _ hk => hk.2) (.int .i64 t271)) (fun _ hk => hk.2) (.slice Ao55 y293.length co55)) (fun _ hk => ⟨hk.1.1.2, hk.1.2⟩)⟩, ⟨by (with_reducible repeat (first | refine z1l ?_ _ | refine z3l ?_ | refine z2l ?_ _)); refine x8l ?_ NB269_296.out _; (with_reducible repeat (first | refine z1l ?_ _ | refine z3l ?_ | refine z2l ?_ _)); refine x8l ?_ NB269_296.out _; (with_reducible repeat (first | refine z1l ?_ _ | refine z3l ?_ | refine z2l ?_ _)); refine x8l ?_ NB269_296.out _; (with_reducible repeat (first | refine z1l ?_ _ | refine z3l ?_ | refine z2l ?_ _)); exact BK269.out⟩, ⟨by (with_reducible repeat (first | refine z1l ?_ _ | refine z3l ?_ | refine z2l ?_ _)); refine x8l ?_ NB270_296.out _; (with_reducible repeat (first | refine z1l ?_ _ | refine z3l ?_ | refine z2l ?_ _)); refine x8l ?_ NB270_296.out _; (with_reducible repeat (first | refine z1l ?_ _ | refine z3l ?_ | refine z2l ?_ _)); refine x8l ?_ NB270_296.out _; (with_reducible repeat (first | refine z1l ?_ _ | refine z3l ?_ | refine z2l ?_ _)); exact BK270.out⟩, ⟨by (with_reducible repeat (first | refine z1l ?_ _ | refine z3l ?_ | refine z2l ?_ _)); refine x8l ?_ NB283_296.out _; (with_reducible repeat (first | refine z1l ?_ _ | refine z3l ?_ | refine z2l ?_ _)); refine x8l ?_ NB283_296.out _; (with_reducible repeat (first | refine z1l ?_ _ | refine z3l ?_ | refine z2l ?_ _)); refine x8l ?_ NB283_296.out _; (with_reducible repeat (first | refine z1l ?_ _ | refine z3l ?_ | refine z2l ?_ _)); exact BK283.out⟩, ⟨by (with_reducible repeat (first | refine z1l ?_ _ | refine z3l ?_ | refine z2l ?_ _)); refine blk_put (cs := #[.int .i64 t271, .int .i64 t271, .slice none 0 0]) ?_ 2 _ rfl; (with_reducible repeat (first | refine z1l ?_ _ | refine z3l ?_ | refine z2l ?_ _)); refine blk_put (cs := #[.int .i64 t271, .int .i64 0, .slice none 0 0]) ?_ 1 _ rfl; (with_reducible repeat (first | refine z1l ?_ _ | refine z3l ?_ | refine z2l ?_ _)); refine blk_put (cs := #[.int .i64 0, .int .i64 0, .slice none 0 0]) ?_ 0 _ rfl; (with_reducible repeat (first | refine z1l ?_ _ | refine z3l ?_ | refine z2l ?_ _)); exact BK296.out⟩, ⟨by repeat (first | (with_reducible first | exact HB.out | apply z4l | apply z5l | apply z6l | refine z7l ?_ GE269.out | refine z7l ?_ GE270.out | refine z7l ?_ GE283.out | refine z7l ?_ GE296.out) | exact HB.out)⟩⟩
         case round =>
          clear H'
          try clear c1
          try clear c2
          try clear p2
          try clear q2
          try clear hx2
          try clear c3
          try clear c4
          try clear c5
          try clear c6
          try clear p6
          try clear c10
          try clear c12
          try clear c15
          try clear c18
          try clear c19
          try clear c21
          try clear c22
          try clear p28
          try clear q28
          try clear hx28
          try clear c31
          try clear c32
          try clear c34
          try clear c34b0
          try clear c35
          try clear c36
          try clear c36b0
          try clear c36b1
          try clear c38
          try clear c38b0
          try clear c39
          try clear c39b0
          try clear c40
          try clear c44
          try clear c47
          try clear c49
          try clear c49b0
          try clear c49b1
          try clear c50
          try clear c50b0
          try clear c50b1
          try clear c57
          try clear c58
          try clear c59
          try clear hcz13_0
          try clear hcz13_1
          try clear hcz16_0
          try clear hcz16_1
          try clear hcz20_0
          try clear hcz20_1
          try clear hcz20_2
          try clear hcz23_0
          try clear hcz23_1
          try clear hcz33_0
          try clear hcz60_0
          try clear hcz60_1
          try clear hcz60_2
          try clear hcz7_0
          try clear hcz7_1
          try clear hfz13_0
          try clear hfz13_1
          try clear hfz16_0
          try clear hfz16_1
          try clear hfz20_0
          try clear hfz20_1
          try clear hfz20_2
          try clear hfz23_0
          try clear hfz23_1
          try clear hfz33_0
          try clear hfz60_0
          try clear hfz60_1
          try clear hfz60_2
          try clear hfz7_0
          try clear hfz7_1
          try clear hx288_0
          try clear p2
          try clear p288
          try clear p6
          try clear q288
          obtain ⟨x62_3, x64_3, x284000_3, x297002_3, u284000, u297002, rfl, HA, HK3, HO_62, Ha_, Hb_, BK269, BK270, BK283, BK296, HB⟩ := hrel
          have hl62_3 := (Kd.R_reads' HO_62.out).1
          rw [hl62_3] at HO_62
          (try simp only [hl62_3])
          (try simp only [hl62_3] at BK269)
          (try simp only [hl62_3] at BK270)
          (try simp only [hl62_3] at BK283)
          (try simp only [hl62_3] at BK296)
          (try simp only [hl62_3] at Ha_)
          (try simp only [hl62_3] at Hb_)
          cases gk with
          | zero => exact absurd HA.out (by simp [impl_SpotMatrix.l1])
          | succ k3 =>
           have H := HA.out
           clear HA
           simp only [impl_SpotMatrix.l1] at H
           by_cases c61 : x64_3 < (x6_2.length : Int)
           ·rw [if_pos c61] at H
            have c61b0 : decide (x64_3 < (x6_2.length : Int)) = true := decide_eq_true c61
            try (have c61h_ := c61b0; rw [hl62_3] at c61h_)
            clear c61
            by_cases c62 : 0 ≤ x64_3
            ·rw [if_pos c62] at H
             have c62b0 : decide (0 ≤ x64_3) = true := decide_eq_true c62
             clear c62
             by_cases c63 : x64_3 < (x62_3.length : Int)
             ·rw [if_pos c63] at H
              have c63b0 : decide (x64_3 < (x62_3.length : Int)) = true := decide_eq_true c63
              clear c63
              by_cases c64 : 0 ≤ (rd x62_3 x64_3)
              ·rw [if_pos c64] at H
               have c64b0 : decide (0 ≤ (rd x62_3 x64_3)) = true := decide_eq_true c64
               clear c64
               by_cases c65 : (rd x62_3 x64_3) < (x297002_3.length : Int)
               ·rw [if_pos c65] at H
                have c65b0 : decide ((rd x62_3 x64_3) < (x297002_3.length : Int)) = true := decide_eq_true c65
                clear c65
                obtain ⟨y298, hy298⟩ : ∃ y_ : List Int, y_ = (x297002_3.set ((rd x62_3 x64_3) : Int).toNat x64_3) := ⟨_, rfl⟩
                replace H : (impl_SpotMatrix.l1 k3 x62_3 (x6_2.length : Int) (wrap64 (x64_3 + 1)) t271 t271 y298) = some (r1, r2, r3, r4) := by first | (rw [hy298]; with_reducible exact H) | (have H2_ := (Option.bind_some _ _).symm.trans H; rw [hy298]; with_reducible exact H2_) | (have H2_ := (Option.bind_some _ _).symm.trans H; with_reducible exact H2_) | with_reducible exact H | (rw [hy298]; exact H) | exact H
                have Ny298 := z0l hy298
                clear hy298
                have H' := z0l H
                clear H
                have p297 : 0 ≤ (x64_3 : Int) := of_decide_eq_true (by first | (with_reducible assumption) | assumption)
                have q297 : x64_3 < (x62_3.length : Int) := of_decide_eq_true (by first | (with_reducible assumption) | assumption)
                (try (obtain ⟨Az297_, cz297_, ez297_⟩ := Kd.R_slice HO_62.out; subst ez297_))
                obtain ⟨ad297, e297, hx297_0⟩ := Kd.at_int (Kd.R_reads' HO_62.out).2.2 x64_3 p297 q297
                cases e297
                replace p297 := eq_true p297
                replace q297 := eq_true q297
                have hnb67 := NB296_269.out
                have hnc67 := NB269_296.out
                have hnb68 := NB296_270.out
                have hnc68 := NB270_296.out
                have hnb69 := NB296_283.out
                have hnc69 := NB283_296.out
                have hcz70_0 : wr.cell? ⟨gb296, 0, none⟩ = some (.int .i64 t271) := (x3l BK296.out 0).trans rfl
                have hcz70_1 : wr.cell? ⟨gb296, 1, none⟩ = some (.int .i64 t271) := (x3l BK296.out 1).trans rfl
                have hcz70_2 : wr.cell? ⟨gb296, 2, none⟩ = some (u297002) := (x3l BK296.out 2).trans rfl
                have hfz70_0 := x2l BK296.out 0
                have hfz70_1 := x2l BK296.out 1
                have hfz70_2 := x2l BK296.out 2
                have p66 : 0 ≤ ((rd x62_3 x64_3) : Int) := of_decide_eq_true (by first | (with_reducible assumption) | assumption)
                have q66 : ((rd x62_3 x64_3) : Int) < ((x297002_3.length : Int) : Int) := of_decide_eq_true (by first | (with_reducible assumption) | assumption)
                obtain ⟨go66, co66, eo66, gb66, gl66, cl66, HG66⟩ := Kd.R_form Hb_.out (by omega)
                (first | cases eo66 | (injection eo66 with ea_ en_ ec_; (first | subst ea_ | (injection ea_ with ea_; subst ea_)); subst ec_; clear en_))
                have GB66 := z0l gb66
                have GG66 := z0l HG66
                clear gb66 gl66 HG66
                obtain ⟨hx66_0, hf66_0⟩ := Kd.R_celln 0 Hb_.out ((rd x62_3 x64_3) : Int) p66 q66
                replace p66 := eq_true p66
                replace q66 := eq_true q66
                have HP71 := Kd.R_putg Hb_.out ((rd x62_3 x64_3) : Int) x64_3
                go_wp2_with (first | ((with_reducible refine gate_store (t := 3) (p := 73) rfl ?_); refine store_event (t := 3) (p := 73) (v := ?vo_w72) (w1 := (wr.setCell ⟨go66, ((rd x62_3 x64_3) : Int).toNat, none⟩ (.int .i64 x64_3))) ?hg ?ho ?hn ?hr ?_; (case ho => rfl); (case hg => rfl); (case hn => rfl); (case hr => first | (go_simp; done) | (go_simp; rfl)); intro w72 hw; have hg : wr.grownBy w72 (some go66) := (by rw [hw]; exact HP71.2); have hp_ : Kd.R (Kd.int .i64) 3 w72 w.heap.size (fun k_ => some k_ ≠ (.slice (some ad297) x62_3.length co51 : Value).ownBlock ∧ some k_ ≠ (u284000 : Value).ownBlock) (.slice (some ⟨go66, 0, none⟩) x297002_3.length co66) y298 := (by rw [hw, Ny298.out]; exact HP71.1); clear HP71; have n0_ := z0l (Kd.R_after (v := (.slice (some ⟨go66, 0, none⟩) x297002_3.length co66)) (v1 := (.slice (some ⟨go66, 0, none⟩) x297002_3.length co66)) (ok := (fun k_ => some k_ ≠ (u284000 : Value).ownBlock)) (by (with_reducible repeat (first | apply z8l | apply z9l | apply y1l)); exact HO_62.out) hg (.inl rfl)); have n1_ := z0l (Kd.R_after (v := (.slice (some ⟨go66, 0, none⟩) x297002_3.length co66)) (v1 := (.slice (some ⟨go66, 0, none⟩) x297002_3.length co66)) (ok := (fun k_ => some k_ ≠ (.slice (some ad297) x62_3.length co51 : Value).ownBlock)) (by (with_reducible repeat (first | apply z8l | apply z9l | apply y1l)); exact Ha_.out) hg (.inl rfl)); have n2_ := z0l (hp_); have n3_ := z0l (blk_grown (g := gb269) (o := .cells #[.int .i64 a0_0, .int .i64 a0_1] 24 (0, 0)) (by (with_reducible repeat (first | refine z1l ?_ _ | refine z3l ?_ | refine z2l ?_ _)); exact BK269.out) hg (x9l Hb_.out BK269.out (by decide))); have n4_ := z0l (blk_grown (g := gb270) (o := .cells #[.int .i64 0, .int .i64 0, .slice none 0 0] 37 (0, 0)) (by (with_reducible repeat (first | refine z1l ?_ _ | refine z3l ?_ | refine z2l ?_ _)); exact BK270.out) hg (x9l Hb_.out BK270.out (by decide))); have n5_ := z0l (blk_grown (g := gb283) (o := .cells #[u284000] 28 (0, 0)) (by (with_reducible repeat (first | refine z1l ?_ _ | refine z3l ?_ | refine z2l ?_ _)); exact BK283.out) hg (x9l Hb_.out BK283.out (by decide))); have n6_ := z0l (blk_grown (g := gb296) (o := .cells #[.int .i64 t271, .int .i64 t271, .slice (some ⟨go66, 0, none⟩) x297002_3.length co66] 37 (0, 0)) (by (with_reducible repeat (first | refine z1l ?_ _ | refine z3l ?_ | refine z2l ?_ _)); exact BK296.out) hg (x9l Hb_.out BK296.out (by decide))); have n7_ := z0l ((by rw [hw]; exact z7l (HB.out) GB66.out : Below w.heap.size w w72)); clear HO_62; clear Ha_; clear Hb_; clear BK269; clear BK270; clear BK283; clear BK296; clear HB; have HO_62 := n0_; have Ha_ := n1_; have Hb_ := n2_; have BK269 := n3_; have BK270 := n4_; have BK283 := n5_; have BK296 := n6_; have HB := n7_; clear n0_ n1_ n2_ n3_ n4_ n5_ n6_ n7_; clear hg hw hp_))
                (try simp only [← hl62_3])
                go_roundg k3
                case measure => have := HJ2.out; have := HK2.out; have := HK3.out; omega
                case rel => exact ⟨(x62_3), (wrap64 (x64_3 + 1)), (x284000_3), (y298), (u284000), (.slice (some ⟨go66, 0, none⟩) x297002_3.length co66), (by first | rfl | (simp; done) | (simp [*]; done)), H', ⟨by have := HJ2.out; have := HK2.out; have := HK3.out; omega⟩, ⟨by (try simp only [hl62_3]); (with_reducible repeat (first | apply z8l | apply z9l | apply y1l)); exact HO_62.out⟩, ⟨by (try simp only [hl62_3]); (with_reducible repeat (first | apply z8l | apply z9l | apply y1l)); exact Ha_.out⟩, ⟨by (try simp only [hl62_3]); (with_reducible repeat (first | apply z8l | apply z9l | apply y1l)); exact Hb_.out⟩, ⟨by (try simp only [hl62_3]); (with_reducible repeat (first | refine z1l ?_ _ | refine z3l ?_ | refine z2l ?_ _)); exact BK269.out⟩, ⟨by (try simp only [hl62_3]); (with_reducible repeat (first | refine z1l ?_ _ | refine z3l ?_ | refine z2l ?_ _)); exact BK270.out⟩, ⟨by (try simp only [hl62_3]); (with_reducible repeat (first | refine z1l ?_ _ | refine z3l ?_ | refine z2l ?_ _)); exact BK283.out⟩, ⟨by (try simp only [hl62_3]); (with_reducible repeat (first | refine z1l ?_ _ | refine z3l ?_ | refine z2l ?_ _)); exact BK296.out⟩, ⟨by repeat (first | (with_reducible first | exact HB.out | apply z4l | apply z5l | apply z6l | refine z7l ?_ GE269.out | refine z7l ?_ GE270.out | refine z7l ?_ GE283.out | refine z7l ?_ GE296.out) | exact HB.out)⟩⟩
               ·rw [if_neg c65] at H
                exact absurd H (by simp)
              ·rw [if_neg c64] at H
               exact absurd H (by simp)
             ·rw [if_neg c63] at H
              exact absurd H (by simp)
            ·rw [if_neg c62] at H
             exact absurd H (by simp)
           ·rw [if_neg c61] at H
            have c61b0 : decide (x64_3 < (x6_2.length : Int)) = false := decide_eq_false c61
            try (have c61h_ := c61b0; rw [hl62_3] at c61h_)
            clear c61
            simp only [Option.some.injEq, Prod.mk.injEq] at H
            obtain ⟨rfl, rfl, rfl, rfl⟩ := H
            have hnb73 := NB296_269.out
            have hnc73 := NB269_296.out
            have hnb74 := NB296_270.out
            have hnc74 := NB270_296.out
            have hnb75 := NB296_283.out
            have hnc75 := NB283_296.out
            have hcz76_0 : wr.cell? ⟨gb296, 0, none⟩ = some (.int .i64 t271) := (x3l BK296.out 0).trans rfl
            have hcz76_1 : wr.cell? ⟨gb296, 1, none⟩ = some (.int .i64 t271) := (x3l BK296.out 1).trans rfl
            have hcz76_2 : wr.cell? ⟨gb296, 2, none⟩ = some (u297002) := (x3l BK296.out 2).trans rfl
            have hfz76_0 := x2l BK296.out 0
            have hfz76_1 := x2l BK296.out 1
            have hfz76_2 := x2l BK296.out 2
            have hnb77 := NB270_269.out
            have hnc77 := NB269_270.out
            have hnb78 := NB270_283.out
            have hnc78 := NB283_270.out
            have hcz79_0 : wr.cell? ⟨gb270, 0, none⟩ = some (.int .i64 0) := (x3l BK270.out 0).trans rfl
            have hcz79_1 : wr.cell? ⟨gb270, 1, none⟩ = some (.int .i64 0) := (x3l BK270.out 1).trans rfl
            have hcz79_2 : wr.cell? ⟨gb270, 2, none⟩ = some (.slice none 0 0) := (x3l BK270.out 2).trans rfl
            have hfz79_0 := x2l BK270.out 0
            have hfz79_1 := x2l BK270.out 1
            have hfz79_2 := x2l BK270.out 2
            obtain ⟨Ao80, co80, eo80⟩ := Kd.R_slice Hb_.out
            subst eo80
            go_wp2
            refine bodyPost_ret (results_ct rfl _ _ gb270 37 #[.int .i64 t271, .int .i64 t271, .slice Ao80 x297002_3.length co80] (0, 0) _ rfl (by (with_reducible repeat (first | refine z1l ?_ _ | refine z3l ?_ | refine z2l ?_ _)); refine blk_put (cs := #[.int .i64 t271, .int .i64 t271, .slice none 0 0]) ?_ 2 _ rfl; (with_reducible repeat (first | refine z1l ?_ _ | refine z3l ?_ | refine z2l ?_ _)); refine blk_put (cs := #[.int .i64 t271, .int .i64 0, .slice none 0 0]) ?_ 1 _ rfl; (with_reducible repeat (first | refine z1l ?_ _ | refine z3l ?_ | refine z2l ?_ _)); refine blk_put (cs := #[.int .i64 0, .int .i64 0, .slice none 0 0]) ?_ 0 _ rfl; (with_reducible repeat (first | refine z1l ?_ _ | refine z3l ?_ | refine z2l ?_ _)); exact BK270.out) Try.underlying37 rfl (by kernel_rfl)) rfl ?_
            exact ⟨_, by first | rfl | (simp [errW_none, errW_some] <;> rfl) | (simp [*, errW_none, errW_some] <;> rfl), by (with_reducible repeat (first | apply z8l | apply z9l | apply y1l)); exact x6l (x1l (p := ⟨gb270, 2, none⟩) (x1l (p := ⟨gb270, 1, none⟩) (x1l (p := ⟨gb270, 0, none⟩) (x7l Hb_.out BK270.out (by decide)) (fun _ hk => hk.2) (.int .i64 t271)) (fun _ hk => hk.2) (.int .i64 t271)) (fun _ hk => hk.2) (.slice Ao80 x297002_3.length co80)) (fun _ hk => trivial), by repeat (first | (with_reducible first | exact HB.out | apply z4l | apply z5l | apply z6l | refine z7l ?_ GE269.out | refine z7l ?_ GE270.out | refine z7l ?_ GE283.out | refine z7l ?_ GE296.out) | exact HB.out)⟩
        ·rw [if_neg c50] at H
         exact absurd H (by simp)
       ·rw [if_neg c49] at H
        exact absurd H (by simp)

end Go.Proofs.Ytkkcedkiohefmaa.PFnSpotMatrix
