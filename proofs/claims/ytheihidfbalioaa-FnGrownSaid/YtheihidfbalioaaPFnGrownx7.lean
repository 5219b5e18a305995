/- Machine side of laws FnGrown: written for this claim by the kit's print program under this session's wip/tools/mp_setup.py (with contracts of the session's own, wip/ext). -/
import Derived.Test.YtheihidfbalioaaPFnGrownx0
import Derived.Test.YtheihidfbalioaaPFnGrownx2
import Derived.Test.YtheihidfbalioaaPFnGrownx3
import Derived.Test.YtheihidfbalioaaPFnGrownx4
import Derived.Test.YtheihidfbalioaaPFnGrownx5
import Derived.Test.YtheihidfbalioaaPFnGrownx6
namespace Go.Proofs.Ytheihidfbalioaa.PFnGrown
open Go.RowKit Go.Proofs.YtheihidfbalioaaW.PrintWords Go.Proofs.YtheihidfbalioaaW.PrintLast Go.Proofs.YtheihidfbalioaaW.PrintMore
attribute [local go_sem] max2_int min2_int max_two min_two max_three min_three max_four min_four   -- for this text's walks alone
set_option linter.unusedVariables false
set_option linter.unusedSimpArgs false
-- squeezed: words under short names
set_option linter.defProp false in
def z0 := @Aside0.mk
set_option linter.defProp false in
def z1 := @blk_drewN
set_option linter.defProp false in
def z2 := @blk_alloc
set_option linter.defProp false in
def z3 := @blk_drew
set_option linter.defProp false in
def z4 := @below_alloc
set_option linter.defProp false in
def z5 := @pw_below_drewN
set_option linter.defProp false in
def z6 := @below_drew1
set_option linter.defProp false in
def z7 := @below_set
set_option linter.defProp false in
def z8 := @Kd.R_alloc
set_option linter.defProp false in
def z9 := @Kd.R_drewN
set_option linter.defProp false in
def y1 := @Kd.R_drew
set_option linter.defProp false in
def y2 := @Kd.C_alloc
set_option linter.defProp false in
def y3 := @Kd.C_drewN
set_option linter.defProp false in
def y4 := @Kd.C_drew
set_option linter.defProp false in
def y5 := @blk_below
set_option linter.defProp false in
def y6 := @below_step
set_option linter.defProp false in
def y7 := @below_size
set_option linter.defProp false in
def y8 := @Kd.R_elder'
set_option linter.defProp false in
def x1 := @Kd.R_far
set_option linter.defProp false in
def x2 := @blk_frozen
set_option linter.defProp false in
def x3 := @blk_cell
set_option linter.defProp false in
def x4 := @Kd.R_below
set_option linter.defProp false in
def x5 := @Kd.R_reads'
set_option linter.defProp false in
def x6 := @Kd.R_mono
set_option linter.defProp false in
def x7 := @Kd.R_types
set_option linter.defProp false in
def x8 := @blk_far
set_option linter.defProp false in
def w2_ := @Kd.R_base

/-! ### laws_FnGrown: function 12 -/
def laws_FnGrown.j0 : Nat → Bool → Int → Int → List Int → Int → Int → List Int → Int → Int → List Int → Option (Bool)
 | 0, _, _, _, _, _, _, _, _, _, _ => none
 | k + 1, x33, x283000, x283001, x283002, x289000, x289001, x289002, x295000, x295001, x295002 => if x33 = true then (some false) else ((spec_NegativePicture.f k x283000 x283001 x283002).bind fun bt303 => ((impl_GainOf.f k x283000 x283001 x283002).bind fun t309 => ((spec_NegativePicture.f k x295000 x295001 x295002).bind fun bt310 => ((impl_GrowPlate.f bt303.1 bt303.2.1 bt303.2.2).bind fun bt315 => ((laws_same.f k bt310.1 bt310.2.1 bt310.2.2 bt315.1 bt315.2.1 bt315.2.2).bind fun t320 => (if t320 = true then ((impl_SumInk.f k x289000 x289001 x289002).bind fun t321 => ((laws_total.f k x283002).bind fun t322 => (if t309 = (wrap64 (t321 - t322)) then (if t309 ≥ 0 then ((laws_total.f k x283002).bind fun t323 => (some (decide (t309 ≤ (wrap64 (4 * t323)))))) else (some false)) else (some false)))) else (some false)))))))
def laws_FnGrown.f (k : Nat) (l0 : List Int) : Option (Bool) := if (l0.length : Int) > 1048576 then (some true) else ((spec_MakePlate.f k l0 8).bind fun bt277 => ((impl_GrowPlate.f bt277.1 bt277.2.1 bt277.2.2).bind fun bt283 => ((impl_ShrinkPlate.f bt277.1 bt277.2.1 bt277.2.2).bind fun bt289 => ((impl_CoversPicture.f k bt283.1 bt283.2.1 bt283.2.2 bt277.1 bt277.2.1 bt277.2.2).bind fun t295 => (if t295 = true then ((impl_CoversPicture.f k bt277.1 bt277.2.1 bt277.2.2 bt289.1 bt289.2.1 bt289.2.2).bind fun t296 => (if t296 = true then ((impl_ShrinkPlate.f bt283.1 bt283.2.1 bt283.2.2).bind fun bt297 => ((impl_CoversPicture.f k bt297.1 bt297.2.1 bt297.2.2 bt277.1 bt277.2.1 bt277.2.2).bind fun t302 => (laws_FnGrown.j0 k (!t302) bt277.1 bt277.2.1 bt277.2.2 bt283.1 bt283.2.1 bt283.2.2 bt289.1 bt289.2.1 bt289.2.2))) else (laws_FnGrown.j0 k true bt277.1 bt277.2.1 bt277.2.2 bt283.1 bt283.2.1 bt283.2.2 bt289.1 bt289.2.1 bt289.2.2))) else (laws_FnGrown.j0 k true bt277.1 bt277.2.1 bt277.2.2 bt283.1 bt283.2.1 bt283.2.2 bt289.1 bt289.2.1 bt289.2.2))))))
theorem laws_FnGrown.mono_l : ∀ k, (∀ y0 y1 y2 y3 y4 y5 y6 y7 y8 y9, LeO (laws_FnGrown.j0 k y0 y1 y2 y3 y4 y5 y6 y7 y8 y9) (laws_FnGrown.j0 (k + 1) y0 y1 y2 y3 y4 y5 y6 y7 y8 y9))
 | 0 => fun _ _ _ _ _ _ _ _ _ _ r h => by simp [laws_FnGrown.j0] at h
 | k + 1 => by
  have ih0 := laws_FnGrown.mono_l k
  ·intro y0 y1 y2 y3 y4 y5 y6 y7 y8 y9
   unfold laws_FnGrown.j0
   repeat' first
   | (with_reducible exact ih0 _ _ _ _ _ _ _ _ _ _)
   | (with_reducible exact impl_CoversPicture.mono _ _ _ _ _ _ _)
   | (with_reducible exact impl_GainOf.mono _ _ _ _)
   | (with_reducible exact impl_SumInk.mono _ _ _ _)
   | (with_reducible exact laws_same.mono _ _ _ _ _ _ _)
   | (with_reducible exact laws_total.mono _ _)
   | (with_reducible exact spec_MakePlate.mono _ _ _)
   | (with_reducible exact spec_NegativePicture.mono _ _ _ _)
   | (with_reducible exact LeO.refl _)
   | (with_reducible exact LeO.none _)
   | (with_reducible refine LeO.ite ?_ ?_)
   | (with_reducible refine LeO.bind ?_ (fun _ => ?_))
   | exact ih0 _ _ _ _ _ _ _ _ _ _
   | exact impl_CoversPicture.mono _ _ _ _ _ _ _
   | exact impl_GainOf.mono _ _ _ _
   | exact impl_SumInk.mono _ _ _ _
   | exact laws_same.mono _ _ _ _ _ _ _
   | exact laws_total.mono _ _
   | exact spec_MakePlate.mono _ _ _
   | exact spec_NegativePicture.mono _ _ _ _
   | exact LeO.none _
   | refine LeO.ite ?_ ?_
   | refine LeO.bind ?_ (fun _ => ?_)
theorem laws_FnGrown.mono : ∀ a0 k, LeO (laws_FnGrown.f k a0) (laws_FnGrown.f (k + 1) a0) := by
 intro a0 k
 have ih0 := laws_FnGrown.mono_l k
 unfold laws_FnGrown.f
 repeat' first
   | (with_reducible exact ih0 _ _ _ _ _ _ _ _ _ _)
   | (with_reducible exact impl_CoversPicture.mono _ _ _ _ _ _ _)
   | (with_reducible exact impl_GainOf.mono _ _ _ _)
   | (with_reducible exact impl_SumInk.mono _ _ _ _)
   | (with_reducible exact laws_same.mono _ _ _ _ _ _ _)
   | (with_reducible exact laws_total.mono _ _)
   | (with_reducible exact spec_MakePlate.mono _ _ _)
   | (with_reducible exact spec_NegativePicture.mono _ _ _ _)
   | (with_reducible exact LeO.refl _)
   | (with_reducible exact LeO.none _)
   | (with_reducible refine LeO.ite ?_ ?_)
   | (with_reducible refine LeO.bind ?_ (fun _ => ?_))
   | exact ih0 _ _ _ _ _ _ _ _ _ _
   | exact impl_CoversPicture.mono _ _ _ _ _ _ _
   | exact impl_GainOf.mono _ _ _ _
   | exact impl_SumInk.mono _ _ _ _
   | exact laws_same.mono _ _ _ _ _ _ _
   | exact laws_total.mono _ _
   | exact spec_MakePlate.mono _ _ _
   | exact spec_NegativePicture.mono _ _ _ _
   | exact LeO.none _
   | refine LeO.ite ?_ ?_
   | refine LeO.bind ?_ (fun _ => ?_)
def laws_FnGrown.T6 : Bool × List (List Nat × List Nat) := (true, [([], []), ([], []), ([0, 1], [0, 1]), ([2], [2]), ([3, 2], [3]), ([4], [4]), ([4], [4]), ([5, 6, 4, 4], [4, 5, 6]), ([7, 4], [4, 7]), ([4, 8], [4, 8]), ([9, 7], [9]), ([10], [10]), ([11, 10, 10], [10, 11]), ([10], [10]), ([12, 13, 12, 10], [10, 12, 13]), ([14, 10], [10, 14]), ([10, 15], [10, 15])])
def laws_FnGrown.B6 : List Nat := [0, 0, 3, 7, 15, 31, 31, 127, 255, 511, 1023, 2047, 4095, 2047, 16383, 32767, 65535]
theorem laws_FnGrown.tab6 : rtab .any (opsOf Try.f12 6) = laws_FnGrown.T6 := by kernel_rfl
theorem laws_FnGrown.bits6 : waitsOk laws_FnGrown.T6.2 laws_FnGrown.B6 = true := by kernel_rfl
def laws_FnGrown.T10 : Bool × List (List Nat × List Nat) := (true, [([], []), ([0], [0]), ([], []), ([2, 1], [2]), ([1, 3, 3], [1, 3]), ([4, 4], [4]), ([5], [5]), ([5], [5]), ([7, 5, 5], [5, 7]), ([5], [5]), ([9, 5], [5, 9]), ([10, 8, 5], [5, 10]), ([8, 11, 5], [5, 8, 11]), ([6, 12, 5], [5, 6, 12]), ([5, 13], [5, 13]), ([14, 11], [14]), ([15], [15]), ([16, 15], [15, 16]), ([15, 17], [15, 17]), ([18, 15], [18]), ([19], [19]), ([19], [19]), ([21, 19], [19, 21]), ([22, 19, 19], [19, 22]), ([23, 19], [19, 23]), ([20, 24, 19], [19, 20, 24]), ([19, 25], [19, 25]), ([26, 23, 0, 1, 2, 3, 4, 5, 6, 7, 8, 9, 10, 11, 12, 13, 14, 15, 16, 17, 18, 19, 20, 21, 22, 23, 24, 25, 26], [26])])
def laws_FnGrown.B10 : List Nat := [0, 1, 0, 7, 15, 31, 63, 63, 191, 63, 575, 1983, 4031, 8191, 16383, 32767, 65535, 131071, 262143, 524287, 1048575, 1048575, 3145727, 7340031, 15728639, 33554431, 67108863, 134217727]
theorem laws_FnGrown.tab10 : rtab .any (opsOf Try.f12 10) = laws_FnGrown.T10 := by kernel_rfl
theorem laws_FnGrown.bits10 : waitsOk laws_FnGrown.T10.2 laws_FnGrown.B10 = true := by kernel_rfl
set_option maxHeartbeats 8000000 in
set_option maxRecDepth 100000 in
theorem laws_FnGrown.calls (k : Nat) (A0 : Option Addr) (c0 : Nat) (l0 : List Int) (r : Bool) (w : World) (hr0 : Kd.C (Kd.int .u8) w A0 l0.length l0) (hc0 : l0.length ≤ c0) (h : laws_FnGrown.f k l0 = some r) :
  Calls Try.prog 12 #[.slice A0 l0.length c0] w fun e w' => e = .returned (.bool r) ∧ Below w.heap.size w w' := by
 have hu25 := Try.underlying25
 have HR0 := z0 hr0
 have HC0 := z0 hc0
 clear hr0 hc0
 have HB := z0 (Below.refl w.heap.size w)
 have H : (if (l0.length : Int) > 1048576 then (some true) else ((spec_MakePlate.f k l0 8).bind fun bt277 => ((impl_GrowPlate.f bt277.1 bt277.2.1 bt277.2.2).bind fun bt283 => ((impl_ShrinkPlate.f bt277.1 bt277.2.1 bt277.2.2).bind fun bt289 => ((impl_CoversPicture.f k bt283.1 bt283.2.1 bt283.2.2 bt277.1 bt277.2.1 bt277.2.2).bind fun t295 => (if t295 = true then ((impl_CoversPicture.f k bt277.1 bt277.2.1 bt277.2.2 bt289.1 bt289.2.1 bt289.2.2).bind fun t296 => (if t296 = true then ((impl_ShrinkPlate.f bt283.1 bt283.2.1 bt283.2.2).bind fun bt297 => ((impl_CoversPicture.f k bt297.1 bt297.2.1 bt297.2.2 bt277.1 bt277.2.1 bt277.2.2).bind fun t302 => (laws_FnGrown.j0 k (!t302) bt277.1 bt277.2.1 bt277.2.2 bt283.1 bt283.2.1 bt283.2.2 bt289.1 bt289.2.1 bt289.2.2))) else (laws_FnGrown.j0 k true bt277.1 bt277.2.1 bt277.2.2 bt283.1 bt283.2.1 bt283.2.2 bt289.1 bt289.2.1 bt289.2.2))) else (laws_FnGrown.j0 k true bt277.1 bt277.2.1 bt277.2.2 bt283.1 bt283.2.1 bt283.2.2 bt289.1 bt289.2.1 bt289.2.2))))))) = some r := h
 clear h
 by_cases c2 : (l0.length : Int) > 1048576
 ·rw [if_pos c2] at H
  have c2b0 : decide (1048576 < (l0.length : Int)) = true := decide_eq_true c2
  have c2b1 : decide (1048576 < l0.length) = true := decide_eq_true (by omega)
  clear c2
  obtain rfl := Option.some.inj H
  go_enter Try.func12, Try.ntmps12
  go_wp2
  go_ret
  exact ⟨by first | rfl | (simp [errW_none, errW_some] <;> rfl) | (simp [*, errW_none, errW_some] <;> rfl), by repeat (first | (with_reducible first | exact HB.out | apply z5 | apply z6) | exact HB.out)⟩
 ·rw [if_neg c2] at H
  have c2b0 : decide (1048576 < (l0.length : Int)) = false := decide_eq_false c2
  have c2b1 : decide (1048576 < l0.length) = false := decide_eq_false (by omega)
  clear c2
  replace H := Option.bind_eq_some_iff.mp H
  obtain ⟨⟨t277, t278, t279⟩, A30, H⟩ := H
  replace H : ((impl_GrowPlate.f t277 t278 t279).bind fun bt283 => ((impl_ShrinkPlate.f t277 t278 t279).bind fun bt289 => ((impl_CoversPicture.f k bt283.1 bt283.2.1 bt283.2.2 t277 t278 t279).bind fun t295 => (if t295 = true then ((impl_CoversPicture.f k t277 t278 t279 bt289.1 bt289.2.1 bt289.2.2).bind fun t296 => (if t296 = true then ((impl_ShrinkPlate.f bt283.1 bt283.2.1 bt283.2.2).bind fun bt297 => ((impl_CoversPicture.f k bt297.1 bt297.2.1 bt297.2.2 t277 t278 t279).bind fun t302 => (laws_FnGrown.j0 k (!t302) t277 t278 t279 bt283.1 bt283.2.1 bt283.2.2 bt289.1 bt289.2.1 bt289.2.2))) else (laws_FnGrown.j0 k true t277 t278 t279 bt283.1 bt283.2.1 bt283.2.2 bt289.1 bt289.2.1 bt289.2.2))) else (laws_FnGrown.j0 k true t277 t278 t279 bt283.1 bt283.2.1 bt283.2.2 bt289.1 bt289.2.1 bt289.2.2))))) = some r := H
  have A3 := z0 A30
  clear A30
  replace H := Option.bind_eq_some_iff.mp H
  obtain ⟨⟨t283, t284, t285⟩, A40, H⟩ := H
  replace H : ((impl_ShrinkPlate.f t277 t278 t279).bind fun bt289 => ((impl_CoversPicture.f k t283 t284 t285 t277 t278 t279).bind fun t295 => (if t295 = true then ((impl_CoversPicture.f k t277 t278 t279 bt289.1 bt289.2.1 bt289.2.2).bind fun t296 => (if t296 = true then ((impl_ShrinkPlate.f t283 t284 t285).bind fun bt297 => ((impl_CoversPicture.f k bt297.1 bt297.2.1 bt297.2.2 t277 t278 t279).bind fun t302 => (laws_FnGrown.j0 k (!t302) t277 t278 t279 t283 t284 t285 bt289.1 bt289.2.1 bt289.2.2))) else (laws_FnGrown.j0 k true t277 t278 t279 t283 t284 t285 bt289.1 bt289.2.1 bt289.2.2))) else (laws_FnGrown.j0 k true t277 t278 t279 t283 t284 t285 bt289.1 bt289.2.1 bt289.2.2)))) = some r := H
  have A4 := z0 A40
  clear A40
  replace H := Option.bind_eq_some_iff.mp H
  obtain ⟨⟨t289, t290, t291⟩, A50, H⟩ := H
  replace H : ((impl_CoversPicture.f k t283 t284 t285 t277 t278 t279).bind fun t295 => (if t295 = true then ((impl_CoversPicture.f k t277 t278 t279 t289 t290 t291).bind fun t296 => (if t296 = true then ((impl_ShrinkPlate.f t283 t284 t285).bind fun bt297 => ((impl_CoversPicture.f k bt297.1 bt297.2.1 bt297.2.2 t277 t278 t279).bind fun t302 => (laws_FnGrown.j0 k (!t302) t277 t278 t279 t283 t284 t285 t289 t290 t291))) else (laws_FnGrown.j0 k true t277 t278 t279 t283 t284 t285 t289 t290 t291))) else (laws_FnGrown.j0 k true t277 t278 t279 t283 t284 t285 t289 t290 t291))) = some r := H
  have A5 := z0 A50
  clear A50
  have HC6 := z0 H
  clear H
  go_enter Try.func12, Try.ntmps12
  go_upto_region 6 with (first | ((with_reducible refine gate_callee (f := 15) rfl ?_); refine goesL_ (some 12) rfl rfl Try.func15 (by kernel_rfl) rfl #[.slice A0 l0.length c0, .int .i64 8] rfl (by (try simp only [List.map_toArray, List.map_cons, List.map_nil]); first | done | rfl) ?_; (with_reducible refine (spec_MakePlate.calls k _ _ l0 8 t277 t278 t279 _ ?side1 ?side2 A3.out).mono ?_); (case side1 => repeat (first | exact HR0.out | (with_reducible refine y3 ?_ _) | (with_reducible refine y4 ?_))); (case side2 => exact HC0.out); rintro e w7 ⟨v280, rfl, ho0, hb⟩; refine ⟨_, rfl, ?_⟩; have n0_ := z0 (Kd.R_lower ho0 (y7 (by repeat (first | (with_reducible first | exact HB.out | apply z5 | apply z6) | exact HB.out)))); have n1_ := z0 (y6 (by repeat (first | (with_reducible first | exact HB.out | apply z5 | apply z6) | exact HB.out)) hb); clear HB; have HO281 := n0_; have HB := n1_; clear n0_ n1_; (try clear hb); (try clear ho0)) | ((with_reducible refine gate_dst (N := 3) rfl ?_); refine box_event ?hg (N := 3) ?hd (cs := #[.int .i64 0, .int .i64 0, .slice none 0 0]) (t := 25) ?hr ?_; (case hd => rfl); (case hg => rfl); (case hr => first | (go_simp; done) | (go_simp; rfl)); intro gb282 hg w8 hbox hb; have n0_ := z0 (x4 (by (with_reducible repeat (first | apply z9 | apply y1)); exact HO281.out) hb); have n1_ := z0 (y6 (by repeat (first | (with_reducible first | exact HB.out | apply z5 | apply z6) | exact HB.out)) hb); have n2_ := z0 (hbox); have n3_ := z0 ((by rw [hg]; exact (y7 (by repeat (first | (with_reducible first | exact HB.out | apply z5 | apply z6) | exact HB.out))) : w.heap.size ≤ gb282)); have n4_ := z0 ((by rw [hg]; exact (y7 (by repeat (first | (with_reducible first | exact HB.out | apply z5 | apply z6) | exact HB.out))) : w.heap.size ≤ gb282)); clear HO281; clear HB; have HO281 := n0_; have HB := n1_; have BK282 := n2_; have GW282 := n3_; have GE282 := n4_; clear n0_ n1_ n2_ n3_ n4_; clear hb hbox hg; have hcz9_0 : w8.cell? ⟨gb282, 0, none⟩ = some (.int .i64 0) := (x3 BK282.out 0).trans rfl; have hcz9_1 : w8.cell? ⟨gb282, 1, none⟩ = some (.int .i64 0) := (x3 BK282.out 1).trans rfl; have hcz9_2 : w8.cell? ⟨gb282, 2, none⟩ = some (.slice none 0 0) := (x3 BK282.out 2).trans rfl; have hfz9_0 := x2 BK282.out 0; have hfz9_1 := x2 BK282.out 1; have hfz9_2 := x2 BK282.out 2; obtain ⟨Ao10, co10, eo10⟩ := Kd.R_slice HO281.out; subst eo10) | ((with_reducible refine gate_callee (f := 44) rfl ?_); refine goesL_ (some 14) rfl rfl Try.func44 (by kernel_rfl) rfl #[.agg #[.int .i64 t277, .int .i64 t278, .slice Ao10 t279.length co10]] rfl (by (try simp only [List.map_toArray, List.map_cons, List.map_nil]); first | done | rfl) ?_; (with_reducible refine (impl_GrowPlate.calls t277 t278 _ _ t279 t283 t284 t285 _ ?side1 ?side2 A4.out).mono ?_); (case side1 => refine (x5 (e := 3) (base := w.heap.size) (ok := fun k_ => True) (n := t279.length) (c := co10) ?_).2.2; exact (by (with_reducible repeat (first | apply z9 | apply y1)); exact (x6 (x1 (p := ⟨gb282, 2, none⟩) (x1 (p := ⟨gb282, 1, none⟩) (x1 (p := ⟨gb282, 0, none⟩) (x7 HO281.out BK282.out (by decide)) (fun _ hk => hk.2) (.int .i64 t277)) (fun _ hk => hk.2) (.int .i64 t278)) (fun _ hk => hk.2) (.slice Ao10 t279.length co10)) (fun _ h_ => h_.1)))); (case side2 => exact (x5 HO281.out).2.1); rintro e w11 ⟨v286, rfl, ho0, hb⟩; refine ⟨_, rfl, ?_⟩; have n0_ := z0 (y8 (by (with_reducible repeat (first | apply z9 | apply y1)); exact (x6 (x1 (p := ⟨gb282, 2, none⟩) (x1 (p := ⟨gb282, 1, none⟩) (x1 (p := ⟨gb282, 0, none⟩) (x7 HO281.out BK282.out (by decide)) (fun _ hk => hk.2) (.int .i64 t277)) (fun _ hk => hk.2) (.int .i64 t278)) (fun _ hk => hk.2) (.slice Ao10 t279.length co10)) (fun _ h_ => h_.1))) (w2_ ho0) hb); have n1_ := z0 (Kd.R_lower (Kd.R_new' ho0 (Kd.R_lt (by (with_reducible repeat (first | apply z9 | apply y1)); exact (x6 (x1 (p := ⟨gb282, 2, none⟩) (x1 (p := ⟨gb282, 1, none⟩) (x1 (p := ⟨gb282, 0, none⟩) (x7 HO281.out BK282.out (by decide)) (fun _ hk => hk.2) (.int .i64 t277)) (fun _ hk => hk.2) (.int .i64 t278)) (fun _ hk => hk.2) (.slice Ao10 t279.length co10)) (fun _ h_ => h_.1))))) (y7 (by repeat (first | (with_reducible first | exact HB.out | apply z5 | apply z6 | refine z7 ?_ GE282.out) | exact HB.out)))); have n2_ := z0 (y5 (g := gb282) (o := .cells #[.int .i64 t277, .int .i64 t278, .slice Ao10 t279.length co10] 25 (0, 0)) (by (with_reducible repeat (first | refine z1 ?_ _ | refine z3 ?_)); refine blk_put (cs := #[.int .i64 t277, .int .i64 t278, .slice none 0 0]) ?_ 2 _ rfl; (with_reducible repeat (first | refine z1 ?_ _ | refine z3 ?_)); refine blk_put (cs := #[.int .i64 t277, .int .i64 0, .slice none 0 0]) ?_ 1 _ rfl; (with_reducible repeat (first | refine z1 ?_ _ | refine z3 ?_)); refine blk_put (cs := #[.int .i64 0, .int .i64 0, .slice none 0 0]) ?_ 0 _ rfl; (with_reducible repeat (first | refine z1 ?_ _ | refine z3 ?_)); exact BK282.out) hb); have n3_ := z0 (y6 (by repeat (first | (with_reducible first | exact HB.out | apply z5 | apply z6 | refine z7 ?_ GE282.out) | exact HB.out)) hb); clear HO281; clear BK282; clear HB; have HO281 := n0_; have HO287 := n1_; have BK282 := n2_; have HB := n3_; clear n0_ n1_ n2_ n3_; (try clear hb); (try clear ho0)) | ((with_reducible refine gate_dst (N := 4) rfl ?_); refine box_event ?hg (N := 4) ?hd (cs := #[.int .i64 0, .int .i64 0, .slice none 0 0]) (t := 25) ?hr ?_; (case hd => rfl); (case hg => rfl); (case hr => first | (go_simp; done) | (go_simp; rfl)); intro gb288 hg w12 hbox hb; have n0_ := z0 (x4 (by (with_reducible repeat (first | apply z9 | apply y1)); exact HO281.out) hb); have n1_ := z0 (x4 (by (with_reducible repeat (first | apply z9 | apply y1)); exact HO287.out) hb); have n2_ := z0 (y5 (g := gb282) (o := .cells #[.int .i64 t277, .int .i64 t278, .slice Ao10 t279.length co10] 25 (0, 0)) (by (with_reducible repeat (first | refine z1 ?_ _ | refine z3 ?_)); exact BK282.out) hb); have n3_ := z0 (y6 (by repeat (first | (with_reducible first | exact HB.out | apply z5 | apply z6 | refine z7 ?_ GE282.out) | exact HB.out)) hb); have n4_ := z0 (hbox); have n5_ := z0 ((by rw [hg]; exact (y7 (by repeat (first | (with_reducible first | exact HB.out | apply z5 | apply z6 | refine z7 ?_ GE282.out) | exact HB.out))) : w.heap.size ≤ gb288)); have n6_ := z0 ((by rw [hg]; exact (y7 (by repeat (first | (with_reducible first | exact HB.out | apply z5 | apply z6 | refine z7 ?_ GE282.out) | exact HB.out))) : w.heap.size ≤ gb288)); have n7_ := z0 ((by rw [hg]; exact Nat.ne_of_lt (blk_lt (g := gb282) (o := .cells #[.int .i64 t277, .int .i64 t278, .slice Ao10 t279.length co10] 25 (0, 0)) (by (with_reducible repeat (first | refine z1 ?_ _ | refine z3 ?_)); exact BK282.out)) : gb282 ≠ gb288)); have n8_ := z0 ((by rw [hg]; exact Nat.ne_of_gt (blk_lt (g := gb282) (o := .cells #[.int .i64 t277, .int .i64 t278, .slice Ao10 t279.length co10] 25 (0, 0)) (by (with_reducible repeat (first | refine z1 ?_ _ | refine z3 ?_)); exact BK282.out)) : gb288 ≠ gb282)); clear HO281; clear HO287; clear BK282; clear HB; have HO281 := n0_; have HO287 := n1_; have BK282 := n2_; have HB := n3_; have BK288 := n4_; have GW288 := n5_; have GE288 := n6_; have NB282_288 := n7_; have NB288_282 := n8_; clear n0_ n1_ n2_ n3_ n4_ n5_ n6_ n7_ n8_; clear hb hbox hg; have hnb13 := NB288_282.out; have hnc13 := NB282_288.out; have hcz14_0 : w12.cell? ⟨gb288, 0, none⟩ = some (.int .i64 0) := (x3 BK288.out 0).trans rfl; have hcz14_1 : w12.cell? ⟨gb288, 1, none⟩ = some (.int .i64 0) := (x3 BK288.out 1).trans rfl; have hcz14_2 : w12.cell? ⟨gb288, 2, none⟩ = some (.slice none 0 0) := (x3 BK288.out 2).trans rfl; have hfz14_0 := x2 BK288.out 0; have hfz14_1 := x2 BK288.out 1; have hfz14_2 := x2 BK288.out 2; obtain ⟨Ao15, co15, eo15⟩ := Kd.R_slice HO287.out; subst eo15; have hcz16_0 : w12.cell? ⟨gb282, 0, none⟩ = some (.int .i64 t277) := (x3 BK282.out 0).trans rfl; have hcz16_1 : w12.cell? ⟨gb282, 1, none⟩ = some (.int .i64 t278) := (x3 BK282.out 1).trans rfl; have hcz16_2 : w12.cell? ⟨gb282, 2, none⟩ = some (.slice Ao10 t279.length co10) := (x3 BK282.out 2).trans rfl; have hfz16_0 := x2 BK282.out 0; have hfz16_1 := x2 BK282.out 1; have hfz16_2 := x2 BK282.out 2) | ((with_reducible refine gate_callee (f := 45) rfl ?_); refine goesL_ (some 16) rfl rfl Try.func45 (by kernel_rfl) rfl #[.agg #[.int .i64 t277, .int .i64 t278, .slice Ao10 t279.length co10]] rfl (by (try simp only [List.map_toArray, List.map_cons, List.map_nil]); first | done | rfl) ?_; (with_reducible refine (impl_ShrinkPlate.calls t277 t278 _ _ t279 t289 t290 t291 _ ?side1 ?side2 A5.out).mono ?_); (case side1 => refine (x5 (e := 3) (base := w.heap.size) (ok := fun k_ => (True ∧ some k_ ≠ (.slice Ao15 t285.length co15 : Value).ownBlock)) (n := t279.length) (c := co10) ?_).2.2; exact (by (with_reducible repeat (first | apply z9 | apply y1)); exact (x6 (x1 (p := ⟨gb288, 2, none⟩) (x1 (p := ⟨gb288, 1, none⟩) (x1 (p := ⟨gb288, 0, none⟩) (x7 HO281.out BK288.out (by decide)) (fun _ hk => hk.2) (.int .i64 t283)) (fun _ hk => hk.2) (.int .i64 t284)) (fun _ hk => hk.2) (.slice Ao15 t285.length co15)) (fun _ h_ => h_.1)))); (case side2 => exact (x5 HO281.out).2.1); rintro e w17 ⟨v292, rfl, ho0, hb⟩; refine ⟨_, rfl, ?_⟩; have n0_ := z0 (y8 (by (with_reducible repeat (first | apply z9 | apply y1)); exact (x6 (x1 (p := ⟨gb288, 2, none⟩) (x1 (p := ⟨gb288, 1, none⟩) (x1 (p := ⟨gb288, 0, none⟩) (x7 HO281.out BK288.out (by decide)) (fun _ hk => hk.2) (.int .i64 t283)) (fun _ hk => hk.2) (.int .i64 t284)) (fun _ hk => hk.2) (.slice Ao15 t285.length co15)) (fun _ h_ => h_.1))) (w2_ ho0) hb); have n1_ := z0 (y8 (by (with_reducible repeat (first | apply z9 | apply y1)); exact (x6 (x1 (p := ⟨gb288, 2, none⟩) (x1 (p := ⟨gb288, 1, none⟩) (x1 (p := ⟨gb288, 0, none⟩) (x7 HO287.out BK288.out (by decide)) (fun _ hk => hk.2) (.int .i64 t283)) (fun _ hk => hk.2) (.int .i64 t284)) (fun _ hk => hk.2) (.slice Ao15 t285.length co15)) (fun _ h_ => h_.1))) (w2_ ho0) hb); have n2_ := z0 (Kd.R_lower (Kd.R_new' (Kd.R_new' ho0 (Kd.R_lt (by (with_reducible repeat (first | apply z9 | apply y1)); exact (x6 (x1 (p := ⟨gb288, 2, none⟩) (x1 (p := ⟨gb288, 1, none⟩) (x1 (p := ⟨gb288, 0, none⟩) (x7 HO281.out BK288.out (by decide)) (fun _ hk => hk.2) (.int .i64 t283)) (fun _ hk => hk.2) (.int .i64 t284)) (fun _ hk => hk.2) (.slice Ao15 t285.length co15)) (fun _ h_ => h_.1))))) (Kd.R_lt (by (with_reducible repeat (first | apply z9 | apply y1)); exact (x6 (x1 (p := ⟨gb288, 2, none⟩) (x1 (p := ⟨gb288, 1, none⟩) (x1 (p := ⟨gb288, 0, none⟩) (x7 HO287.out BK288.out (by decide)) (fun _ hk => hk.2) (.int .i64 t283)) (fun _ hk => hk.2) (.int .i64 t284)) (fun _ hk => hk.2) (.slice Ao15 t285.length co15)) (fun _ h_ => h_.1))))) (y7 (by repeat (first | (with_reducible first | exact HB.out | apply z5 | apply z6 | refine z7 ?_ GE282.out | refine z7 ?_ GE288.out) | exact HB.out)))); have n3_ := z0 (y5 (g := gb282) (o := .cells #[.int .i64 t277, .int .i64 t278, .slice Ao10 t279.length co10] 25 (0, 0)) (by (with_reducible repeat (first | refine z1 ?_ _ | refine z3 ?_)); refine x8 ?_ NB282_288.out _; (with_reducible repeat (first | refine z1 ?_ _ | refine z3 ?_)); refine x8 ?_ NB282_288.out _; (with_reducible repeat (first | refine z1 ?_ _ | refine z3 ?_)); refine x8 ?_ NB282_288.out _; (with_reducible repeat (first | refine z1 ?_ _ | refine z3 ?_)); exact BK282.out) hb); have n4_ := z0 (y5 (g := gb288) (o := .cells #[.int .i64 t283, .int .i64 t284, .slice Ao15 t285.length co15] 25 (0, 0)) (by (with_reducible repeat (first | refine z1 ?_ _ | refine z3 ?_)); refine blk_put (cs := #[.int .i64 t283, .int .i64 t284, .slice none 0 0]) ?_ 2 _ rfl; (with_reducible repeat (first | refine z1 ?_ _ | refine z3 ?_)); refine blk_put (cs := #[.int .i64 t283, .int .i64 0, .slice none 0 0]) ?_ 1 _ rfl; (with_reducible repeat (first | refine z1 ?_ _ | refine z3 ?_)); refine blk_put (cs := #[.int .i64 0, .int .i64 0, .slice none 0 0]) ?_ 0 _ rfl; (with_reducible repeat (first | refine z1 ?_ _ | refine z3 ?_)); exact BK288.out) hb); have n5_ := z0 (y6 (by repeat (first | (with_reducible first | exact HB.out | apply z5 | apply z6 | refine z7 ?_ GE282.out | refine z7 ?_ GE288.out) | exact HB.out)) hb); clear HO281; clear HO287; clear BK282; clear BK288; clear HB; have HO281 := n0_; have HO287 := n1_; have HO293 := n2_; have BK282 := n3_; have BK288 := n4_; have HB := n5_; clear n0_ n1_ n2_ n3_ n4_ n5_; (try clear hb); (try clear ho0)) | ((with_reducible refine gate_dst (N := 5) rfl ?_); refine box_event ?hg (N := 5) ?hd (cs := #[.int .i64 0, .int .i64 0, .slice none 0 0]) (t := 25) ?hr ?_; (case hd => rfl); (case hg => rfl); (case hr => first | (go_simp; done) | (go_simp; rfl)); intro gb294 hg w18 hbox hb; have n0_ := z0 (x4 (by (with_reducible repeat (first | apply z9 | apply y1)); exact HO281.out) hb); have n1_ := z0 (x4 (by (with_reducible repeat (first | apply z9 | apply y1)); exact HO287.out) hb); have n2_ := z0 (x4 (by (with_reducible repeat (first | apply z9 | apply y1)); exact HO293.out) hb); have n3_ := z0 (y5 (g := gb282) (o := .cells #[.int .i64 t277, .int .i64 t278, .slice Ao10 t279.length co10] 25 (0, 0)) (by (with_reducible repeat (first | refine z1 ?_ _ | refine z3 ?_)); exact BK282.out) hb); have n4_ := z0 (y5 (g := gb288) (o := .cells #[.int .i64 t283, .int .i64 t284, .slice Ao15 t285.length co15] 25 (0, 0)) (by (with_reducible repeat (first | refine z1 ?_ _ | refine z3 ?_)); exact BK288.out) hb); have n5_ := z0 (y6 (by repeat (first | (with_reducible first | exact HB.out | apply z5 | apply z6 | refine z7 ?_ GE282.out | refine z7 ?_ GE288.out) | exact HB.out)) hb); have n6_ := z0 (hbox); have n7_ := z0 ((by rw [hg]; exact (y7 (by repeat (first | (with_reducible first | exact HB.out | apply z5 | apply z6 | refine z7 ?_ GE282.out | refine z7 ?_ GE288.out) | exact HB.out))) : w.heap.size ≤ gb294)); have n8_ := z0 ((by rw [hg]; exact (y7 (by repeat (first | (with_reducible first | exact HB.out | apply z5 | apply z6 | refine z7 ?_ GE282.out | refine z7 ?_ GE288.out) | exact HB.out))) : w.heap.size ≤ gb294)); have n9_ := z0 ((by rw [hg]; exact Nat.ne_of_lt (blk_lt (g := gb282) (o := .cells #[.int .i64 t277, .int .i64 t278, .slice Ao10 t279.length co10] 25 (0, 0)) (by (with_reducible repeat (first | refine z1 ?_ _ | refine z3 ?_)); exact BK282.out)) : gb282 ≠ gb294)); have n10_ := z0 ((by rw [hg]; exact Nat.ne_of_gt (blk_lt (g := gb282) (o := .cells #[.int .i64 t277, .int .i64 t278, .slice Ao10 t279.length co10] 25 (0, 0)) (by (with_reducible repeat (first | refine z1 ?_ _ | refine z3 ?_)); exact BK282.out)) : gb294 ≠ gb282)); have n11_ := z0 ((by rw [hg]; exact Nat.ne_of_lt (blk_lt (g := gb288) (o := .cells #[.int .i64 t283, .int .i64 t284, .slice Ao15 t285.length co15] 25 (0, 0)) (by (with_reducible repeat (first | refine z1 ?_ _ | refine z3 ?_)); exact BK288.out)) : gb288 ≠ gb294)); have n12_ := z0 ((by rw [hg]; exact Nat.ne_of_gt (blk_lt (g := gb288) (o := .cells #[.int .i64 t283, .int .i64 t284, .slice Ao15 t285.length co15] 25 (0, 0)) (by (with_reducible repeat (first | refine z1 ?_ _ | refine z3 ?_)); exact BK288.out)) : gb294 ≠ gb288)); clear HO281; clear HO287; clear HO293; clear BK282; clear BK288; clear HB; have HO281 := n0_; have HO287 := n1_; have HO293 := n2_; have BK282 := n3_; have BK288 := n4_; have HB := n5_; have BK294 := n6_; have GW294 := n7_; have GE294 := n8_; have NB282_294 := n9_; have NB294_282 := n10_; have NB288_294 := n11_; have NB294_288 := n12_; clear n0_ n1_ n2_ n3_ n4_ n5_ n6_ n7_ n8_ n9_ n10_ n11_ n12_; clear hb hbox hg; have hnb19 := NB294_282.out; have hnc19 := NB282_294.out; have hnb20 := NB294_288.out; have hnc20 := NB288_294.out; have hcz21_0 : w18.cell? ⟨gb294, 0, none⟩ = some (.int .i64 0) := (x3 BK294.out 0).trans rfl; have hcz21_1 : w18.cell? ⟨gb294, 1, none⟩ = some (.int .i64 0) := (x3 BK294.out 1).trans rfl; have hcz21_2 : w18.cell? ⟨gb294, 2, none⟩ = some (.slice none 0 0) := (x3 BK294.out 2).trans rfl; have hfz21_0 := x2 BK294.out 0; have hfz21_1 := x2 BK294.out 1; have hfz21_2 := x2 BK294.out 2; obtain ⟨Ao22, co22, eo22⟩ := Kd.R_slice HO293.out; subst eo22))
  (try simp only [Act.put, List.setIfInBounds_toArray, List.set_cons_zero, List.set_cons_succ])
  go_cut [33] (fun v33 wc => ∃ (kq : Nat) (x33_5 : Bool), v33 = .bool x33_5 ∧ Aside0 (laws_FnGrown.j0 kq x33_5 t277 t278 t279 t283 t284 t285 t289 t290 t291 = some r) ∧ Aside0 (kq ≤ k) ∧ Aside0 (Kd.R (Kd.int .i64) 3 wc w.heap.size (fun k_ => some k_ ≠ ((.slice Ao15 t285.length co15) : Value).ownBlock ∧ some k_ ≠ ((.slice Ao22 t291.length co22) : Value).ownBlock) (.slice Ao10 t279.length co10) t279) ∧ Aside0 (Kd.R (Kd.int .i64) 3 wc w.heap.size (fun k_ => some k_ ≠ ((.slice Ao10 t279.length co10) : Value).ownBlock ∧ some k_ ≠ ((.slice Ao22 t291.length co22) : Value).ownBlock) (.slice Ao15 t285.length co15) t285) ∧ Aside0 (Kd.R (Kd.int .i64) 3 wc w.heap.size (fun k_ => some k_ ≠ ((.slice Ao10 t279.length co10) : Value).ownBlock ∧ some k_ ≠ ((.slice Ao15 t285.length co15) : Value).ownBlock) (.slice Ao22 t291.length co22) t291) ∧ Aside0 (wc.heap[gb282]? = some (.cells #[.int .i64 t277, .int .i64 t278, (.slice Ao10 t279.length co10)] 25 (0, 0))) ∧ Aside0 (wc.heap[gb288]? = some (.cells #[.int .i64 t283, .int .i64 t284, (.slice Ao15 t285.length co15)] 25 (0, 0))) ∧ Aside0 (wc.heap[gb294]? = some (.cells #[.int .i64 t289, .int .i64 t290, (.slice Ao22 t291.length co22)] 25 (0, 0))) ∧ Aside0 (Below w.heap.size w wc))
  case first =>
   have H := HC6.out
   clear HC6
   replace H := Option.bind_eq_some_iff.mp H
   obtain ⟨t295, A230, H⟩ := H
   replace H : (if t295 = true then ((impl_CoversPicture.f k t277 t278 t279 t289 t290 t291).bind fun t296 => (if t296 = true then ((impl_ShrinkPlate.f t283 t284 t285).bind fun bt297 => ((impl_CoversPicture.f k bt297.1 bt297.2.1 bt297.2.2 t277 t278 t279).bind fun t302 => (laws_FnGrown.j0 k (!t302) t277 t278 t279 t283 t284 t285 t289 t290 t291))) else (laws_FnGrown.j0 k true t277 t278 t279 t283 t284 t285 t289 t290 t291))) else (laws_FnGrown.j0 k true t277 t278 t279 t283 t284 t285 t289 t290 t291)) = some r := H
   have A23 := z0 A230
   clear A230
   by_cases c24 : t295 = true
   ·subst c24
    have H1 : ((impl_CoversPicture.f k t277 t278 t279 t289 t290 t291).bind fun t296 => (if t296 = true then ((impl_ShrinkPlate.f t283 t284 t285).bind fun bt297 => ((impl_CoversPicture.f k bt297.1 bt297.2.1 bt297.2.2 t277 t278 t279).bind fun t302 => (laws_FnGrown.j0 k (!t302) t277 t278 t279 t283 t284 t285 t289 t290 t291))) else (laws_FnGrown.j0 k true t277 t278 t279 t283 t284 t285 t289 t290 t291))) = some r := by rw [if_pos rfl] at H; first | exact H | (simp only [if_true] at H ⊢; exact H)
    clear H
    have H := H1
    clear H1
    replace H := Option.bind_eq_some_iff.mp H
    obtain ⟨t296, A250, H⟩ := H
    replace H : (if t296 = true then ((impl_ShrinkPlate.f t283 t284 t285).bind fun bt297 => ((impl_CoversPicture.f k bt297.1 bt297.2.1 bt297.2.2 t277 t278 t279).bind fun t302 => (laws_FnGrown.j0 k (!t302) t277 t278 t279 t283 t284 t285 t289 t290 t291))) else (laws_FnGrown.j0 k true t277 t278 t279 t283 t284 t285 t289 t290 t291)) = some r := H
    have A25 := z0 A250
    clear A250
    by_cases c26 : t296 = true
    ·subst c26
     have H1 : ((impl_ShrinkPlate.f t283 t284 t285).bind fun bt297 => ((impl_CoversPicture.f k bt297.1 bt297.2.1 bt297.2.2 t277 t278 t279).bind fun t302 => (laws_FnGrown.j0 k (!t302) t277 t278 t279 t283 t284 t285 t289 t290 t291))) = some r := by rw [if_pos rfl] at H; first | exact H | (simp only [if_true] at H ⊢; exact H)
     clear H
     have H := H1
     clear H1
     replace H := Option.bind_eq_some_iff.mp H
     obtain ⟨⟨t297, t298, t299⟩, A270, H⟩ := H
     replace H : ((impl_CoversPicture.f k t297 t298 t299 t277 t278 t279).bind fun t302 => (laws_FnGrown.j0 k (!t302) t277 t278 t279 t283 t284 t285 t289 t290 t291)) = some r := H
     have A27 := z0 A270
     clear A270
     replace H := Option.bind_eq_some_iff.mp H
     obtain ⟨t302, A280, H⟩ := H
     replace H : (laws_FnGrown.j0 k (!t302) t277 t278 t279 t283 t284 t285 t289 t290 t291) = some r := H
     have A28 := z0 A280
     clear A280
     have H' := z0 H
     clear H
     try go_wp2
     have n0_ : Aside0 (Kd.R (Kd.int .i64) 3 (((w18.setCell ⟨gb294, 0, none⟩ (.int .i64 t289)).setCell ⟨gb294, 1, none⟩ (.int .i64 t290)).setCell ⟨gb294, 2, none⟩ (.slice Ao22 t291.length co22)) w.heap.size (fun k_ => some k_ ≠ (.slice Ao15 t285.length co15 : Value).ownBlock ∧ some k_ ≠ (.slice Ao22 t291.length co22 : Value).ownBlock) (.slice Ao10 t279.length co10) t279) := ⟨by (with_reducible repeat (first | apply z9 | apply y1)); exact x6 (x1 (p := ⟨gb294, 2, none⟩) (x1 (p := ⟨gb294, 1, none⟩) (x1 (p := ⟨gb294, 0, none⟩) (x7 HO281.out BK294.out (by decide)) (fun _ hk => hk.2) (.int .i64 t289)) (fun _ hk => hk.2) (.int .i64 t290)) (fun _ hk => hk.2) (.slice Ao22 t291.length co22)) (fun _ hk => ⟨hk.1.1.2, hk.1.2⟩)⟩
     have n1_ : Aside0 (Kd.R (Kd.int .i64) 3 (((w18.setCell ⟨gb294, 0, none⟩ (.int .i64 t289)).setCell ⟨gb294, 1, none⟩ (.int .i64 t290)).setCell ⟨gb294, 2, none⟩ (.slice Ao22 t291.length co22)) w.heap.size (fun k_ => some k_ ≠ (.slice Ao10 t279.length co10 : Value).ownBlock ∧ some k_ ≠ (.slice Ao22 t291.length co22 : Value).ownBlock) (.slice Ao15 t285.length co15) t285) := ⟨by (with_reducible repeat (first | apply z9 | apply y1)); exact x6 (x1 (p := ⟨gb294, 2, none⟩) (x1 (p := ⟨gb294, 1, none⟩) (x1 (p := ⟨gb294, 0, none⟩) (x7 HO287.out BK294.out (by decide)) (fun _ hk => hk.2) (.int .i64 t289)) (fun _ hk => hk.2) (.int .i64 t290)) (fun _ hk => hk.2) (.slice Ao22 t291.length co22)) (fun _ hk => ⟨hk.1.1.2, hk.1.2⟩)⟩
     have n2_ : Aside0 (Kd.R (Kd.int .i64) 3 (((w18.setCell ⟨gb294, 0, none⟩ (.int .i64 t289)).setCell ⟨gb294, 1, none⟩ (.int .i64 t290)).setCell ⟨gb294, 2, none⟩ (.slice Ao22 t291.length co22)) w.heap.size (fun k_ => some k_ ≠ (.slice Ao10 t279.length co10 : Value).ownBlock ∧ some k_ ≠ (.slice Ao15 t285.length co15 : Value).ownBlock) (.slice Ao22 t291.length co22) t291) := ⟨by (with_reducible repeat (first | apply z9 | apply y1)); exact x6 (x1 (p := ⟨gb294, 2, none⟩) (x1 (p := ⟨gb294, 1, none⟩) (x1 (p := ⟨gb294, 0, none⟩) (x7 HO293.out BK294.out (by decide)) (fun _ hk => hk.2) (.int .i64 t289)) (fun _ hk => hk.2) (.int .i64 t290)) (fun _ hk => hk.2) (.slice Ao22 t291.length co22)) (fun _ hk => ⟨hk.1.1.2, hk.1.2⟩)⟩
     have n3_ : Aside0 ((((w18.setCell ⟨gb294, 0, none⟩ (.int .i64 t289)).setCell ⟨gb294, 1, none⟩ (.int .i64 t290)).setCell ⟨gb294, 2, none⟩ (.slice Ao22 t291.length co22)).heap[gb282]? = some (.cells #[.int .i64 t277, .int .i64 t278, .slice Ao10 t279.length co10] 25 (0, 0))) := ⟨by (with_reducible repeat (first | refine z1 ?_ _ | refine z3 ?_)); refine x8 ?_ NB282_294.out _; (with_reducible repeat (first | refine z1 ?_ _ | refine z3 ?_)); refine x8 ?_ NB282_294.out _; (with_reducible repeat (first | refine z1 ?_ _ | refine z3 ?_)); refine x8 ?_ NB282_294.out _; (with_reducible repeat (first | refine z1 ?_ _ | refine z3 ?_)); exact BK282.out⟩
     have n4_ : Aside0 ((((w18.setCell ⟨gb294, 0, none⟩ (.int .i64 t289)).setCell ⟨gb294, 1, none⟩ (.int .i64 t290)).setCell ⟨gb294, 2, none⟩ (.slice Ao22 t291.length co22)).heap[gb288]? = some (.cells #[.int .i64 t283, .int .i64 t284, .slice Ao15 t285.length co15] 25 (0, 0))) := ⟨by (with_reducible repeat (first | refine z1 ?_ _ | refine z3 ?_)); refine x8 ?_ NB288_294.out _; (with_reducible repeat (first | refine z1 ?_ _ | refine z3 ?_)); refine x8 ?_ NB288_294.out _; (with_reducible repeat (first | refine z1 ?_ _ | refine z3 ?_)); refine x8 ?_ NB288_294.out _; (with_reducible repeat (first | refine z1 ?_ _ | refine z3 ?_)); exact BK288.out⟩
     have n5_ : Aside0 ((((w18.setCell ⟨gb294, 0, none⟩ (.int .i64 t289)).setCell ⟨gb294, 1, none⟩ (.int .i64 t290)).setCell ⟨gb294, 2, none⟩ (.slice Ao22 t291.length co22)).heap[gb294]? = some (.cells #[.int .i64 t289, .int .i64 t290, .slice Ao22 t291.length co22] 25 (0, 0))) := ⟨by (with_reducible repeat (first | refine z1 ?_ _ | refine z3 ?_)); refine blk_put (cs := #[.int .i64 t289, .int .i64 t290, .slice none 0 0]) ?_ 2 _ rfl; (with_reducible repeat (first | refine z1 ?_ _ | refine z3 ?_)); refine blk_put (cs := #[.int .i64 t289, .int .i64 0, .slice none 0 0]) ?_ 1 _ rfl; (with_reducible repeat (first | refine z1 ?_ _ | refine z3 ?_)); refine blk_put (cs := #[.int .i64 0, .int .i64 0, .slice none 0 0]) ?_ 0 _ rfl; (with_reducible repeat (first | refine z1 ?_ _ | refine z3 ?_)); exact BK294.out⟩
     have n6_ : Aside0 (Below w.heap.size w (((w18.setCell ⟨gb294, 0, none⟩ (.int .i64 t289)).setCell ⟨gb294, 1, none⟩ (.int .i64 t290)).setCell ⟨gb294, 2, none⟩ (.slice Ao22 t291.length co22))) := ⟨by repeat (first | (with_reducible first | exact HB.out | apply z5 | apply z6 | refine z7 ?_ GE282.out | refine z7 ?_ GE288.out | refine z7 ?_ GE294.out) | exact HB.out)⟩
     (try clear HO281)
     (try clear HO287)
     (try clear HO293)
     (try clear BK282)
     (try clear BK288)
     (try clear BK294)
     (try clear HB)
     generalize (((w18.setCell ⟨gb294, 0, none⟩ (.int .i64 t289)).setCell ⟨gb294, 1, none⟩ (.int .i64 t290)).setCell ⟨gb294, 2, none⟩ (.slice Ao22 t291.length co22)) = w29 at n0_ n1_ n2_ n3_ n4_ n5_ n6_ ⊢
     have HO281 := n0_
     have HO287 := n1_
     have HO293 := n2_
     have BK282 := n3_
     have BK288 := n4_
     have BK294 := n5_
     have HB := n6_
     clear n0_ n1_ n2_ n3_ n4_ n5_ n6_
     have n0_ := z0 (y1 HO281.out)
     have n1_ := z0 (y1 HO287.out)
     have n2_ := z0 (y1 HO293.out)
     have n3_ := z0 (z3 BK282.out)
     have n4_ := z0 (z3 BK288.out)
     have n5_ := z0 (z3 BK294.out)
     have n6_ := z0 (z6 HB.out)
     clear HO281
     clear HO287
     clear HO293
     clear BK282
     clear BK288
     clear BK294
     clear HB
     have HO281 := n0_
     have HO287 := n1_
     have HO293 := n2_
     have BK282 := n3_
     have BK288 := n4_
     have BK294 := n5_
     have HB := n6_
     clear n0_ n1_ n2_ n3_ n4_ n5_ n6_
     refine start_ (n := 17) (S := fun w' => w'.cell? ⟨gb288, 0, none⟩ = some (.int .i64 t283) ∧ w'.cell? ⟨gb288, 1, none⟩ = some (.int .i64 t284) ∧ w'.cell? ⟨gb288, 2, none⟩ = some (.slice Ao15 t285.length co15) ∧ w'.cell? ⟨gb282, 0, none⟩ = some (.int .i64 t277) ∧ w'.cell? ⟨gb282, 1, none⟩ = some (.int .i64 t278) ∧ w'.cell? ⟨gb282, 2, none⟩ = some (.slice Ao10 t279.length co10) ∧ w'.cell? ⟨gb294, 0, none⟩ = some (.int .i64 t289) ∧ w'.cell? ⟨gb294, 1, none⟩ = some (.int .i64 t290) ∧ w'.cell? ⟨gb294, 2, none⟩ = some (.slice Ao22 t291.length co22)) (ds := []) #[false, false, false, false, false, false, false, false, false, false, false, false, false, false, false, false, false] (by kernel_rfl) rfl rfl ⟨(x3 BK288.out 0).trans rfl, (x3 BK288.out 1).trans rfl, (x3 BK288.out 2).trans rfl, (x3 BK282.out 0).trans rfl, (x3 BK282.out 1).trans rfl, (x3 BK282.out 2).trans rfl, (x3 BK294.out 0).trans rfl, (x3 BK294.out 1).trans rfl, (x3 BK294.out 2).trans rfl⟩ (fun hHeld => ?_); refine with_tabW laws_FnGrown.tab6 laws_FnGrown.bits6 (fun HT_ HW_ => ?_)
     generalize w29.drew = w30 at HO281 HO287 HO293 BK282 BK288 BK294 HB hHeld ⊢
     refine take_ (i := 0) (N := some 17) (v := ?_) (a' := ?_) #[true, false, false, false, false, false, false, false, false, false, false, false, false, false, false, false, false] rfl rfl (take_ofW HT_.out HW_.out (by kernel_rfl)) (fun _ _ _ h => h) (Or.inl ⟨by rfl, ?_⟩) hHeld ?_ ?_
     rotate_left
     ·rintro w' ⟨s0, s1, s2, s3, s4, s5, s6, s7, s8⟩
      go_simp
      with_reducible rfl
     rotate_left
     ·simp only [Act.put, List.setIfInBounds_toArray, List.set_cons_zero, List.set_cons_succ, i64_w, i32_w]
      rfl
     refine take_ (i := 1) (N := some 18) (v := ?_) (a' := ?_) #[true, true, false, false, false, false, false, false, false, false, false, false, false, false, false, false, false] rfl rfl (take_ofW HT_.out HW_.out (by kernel_rfl)) (fun _ _ _ h => h) (Or.inl ⟨by rfl, ?_⟩) hHeld ?_ ?_
     rotate_left
     ·rintro w' ⟨s0, s1, s2, s3, s4, s5, s6, s7, s8⟩
      go_simp
      with_reducible rfl
     rotate_left
     ·simp only [Act.put, List.setIfInBounds_toArray, List.set_cons_zero, List.set_cons_succ, i64_w, i32_w]
      rfl
     refine one_ (i := 2) (N := some 19) #[true, true, true, false, false, false, false, false, false, false, false, false, false, false, false, false, false] rfl rfl (one_of HT_.out (by kernel_rfl)) (by decide) (fun K hK => ?_)
     refine goes_ Try.func46 (by kernel_rfl) rfl #[.agg #[.int .i64 t283, .int .i64 t284, .slice Ao15 t285.length co15], .agg #[.int .i64 t277, .int .i64 t278, .slice Ao10 t279.length co10]] (by rfl) rfl rfl (by (try simp only [List.map_toArray, List.map_cons, List.map_nil]); first | done | rfl) ?_
     with_reducible refine (impl_CoversPicture.calls k t283 t284 _ _ t285 t277 t278 _ _ t279 true _ ?side1 ?side2 ?side3 ?side4 A23.out).mono ?_
     (case side1 => repeat (first | exact (x5 HO287.out).2.2 | (with_reducible refine y3 ?_ _) | (with_reducible refine y4 ?_)))
     (case side2 => exact (x5 HO287.out).2.1)
     (case side3 => repeat (first | exact (x5 HO281.out).2.2 | (with_reducible refine y3 ?_ _) | (with_reducible refine y4 ?_)))
     (case side4 => exact (x5 HO281.out).2.1)
     rintro e w31 ⟨rfl, hb⟩
     refine ⟨_, rfl, ?_⟩
     have n0_ := z0 (x4 (by (with_reducible repeat (first | apply z9 | apply y1)); exact HO281.out) hb)
     have n1_ := z0 (x4 (by (with_reducible repeat (first | apply z9 | apply y1)); exact HO287.out) hb)
     have n2_ := z0 (x4 (by (with_reducible repeat (first | apply z9 | apply y1)); exact HO293.out) hb)
     have n3_ := z0 (y5 (g := gb282) (o := .cells #[.int .i64 t277, .int .i64 t278, .slice Ao10 t279.length co10] 25 (0, 0)) (by (with_reducible repeat (first | refine z1 ?_ _ | refine z3 ?_)); exact BK282.out) hb)
     have n4_ := z0 (y5 (g := gb288) (o := .cells #[.int .i64 t283, .int .i64 t284, .slice Ao15 t285.length co15] 25 (0, 0)) (by (with_reducible repeat (first | refine z1 ?_ _ | refine z3 ?_)); exact BK288.out) hb)
     have n5_ := z0 (y5 (g := gb294) (o := .cells #[.int .i64 t289, .int .i64 t290, .slice Ao22 t291.length co22] 25 (0, 0)) (by (with_reducible repeat (first | refine z1 ?_ _ | refine z3 ?_)); exact BK294.out) hb)
     have n6_ := z0 (y6 (by repeat (first | (with_reducible first | exact HB.out | apply z5 | apply z6 | refine z7 ?_ GE282.out | refine z7 ?_ GE288.out | refine z7 ?_ GE294.out) | exact HB.out)) hb)
     clear HO281
     clear HO287
     clear HO293
     clear BK282
     clear BK288
     clear BK294
     clear HB
     have HO281 := n0_
     have HO287 := n1_
     have HO293 := n2_
     have BK282 := n3_
     have BK288 := n4_
     have BK294 := n5_
     have HB := n6_
     clear n0_ n1_ n2_ n3_ n4_ n5_ n6_
     (try clear hb)
     (try clear hb2)
     (try clear hk)
     (try clear hi)
     refine hK.out _ _ ⟨(x3 BK288.out 0).trans rfl, (x3 BK288.out 1).trans rfl, (x3 BK288.out 2).trans rfl, (x3 BK282.out 0).trans rfl, (x3 BK282.out 1).trans rfl, (x3 BK282.out 2).trans rfl, (x3 BK294.out 0).trans rfl, (x3 BK294.out 1).trans rfl, (x3 BK294.out 2).trans rfl⟩ (fun hHeld => ?_)
     clear hK K
     refine norm_ (a' := ?_) ?_ ?_
     rotate_left
     ·show Act.put _ (some 19) _ = _
      simp only [Act.put, List.setIfInBounds_toArray, List.set_cons_zero, List.set_cons_succ, i64_w, i32_w]
      rfl
     refine pure_ (i := 3) (N := some 20) (v := ?_) (a' := ?_) #[true, true, true, true, false, false, false, false, false, false, false, false, false, false, false, false, false] rfl rfl (any_of HT_.out (by kernel_rfl)) (fun _ _ _ h => h) (Or.inl ⟨by rfl, ?_⟩) ?_ ?_
     rotate_left
     ·intro w'
      go_simp
      with_reducible rfl
     rotate_left
     ·simp only [Act.put, List.setIfInBounds_toArray, List.set_cons_zero, List.set_cons_succ, i64_w, i32_w]
      rfl
     refine pure_ (i := 4) (N := some 21) (v := ?_) (a' := ?_) #[true, true, true, true, true, false, false, false, false, false, false, false, false, false, false, false, false] rfl rfl (any_of HT_.out (by kernel_rfl)) (fun _ _ _ h => h) (Or.inl ⟨by rfl, ?_⟩) ?_ ?_
     rotate_left
     ·intro w'
      go_simp
      with_reducible rfl
     rotate_left
     ·simp only [Act.put, List.setIfInBounds_toArray, List.set_cons_zero, List.set_cons_succ, i64_w, i32_w]
      rfl
     refine take_ (i := 5) (N := some 22) (v := ?_) (a' := ?_) #[true, true, true, true, true, true, false, false, false, false, false, false, false, false, false, false, false] rfl rfl (take_ofW HT_.out HW_.out (by kernel_rfl)) (fun _ _ _ h => h) (Or.inl ⟨by rfl, ?_⟩) hHeld ?_ ?_
     rotate_left
     ·rintro w' ⟨s0, s1, s2, s3, s4, s5, s6, s7, s8⟩
      go_simp
      with_reducible rfl
     rotate_left
     ·simp only [Act.put, List.setIfInBounds_toArray, List.set_cons_zero, List.set_cons_succ, i64_w, i32_w]
      rfl
     refine take_ (i := 6) (N := some 23) (v := ?_) (a' := ?_) #[true, true, true, true, true, true, true, false, false, false, false, false, false, false, false, false, false] rfl rfl (take_ofW HT_.out HW_.out (by kernel_rfl)) (fun _ _ _ h => h) (Or.inl ⟨by rfl, ?_⟩) hHeld ?_ ?_
     rotate_left
     ·rintro w' ⟨s0, s1, s2, s3, s4, s5, s6, s7, s8⟩
      go_simp
      with_reducible rfl
     rotate_left
     ·simp only [Act.put, List.setIfInBounds_toArray, List.set_cons_zero, List.set_cons_succ, i64_w, i32_w]
      rfl
     refine one_ (i := 7) (N := some 24) #[true, true, true, true, true, true, true, true, false, false, false, false, false, false, false, false, false] rfl rfl (one_of HT_.out (by kernel_rfl)) (by decide) (fun K hK => ?_)
     refine goes_ Try.func46 (by kernel_rfl) rfl #[.agg #[.int .i64 t277, .int .i64 t278, .slice Ao10 t279.length co10], .agg #[.int .i64 t289, .int .i64 t290, .slice Ao22 t291.length co22]] (by rfl) rfl rfl (by (try simp only [List.map_toArray, List.map_cons, List.map_nil]); first | done | rfl) ?_
     with_reducible refine (impl_CoversPicture.calls k t277 t278 _ _ t279 t289 t290 _ _ t291 true _ ?side1 ?side2 ?side3 ?side4 A25.out).mono ?_
     (case side1 => repeat (first | exact (x5 HO281.out).2.2 | (with_reducible refine y3 ?_ _) | (with_reducible refine y4 ?_)))
     (case side2 => exact (x5 HO281.out).2.1)
     (case side3 => repeat (first | exact (x5 HO293.out).2.2 | (with_reducible refine y3 ?_ _) | (with_reducible refine y4 ?_)))
     (case side4 => exact (x5 HO293.out).2.1)
     rintro e w32 ⟨rfl, hb⟩
     refine ⟨_, rfl, ?_⟩
     have n0_ := z0 (x4 (by (with_reducible repeat (first | apply z9 | apply y1)); exact HO281.out) hb)
     have n1_ := z0 (x4 (by (with_reducible repeat (first | apply z9 | apply y1)); exact HO287.out) hb)
     have n2_ := z0 (x4 (by (with_reducible repeat (first | apply z9 | apply y1)); exact HO293.out) hb)
     have n3_ := z0 (y5 (g := gb282) (o := .cells #[.int .i64 t277, .int .i64 t278, .slice Ao10 t279.length co10] 25 (0, 0)) (by (with_reducible repeat (first | refine z1 ?_ _ | refine z3 ?_)); exact BK282.out) hb)
     have n4_ := z0 (y5 (g := gb288) (o := .cells #[.int .i64 t283, .int .i64 t284, .slice Ao15 t285.length co15] 25 (0, 0)) (by (with_reducible repeat (first | refine z1 ?_ _ | refine z3 ?_)); exact BK288.out) hb)
     have n5_ := z0 (y5 (g := gb294) (o := .cells #[.int .i64 t289, .int .i64 t290, .slice Ao22 t291.length co22] 25 (0, 0)) (by (with_reducible repeat (first | refine z1 ?_ _ | refine z3 ?_)); exact BK294.out) hb)
     have n6_ := z0 (y6 (by repeat (first | (with_reducible first | exact HB.out | apply z5 | apply z6 | refine z7 ?_ GE282.out | refine z7 ?_ GE288.out | refine z7 ?_ GE294.out) | exact HB.out)) hb)
     clear HO281
     clear HO287
     clear HO293
     clear BK282
     clear BK288
     clear BK294
     clear HB
     have HO281 := n0_
     have HO287 := n1_
     have HO293 := n2_
     have BK282 := n3_
     have BK288 := n4_
     have BK294 := n5_
     have HB := n6_
     clear n0_ n1_ n2_ n3_ n4_ n5_ n6_
     (try clear hb)
     (try clear hb2)
     (try clear hk)
     (try clear hi)
     refine hK.out _ _ ⟨(x3 BK288.out 0).trans rfl, (x3 BK288.out 1).trans rfl, (x3 BK288.out 2).trans rfl, (x3 BK282.out 0).trans rfl, (x3 BK282.out 1).trans rfl, (x3 BK282.out 2).trans rfl, (x3 BK294.out 0).trans rfl, (x3 BK294.out 1).trans rfl, (x3 BK294.out 2).trans rfl⟩ (fun hHeld => ?_)
     clear hK K
     refine norm_ (a' := ?_) ?_ ?_
     rotate_left
     ·show Act.put _ (some 24) _ = _
      simp only [Act.put, List.setIfInBounds_toArray, List.set_cons_zero, List.set_cons_succ, i64_w, i32_w]
      rfl
     refine pure_ (i := 8) (N := some 25) (v := ?_) (a' := ?_) #[true, true, true, true, true, true, true, true, true, false, false, false, false, false, false, false, false] rfl rfl (any_of HT_.out (by kernel_rfl)) (fun _ _ _ h => h) (Or.inl ⟨by rfl, ?_⟩) ?_ ?_
     rotate_left
     ·intro w'
      go_simp
      with_reducible rfl
     rotate_left
     ·simp only [Act.put, List.setIfInBounds_toArray, List.set_cons_zero, List.set_cons_succ, i64_w, i32_w]
      rfl
     refine pure_ (i := 9) (N := some 26) (v := ?_) (a' := ?_) #[true, true, true, true, true, true, true, true, true, true, false, false, false, false, false, false, false] rfl rfl (any_of HT_.out (by kernel_rfl)) (fun _ _ _ h => h) (Or.inl ⟨by rfl, ?_⟩) ?_ ?_
     rotate_left
     ·intro w'
      go_simp
      with_reducible rfl
     rotate_left
     ·simp only [Act.put, List.setIfInBounds_toArray, List.set_cons_zero, List.set_cons_succ, i64_w, i32_w]
      rfl
     refine pure_ (i := 10) (N := some 27) (v := ?_) (a' := ?_) #[true, true, true, true, true, true, true, true, true, true, true, false, false, false, false, false, false] rfl rfl (any_of HT_.out (by kernel_rfl)) (fun _ _ _ h => h) (Or.inl ⟨by rfl, ?_⟩) ?_ ?_
     rotate_left
     ·intro w'
      go_simp
      with_reducible rfl
     rotate_left
     ·simp only [Act.put, List.setIfInBounds_toArray, List.set_cons_zero, List.set_cons_succ, i64_w, i32_w]
      rfl
     refine take_ (i := 11) (N := some 28) (v := ?_) (a' := ?_) #[true, true, true, true, true, true, true, true, true, true, true, true, false, false, false, false, false] rfl rfl (take_ofW HT_.out HW_.out (by kernel_rfl)) (fun _ _ _ h => h) (Or.inl ⟨by rfl, ?_⟩) hHeld ?_ ?_
     rotate_left
     ·rintro w' ⟨s0, s1, s2, s3, s4, s5, s6, s7, s8⟩
      go_simp
      with_reducible rfl
     rotate_left
     ·simp only [Act.put, List.setIfInBounds_toArray, List.set_cons_zero, List.set_cons_succ, i64_w, i32_w]
      rfl
     refine take_ (i := 13) (N := some 30) (v := ?_) (a' := ?_) #[true, true, true, true, true, true, true, true, true, true, true, true, false, true, false, false, false] rfl rfl (take_ofW HT_.out HW_.out (by kernel_rfl)) (fun _ _ _ h => h) (Or.inl ⟨by rfl, ?_⟩) hHeld ?_ ?_
     rotate_left
     ·rintro w' ⟨s0, s1, s2, s3, s4, s5, s6, s7, s8⟩
      go_simp
      with_reducible rfl
     rotate_left
     ·simp only [Act.put, List.setIfInBounds_toArray, List.set_cons_zero, List.set_cons_succ, i64_w, i32_w]
      rfl
     refine one_ (i := 12) (N := some 29) #[true, true, true, true, true, true, true, true, true, true, true, true, true, true, false, false, false] rfl rfl (one_of HT_.out (by kernel_rfl)) (by decide) (fun K hK => ?_)
     refine goes_ Try.func45 (by kernel_rfl) rfl #[.agg #[.int .i64 t283, .int .i64 t284, .slice Ao15 t285.length co15]] (by rfl) rfl rfl (by (try simp only [List.map_toArray, List.map_cons, List.map_nil]); first | done | rfl) ?_
     with_reducible refine (impl_ShrinkPlate.calls t283 t284 _ _ t285 t297 t298 t299 _ ?side1 ?side2 A27.out).mono ?_
     (case side1 => repeat (first | exact (x5 HO287.out).2.2 | (with_reducible refine y3 ?_ _) | (with_reducible refine y4 ?_)))
     (case side2 => exact (x5 HO287.out).2.1)
     rintro e w33 ⟨v300, rfl, ho0, hb⟩
     refine ⟨_, rfl, ?_⟩
     have n0_ := z0 (y8 (by (with_reducible repeat (first | apply z9 | apply y1)); exact HO281.out) (w2_ ho0) hb)
     have n1_ := z0 (y8 (by (with_reducible repeat (first | apply z9 | apply y1)); exact HO287.out) (w2_ ho0) hb)
     have n2_ := z0 (y8 (by (with_reducible repeat (first | apply z9 | apply y1)); exact HO293.out) (w2_ ho0) hb)
     have n3_ := z0 (Kd.R_lower (Kd.R_new' (Kd.R_new' (Kd.R_new' ho0 (Kd.R_lt (by (with_reducible repeat (first | apply z9 | apply y1)); exact HO281.out))) (Kd.R_lt (by (with_reducible repeat (first | apply z9 | apply y1)); exact HO287.out))) (Kd.R_lt (by (with_reducible repeat (first | apply z9 | apply y1)); exact HO293.out))) (y7 (by repeat (first | (with_reducible first | exact HB.out | apply z5 | apply z6 | refine z7 ?_ GE282.out | refine z7 ?_ GE288.out | refine z7 ?_ GE294.out) | exact HB.out))))
     have n4_ := z0 (y5 (g := gb282) (o := .cells #[.int .i64 t277, .int .i64 t278, .slice Ao10 t279.length co10] 25 (0, 0)) (by (with_reducible repeat (first | refine z1 ?_ _ | refine z3 ?_)); exact BK282.out) hb)
     have n5_ := z0 (y5 (g := gb288) (o := .cells #[.int .i64 t283, .int .i64 t284, .slice Ao15 t285.length co15] 25 (0, 0)) (by (with_reducible repeat (first | refine z1 ?_ _ | refine z3 ?_)); exact BK288.out) hb)
     have n6_ := z0 (y5 (g := gb294) (o := .cells #[.int .i64 t289, .int .i64 t290, .slice Ao22 t291.length co22] 25 (0, 0)) (by (with_reducible repeat (first | refine z1 ?_ _ | refine z3 ?_)); exact BK294.out) hb)
     have n7_ := z0 (y6 (by repeat (first | (with_reducible first | exact HB.out | apply z5 | apply z6 | refine z7 ?_ GE282.out | refine z7 ?_ GE288.out | refine z7 ?_ GE294.out) | exact HB.out)) hb)
     clear HO281
     clear HO287
     clear HO293
     clear BK282
     clear BK288
     clear BK294
     clear HB
     have HO281 := n0_
     have HO287 := n1_
     have HO293 := n2_
     have HO301 := n3_
     have BK282 := n4_
     have BK288 := n5_
     have BK294 := n6_
     have HB := n7_
     clear n0_ n1_ n2_ n3_ n4_ n5_ n6_ n7_
     (try clear hb)
     (try clear hb2)
     (try clear hk)
     (try clear hi)
     (try clear ho0)
     obtain ⟨Ao34, co34, eo34⟩ := Kd.R_slice HO301.out
     (first | subst eo34 | (injection eo34 with f1_ f2_ f3_; have f4_ := f1_.symm; have f5_ := f3_.symm; clear f1_ f2_ f3_; subst f4_; subst f5_))
     refine hK.out _ _ ⟨(x3 BK288.out 0).trans rfl, (x3 BK288.out 1).trans rfl, (x3 BK288.out 2).trans rfl, (x3 BK282.out 0).trans rfl, (x3 BK282.out 1).trans rfl, (x3 BK282.out 2).trans rfl, (x3 BK294.out 0).trans rfl, (x3 BK294.out 1).trans rfl, (x3 BK294.out 2).trans rfl⟩ (fun hHeld => ?_)
     clear hK K
     refine norm_ (a' := ?_) ?_ ?_
     rotate_left
     ·show Act.put _ (some 29) _ = _
      simp only [Act.put, List.setIfInBounds_toArray, List.set_cons_zero, List.set_cons_succ, i64_w, i32_w]
      rfl
     refine one_ (i := 14) (N := some 31) #[true, true, true, true, true, true, true, true, true, true, true, true, true, true, true, false, false] rfl rfl (one_of HT_.out (by kernel_rfl)) (by decide) (fun K hK => ?_)
     refine goes_ Try.func46 (by kernel_rfl) rfl #[.agg #[.int .i64 t297, .int .i64 t298, .slice Ao34 t299.length co34], .agg #[.int .i64 t277, .int .i64 t278, .slice Ao10 t279.length co10]] (by rfl) rfl rfl (by (try simp only [List.map_toArray, List.map_cons, List.map_nil]); first | done | rfl) ?_
     with_reducible refine (impl_CoversPicture.calls k t297 t298 _ _ t299 t277 t278 _ _ t279 t302 _ ?side1 ?side2 ?side3 ?side4 A28.out).mono ?_
     (case side1 => repeat (first | exact (x5 HO301.out).2.2 | (with_reducible refine y3 ?_ _) | (with_reducible refine y4 ?_)))
     (case side2 => exact (x5 HO301.out).2.1)
     (case side3 => repeat (first | exact (x5 HO281.out).2.2 | (with_reducible refine y3 ?_ _) | (with_reducible refine y4 ?_)))
     (case side4 => exact (x5 HO281.out).2.1)
     rintro e w35 ⟨rfl, hb⟩
     refine ⟨_, rfl, ?_⟩
     have n0_ := z0 (x4 (by (with_reducible repeat (first | apply z9 | apply y1)); exact HO281.out) hb)
     have n1_ := z0 (x4 (by (with_reducible repeat (first | apply z9 | apply y1)); exact HO287.out) hb)
     have n2_ := z0 (x4 (by (with_reducible repeat (first | apply z9 | apply y1)); exact HO293.out) hb)
     have n3_ := z0 (x4 (by (with_reducible repeat (first | apply z9 | apply y1)); exact HO301.out) hb)
     have n4_ := z0 (y5 (g := gb282) (o := .cells #[.int .i64 t277, .int .i64 t278, .slice Ao10 t279.length co10] 25 (0, 0)) (by (with_reducible repeat (first | refine z1 ?_ _ | refine z3 ?_)); exact BK282.out) hb)
     have n5_ := z0 (y5 (g := gb288) (o := .cells #[.int .i64 t283, .int .i64 t284, .slice Ao15 t285.length co15] 25 (0, 0)) (by (with_reducible repeat (first | refine z1 ?_ _ | refine z3 ?_)); exact BK288.out) hb)
     have n6_ := z0 (y5 (g := gb294) (o := .cells #[.int .i64 t289, .int .i64 t290, .slice Ao22 t291.length co22] 25 (0, 0)) (by (with_reducible repeat (first | refine z1 ?_ _ | refine z3 ?_)); exact BK294.out) hb)
     have n7_ := z0 (y6 (by repeat (first | (with_reducible first | exact HB.out | apply z5 | apply z6 | refine z7 ?_ GE282.out | refine z7 ?_ GE288.out | refine z7 ?_ GE294.out) | exact HB.out)) hb)
     clear HO281
     clear HO287
     clear HO293
     clear HO301
     clear BK282
     clear BK288
     clear BK294
     clear HB
     have HO281 := n0_
     have HO287 := n1_
     have HO293 := n2_
     have HO301 := n3_
     have BK282 := n4_
     have BK288 := n5_
     have BK294 := n6_
     have HB := n7_
     clear n0_ n1_ n2_ n3_ n4_ n5_ n6_ n7_
     (try clear hb)
     (try clear hb2)
     (try clear hk)
     (try clear hi)
     refine hK.out _ _ ⟨(x3 BK288.out 0).trans rfl, (x3 BK288.out 1).trans rfl, (x3 BK288.out 2).trans rfl, (x3 BK282.out 0).trans rfl, (x3 BK282.out 1).trans rfl, (x3 BK282.out 2).trans rfl, (x3 BK294.out 0).trans rfl, (x3 BK294.out 1).trans rfl, (x3 BK294.out 2).trans rfl⟩ (fun hHeld => ?_)
     clear hK K
     refine norm_ (a' := ?_) ?_ ?_
     rotate_left
     ·show Act.put _ (some 31) _ = _
      simp only [Act.put, List.setIfInBounds_toArray, List.set_cons_zero, List.set_cons_succ, i64_w, i32_w]
      rfl
     refine pure_ (i := 15) (N := some 32) (v := ?_) (a' := ?_) #[true, true, true, true, true, true, true, true, true, true, true, true, true, true, true, true, false] rfl rfl (any_of HT_.out (by kernel_rfl)) (fun _ _ _ h => h) (Or.inl ⟨by rfl, ?_⟩) ?_ ?_
     rotate_left
     ·intro w'
      go_simp
      with_reducible rfl
     rotate_left
     ·simp only [Act.put, List.setIfInBounds_toArray, List.set_cons_zero, List.set_cons_succ, i64_w, i32_w]
      rfl
     refine pure_ (i := 16) (N := some 33) (v := ?_) (a' := ?_) #[true, true, true, true, true, true, true, true, true, true, true, true, true, true, true, true, true] rfl rfl (any_of HT_.out (by kernel_rfl)) (fun _ _ _ h => h) (Or.inl ⟨by rfl, ?_⟩) ?_ ?_
     rotate_left
     ·intro w'
      go_simp
      with_reducible rfl
     rotate_left
     ·simp only [Act.put, List.setIfInBounds_toArray, List.set_cons_zero, List.set_cons_succ, i64_w, i32_w]
      rfl
     refine done_ (done_of HT_.out (by kernel_rfl)) ?_
     try go_wp2
     go_meet
     case rel => exact ⟨_, (!t302), (by first | rfl | (simp; done) | (simp [*]; done)), H', ⟨by first | omega | exact Nat.le_refl _⟩, ⟨by (with_reducible repeat (first | apply z9 | apply y1)); exact x6 HO281.out (fun _ hk => ⟨hk.1.1, hk.1.2⟩)⟩, ⟨by (with_reducible repeat (first | apply z9 | apply y1)); exact x6 HO287.out (fun _ hk => ⟨hk.1.1, hk.1.2⟩)⟩, ⟨by (with_reducible repeat (first | apply z9 | apply y1)); exact x6 HO293.out (fun _ hk => ⟨hk.1.1, hk.1.2⟩)⟩, ⟨by (with_reducible repeat (first | refine z1 ?_ _ | refine z3 ?_)); exact BK282.out⟩, ⟨by (with_reducible repeat (first | refine z1 ?_ _ | refine z3 ?_)); exact BK288.out⟩, ⟨by (with_reducible repeat (first | refine z1 ?_ _ | refine z3 ?_)); exact BK294.out⟩, ⟨by repeat (first | (with_reducible first | exact HB.out | apply z5 | apply z6 | refine z7 ?_ GE282.out | refine z7 ?_ GE288.out | refine z7 ?_ GE294.out) | exact HB.out)⟩⟩
    ·replace c26 := Bool.eq_false_iff.mpr c26
     subst c26
     have H1 : (laws_FnGrown.j0 k true t277 t278 t279 t283 t284 t285 t289 t290 t291) = some r := by rw [if_neg (show ¬ (false = true) by decide)] at H; first | exact H | (simp only [if_true] at H ⊢; exact H)
     clear H
     have H := H1
     clear H1
     have H' := z0 H
     clear H
     try go_wp2
     have n0_ : Aside0 (Kd.R (Kd.int .i64) 3 (((w18.setCell ⟨gb294, 0, none⟩ (.int .i64 t289)).setCell ⟨gb294, 1, none⟩ (.int .i64 t290)).setCell ⟨gb294, 2, none⟩ (.slice Ao22 t291.length co22)) w.heap.size (fun k_ => some k_ ≠ (.slice Ao15 t285.length co15 : Value).ownBlock ∧ some k_ ≠ (.slice Ao22 t291.length co22 : Value).ownBlock) (.slice Ao10 t279.length co10) t279) := ⟨by (with_reducible repeat (first | apply z9 | apply y1)); exact x6 (x1 (p := ⟨gb294, 2, none⟩) (x1 (p := ⟨gb294, 1, none⟩) (x1 (p := ⟨gb294, 0, none⟩) (x7 HO281.out BK294.out (by decide)) (fun _ hk => hk.2) (.int .i64 t289)) (fun _ hk => hk.2) (.int .i64 t290)) (fun _ hk => hk.2) (.slice Ao22 t291.length co22)) (fun _ hk => ⟨hk.1.1.2, hk.1.2⟩)⟩
     have n1_ : Aside0 (Kd.R (Kd.int .i64) 3 (((w18.setCell ⟨gb294, 0, none⟩ (.int .i64 t289)).setCell ⟨gb294, 1, none⟩ (.int .i64 t290)).setCell ⟨gb294, 2, none⟩ (.slice Ao22 t291.length co22)) w.heap.size (fun k_ => some k_ ≠ (.slice Ao10 t279.length co10 : Value).ownBlock ∧ some k_ ≠ (.slice Ao22 t291.length co22 : Value).ownBlock) (.slice Ao15 t285.length co15) t285) := ⟨by (with_reducible repeat (first | apply z9 | apply y1)); exact x6 (x1 (p := ⟨gb294, 2, none⟩) (x1 (p := ⟨gb294, 1, none⟩) (x1 (p := ⟨gb294, 0, none⟩) (x7 HO287.out BK294.out (by decide)) (fun _ hk => hk.2) (.int .i64 t289)) (fun _ hk => hk.2) (.int .i64 t290)) (fun _ hk => hk.2) (.slice Ao22 t291.length co22)) (fun _ hk => ⟨hk.1.1.2, hk.1.2⟩)⟩
     have n2_ : Aside0 (Kd.R (Kd.int .i64) 3 (((w18.setCell ⟨gb294, 0, none⟩ (.int .i64 t289)).setCell ⟨gb294, 1, none⟩ (.int .i64 t290)).setCell ⟨gb294, 2, none⟩ (.slice Ao22 t291.length co22)) w.heap.size (fun k_ => some k_ ≠ (.slice Ao10 t279.length co10 : Value).ownBlock ∧ some k_ ≠ (.slice Ao15 t285.length co15 : Value).ownBlock) (.slice Ao22 t291.length co22) t291) := ⟨by (with_reducible repeat (first | apply z9 | apply y1)); exact x6 (x1 (p := ⟨gb294, 2, none⟩) (x1 (p := ⟨gb294, 1, none⟩) (x1 (p := ⟨gb294, 0, none⟩) (x7 HO293.out BK294.out (by decide)) (fun _ hk => hk.2) (.int .i64 t289)) (fun _ hk => hk.2) (.int .i64 t290)) (fun _ hk => hk.2) (.slice Ao22 t291.length co22)) (fun _ hk => ⟨hk.1.1.2, hk.1.2⟩)⟩
     have n3_ : Aside0 ((((w18.setCell ⟨gb294, 0, none⟩ (.int .i64 t289)).setCell ⟨gb294, 1, none⟩ (.int .i64 t290)).setCell ⟨gb294, 2, none⟩ (.slice Ao22 t291.length co22)).heap[gb282]? = some (.cells #[.int .i64 t277, .int .i64 t278, .slice Ao10 t279.length co10] 25 (0, 0))) := ⟨by (with_reducible repeat (first | refine z1 ?_ _ | refine z3 ?_)); refine x8 ?_ NB282_294.out _; (with_reducible repeat (first | refine z1 ?_ _ | refine z3 ?_)); refine x8 ?_ NB282_294.out _; (with_reducible repeat (first | refine z1 ?_ _ | refine z3 ?_)); refine x8 ?_ NB282_294.out _; (with_reducible repeat (first | refine z1 ?_ _ | refine z3 ?_)); exact BK282.out⟩
     have n4_ : Aside0 ((((w18.setCell ⟨gb294, 0, none⟩ (.int .i64 t289)).setCell ⟨gb294, 1, none⟩ (.int .i64 t290)).setCell ⟨gb294, 2, none⟩ (.slice Ao22 t291.length co22)).heap[gb288]? = some (.cells #[.int .i64 t283, .int .i64 t284, .slice Ao15 t285.length co15] 25 (0, 0))) := ⟨by (with_reducible repeat (first | refine z1 ?_ _ | refine z3 ?_)); refine x8 ?_ NB288_294.out _; (with_reducible repeat (first | refine z1 ?_ _ | refine z3 ?_)); refine x8 ?_ NB288_294.out _; (with_reducible repeat (first | refine z1 ?_ _ | refine z3 ?_)); refine x8 ?_ NB288_294.out _; (with_reducible repeat (first | refine z1 ?_ _ | refine z3 ?_)); exact BK288.out⟩
     have n5_ : Aside0 ((((w18.setCell ⟨gb294, 0, none⟩ (.int .i64 t289)).setCell ⟨gb294, 1, none⟩ (.int .i64 t290)).setCell ⟨gb294, 2, none⟩ (.slice Ao22 t291.length co22)).heap[gb294]? = some (.cells #[.int .i64 t289, .int .i64 t290, .slice Ao22 t291.length co22] 25 (0, 0))) := ⟨by (with_reducible repeat (first | refine z1 ?_ _ | refine z3 ?_)); refine blk_put (cs := #[.int .i64 t289, .int .i64 t290, .slice none 0 0]) ?_ 2 _ rfl; (with_reducible repeat (first | refine z1 ?_ _ | refine z3 ?_)); refine blk_put (cs := #[.int .i64 t289, .int .i64 0, .slice none 0 0]) ?_ 1 _ rfl; (with_reducible repeat (first | refine z1 ?_ _ | refine z3 ?_)); refine blk_put (cs := #[.int .i64 0, .int .i64 0, .slice none 0 0]) ?_ 0 _ rfl; (with_reducible repeat (first | refine z1 ?_ _ | refine z3 ?_)); exact BK294.out⟩
     have n6_ : Aside0 (Below w.heap.size w (((w18.setCell ⟨gb294, 0, none⟩ (.int .i64 t289)).setCell ⟨gb294, 1, none⟩ (.int .i64 t290)).setCell ⟨gb294, 2, none⟩ (.slice Ao22 t291.length co22))) := ⟨by repeat (first | (with_reducible first | exact HB.out | apply z5 | apply z6 | refine z7 ?_ GE282.out | refine z7 ?_ GE288.out | refine z7 ?_ GE294.out) | exact HB.out)⟩
     (try clear HO281)
     (try clear HO287)
     (try clear HO293)
     (try clear BK282)
     (try clear BK288)
     (try clear BK294)
     (try clear HB)
     generalize (((w18.setCell ⟨gb294, 0, none⟩ (.int .i64 t289)).setCell ⟨gb294, 1, none⟩ (.int .i64 t290)).setCell ⟨gb294, 2, none⟩ (.slice Ao22 t291.length co22)) = w36 at n0_ n1_ n2_ n3_ n4_ n5_ n6_ ⊢
     have HO281 := n0_
     have HO287 := n1_
     have HO293 := n2_
     have BK282 := n3_
     have BK288 := n4_
     have BK294 := n5_
     have HB := n6_
     clear n0_ n1_ n2_ n3_ n4_ n5_ n6_
     have n0_ := z0 (y1 HO281.out)
     have n1_ := z0 (y1 HO287.out)
     have n2_ := z0 (y1 HO293.out)
     have n3_ := z0 (z3 BK282.out)
     have n4_ := z0 (z3 BK288.out)
     have n5_ := z0 (z3 BK294.out)
     have n6_ := z0 (z6 HB.out)
     clear HO281
     clear HO287
     clear HO293
     clear BK282
     clear BK288
     clear BK294
     clear HB
     have HO281 := n0_
     have HO287 := n1_
     have HO293 := n2_
     have BK282 := n3_
     have BK288 := n4_
     have BK294 := n5_
     have HB := n6_
     clear n0_ n1_ n2_ n3_ n4_ n5_ n6_
     refine start_ (n := 17) (S := fun w' => w'.cell? ⟨gb288, 0, none⟩ = some (.int .i64 t283) ∧ w'.cell? ⟨gb288, 1, none⟩ = some (.int .i64 t284) ∧ w'.cell? ⟨gb288, 2, none⟩ = some (.slice Ao15 t285.length co15) ∧ w'.cell? ⟨gb282, 0, none⟩ = some (.int .i64 t277) ∧ w'.cell? ⟨gb282, 1, none⟩ = some (.int .i64 t278) ∧ w'.cell? ⟨gb282, 2, none⟩ = some (.slice Ao10 t279.length co10) ∧ w'.cell? ⟨gb294, 0, none⟩ = some (.int .i64 t289) ∧ w'.cell? ⟨gb294, 1, none⟩ = some (.int .i64 t290) ∧ w'.cell? ⟨gb294, 2, none⟩ = some (.slice Ao22 t291.length co22)) (ds := []) #[false, false, false, false, false, false, false, false, false, false, false, false, false, false, false, false, false] (by kernel_rfl) rfl rfl ⟨(x3 BK288.out 0).trans rfl, (x3 BK288.out 1).trans rfl, (x3 BK288.out 2).trans rfl, (x3 BK282.out 0).trans rfl, (x3 BK282.out 1).trans rfl, (x3 BK282.out 2).trans rfl, (x3 BK294.out 0).trans rfl, (x3 BK294.out 1).trans rfl, (x3 BK294.out 2).trans rfl⟩ (fun hHeld => ?_); refine with_tabW laws_FnGrown.tab6 laws_FnGrown.bits6 (fun HT_ HW_ => ?_)
     generalize w36.drew = w37 at HO281 HO287 HO293 BK282 BK288 BK294 HB hHeld ⊢
     refine take_ (i := 0) (N := some 17) (v := ?_) (a' := ?_) #[true, false, false, false, false, false, false, false, false, false, false, false, false, false, false, false, false] rfl rfl (take_ofW HT_.out HW_.out (by kernel_rfl)) (fun _ _ _ h => h) (Or.inl ⟨by rfl, ?_⟩) hHeld ?_ ?_
     rotate_left
     ·rintro w' ⟨s0, s1, s2, s3, s4, s5, s6, s7, s8⟩
      go_simp
      with_reducible rfl
     rotate_left
     ·simp only [Act.put, List.setIfInBounds_toArray, List.set_cons_zero, List.set_cons_succ, i64_w, i32_w]
      rfl
     refine take_ (i := 1) (N := some 18) (v := ?_) (a' := ?_) #[true, true, false, false, false, false, false, false, false, false, false, false, false, false, false, false, false] rfl rfl (take_ofW HT_.out HW_.out (by kernel_rfl)) (fun _ _ _ h => h) (Or.inl ⟨by rfl, ?_⟩) hHeld ?_ ?_
     rotate_left
     ·rintro w' ⟨s0, s1, s2, s3, s4, s5, s6, s7, s8⟩
      go_simp
      with_reducible rfl
     rotate_left
     ·simp only [Act.put, List.setIfInBounds_toArray, List.set_cons_zero, List.set_cons_succ, i64_w, i32_w]
      rfl
     refine one_ (i := 2) (N := some 19) #[true, true, true, false, false, false, false, false, false, false, false, false, false, false, false, false, false] rfl rfl (one_of HT_.out (by kernel_rfl)) (by decide) (fun K hK => ?_)
     refine goes_ Try.func46 (by kernel_rfl) rfl #[.agg #[.int .i64 t283, .int .i64 t284, .slice Ao15 t285.length co15], .agg #[.int .i64 t277, .int .i64 t278, .slice Ao10 t279.length co10]] (by rfl) rfl rfl (by (try simp only [List.map_toArray, List.map_cons, List.map_nil]); first | done | rfl) ?_
     with_reducible refine (impl_CoversPicture.calls k t283 t284 _ _ t285 t277 t278 _ _ t279 true _ ?side1 ?side2 ?side3 ?side4 A23.out).mono ?_
     (case side1 => repeat (first | exact (x5 HO287.out).2.2 | (with_reducible refine y3 ?_ _) | (with_reducible refine y4 ?_)))
     (case side2 => exact (x5 HO287.out).2.1)
     (case side3 => repeat (first | exact (x5 HO281.out).2.2 | (with_reducible refine y3 ?_ _) | (with_reducible refine y4 ?_)))
     (case side4 => exact (x5 HO281.out).2.1)
     rintro e w38 ⟨rfl, hb⟩
     refine ⟨_, rfl, ?_⟩
     have n0_ := z0 (x4 (by (with_reducible repeat (first | apply z9 | apply y1)); exact HO281.out) hb)
     have n1_ := z0 (x4 (by (with_reducible repeat (first | apply z9 | apply y1)); exact HO287.out) hb)
     have n2_ := z0 (x4 (by (with_reducible repeat (first | apply z9 | apply y1)); exact HO293.out) hb)
     have n3_ := z0 (y5 (g := gb282) (o := .cells #[.int .i64 t277, .int .i64 t278, .slice Ao10 t279.length co10] 25 (0, 0)) (by (with_reducible repeat (first | refine z1 ?_ _ | refine z3 ?_)); exact BK282.out) hb)
     have n4_ := z0 (y5 (g := gb288) (o := .cells #[.int .i64 t283, .int .i64 t284, .slice Ao15 t285.length co15] 25 (0, 0)) (by (with_reducible repeat (first | refine z1 ?_ _ | refine z3 ?_)); exact BK288.out) hb)
     have n5_ := z0 (y5 (g := gb294) (o := .cells #[.int .i64 t289, .int .i64 t290, .slice Ao22 t291.length co22] 25 (0, 0)) (by (with_reducible repeat (first | refine z1 ?_ _ | refine z3 ?_)); exact BK294.out) hb)
     have n6_ := z0 (y6 (by repeat (first | (with_reducible first | exact HB.out | apply z5 | apply z6 | refine z7 ?_ GE282.out | refine z7 ?_ GE288.out | refine z7 ?_ GE294.out) | exact HB.out)) hb)
     clear HO281
     clear HO287
     clear HO293
     clear BK282
     clear BK288
     clear BK294
     clear HB
     have HO281 := n0_
     have HO287 := n1_
     have HO293 := n2_
     have BK282 := n3_
     have BK288 := n4_
     have BK294 := n5_
     have HB := n6_
     clear n0_ n1_ n2_ n3_ n4_ n5_ n6_
     (try clear hb)
     (try clear hb2)
     (try clear hk)
     (try clear hi)
     refine hK.out _ _ ⟨(x3 BK288.out 0).trans rfl, (x3 BK288.out 1).trans rfl, (x3 BK288.out 2).trans rfl, (x3 BK282.out 0).trans rfl, (x3 BK282.out 1).trans rfl, (x3 BK282.out 2).trans rfl, (x3 BK294.out 0).trans rfl, (x3 BK294.out 1).trans rfl, (x3 BK294.out 2).trans rfl⟩ (fun hHeld => ?_)
     clear hK K
     refine norm_ (a' := ?_) ?_ ?_
     rotate_left
     ·show Act.put _ (some 19) _ = _
      simp only [Act.put, List.setIfInBounds_toArray, List.set_cons_zero, List.set_cons_succ, i64_w, i32_w]
      rfl
     refine pure_ (i := 3) (N := some 20) (v := ?_) (a' := ?_) #[true, true, true, true, false, false, false, false, false, false, false, false, false, false, false, false, false] rfl rfl (any_of HT_.out (by kernel_rfl)) (fun _ _ _ h => h) (Or.inl ⟨by rfl, ?_⟩) ?_ ?_
     rotate_left
     ·intro w'
      go_simp
      with_reducible rfl
     rotate_left
     ·simp only [Act.put, List.setIfInBounds_toArray, List.set_cons_zero, List.set_cons_succ, i64_w, i32_w]
      rfl
     refine pure_ (i := 4) (N := some 21) (v := ?_) (a' := ?_) #[true, true, true, true, true, false, false, false, false, false, false, false, false, false, false, false, false] rfl rfl (any_of HT_.out (by kernel_rfl)) (fun _ _ _ h => h) (Or.inl ⟨by rfl, ?_⟩) ?_ ?_
     rotate_left
     ·intro w'
      go_simp
      with_reducible rfl
     rotate_left
     ·simp only [Act.put, List.setIfInBounds_toArray, List.set_cons_zero, List.set_cons_succ, i64_w, i32_w]
      rfl
     refine take_ (i := 5) (N := some 22) (v := ?_) (a' := ?_) #[true, true, true, true, true, true, false, false, false, false, false, false, false, false, false, false, false] rfl rfl (take_ofW HT_.out HW_.out (by kernel_rfl)) (fun _ _ _ h => h) (Or.inl ⟨by rfl, ?_⟩) hHeld ?_ ?_
     rotate_left
     ·rintro w' ⟨s0, s1, s2, s3, s4, s5, s6, s7, s8⟩
      go_simp
      with_reducible rfl
     rotate_left
     ·simp only [Act.put, List.setIfInBounds_toArray, List.set_cons_zero, List.set_cons_succ, i64_w, i32_w]
      rfl
     refine take_ (i := 6) (N := some 23) (v := ?_) (a' := ?_) #[true, true, true, true, true, true, true, false, false, false, false, false, false, false, false, false, false] rfl rfl (take_ofW HT_.out HW_.out (by kernel_rfl)) (fun _ _ _ h => h) (Or.inl ⟨by rfl, ?_⟩) hHeld ?_ ?_
     rotate_left
     ·rintro w' ⟨s0, s1, s2, s3, s4, s5, s6, s7, s8⟩
      go_simp
      with_reducible rfl
     rotate_left
     ·simp only [Act.put, List.setIfInBounds_toArray, List.set_cons_zero, List.set_cons_succ, i64_w, i32_w]
      rfl
     refine one_ (i := 7) (N := some 24) #[true, true, true, true, true, true, true, true, false, false, false, false, false, false, false, false, false] rfl rfl (one_of HT_.out (by kernel_rfl)) (by decide) (fun K hK => ?_)
     refine goes_ Try.func46 (by kernel_rfl) rfl #[.agg #[.int .i64 t277, .int .i64 t278, .slice Ao10 t279.length co10], .agg #[.int .i64 t289, .int .i64 t290, .slice Ao22 t291.length co22]] (by rfl) rfl rfl (by (try simp only [List.map_toArray, List.map_cons, List.map_nil]); first | done | rfl) ?_
     with_reducible refine (impl_CoversPicture.calls k t277 t278 _ _ t279 t289 t290 _ _ t291 false _ ?side1 ?side2 ?side3 ?side4 A25.out).mono ?_
     (case side1 => repeat (first | exact (x5 HO281.out).2.2 | (with_reducible refine y3 ?_ _) | (with_reducible refine y4 ?_)))
     (case side2 => exact (x5 HO281.out).2.1)
     (case side3 => repeat (first | exact (x5 HO293.out).2.2 | (with_reducible refine y3 ?_ _) | (with_reducible refine y4 ?_)))
     (case side4 => exact (x5 HO293.out).2.1)
     rintro e w39 ⟨rfl, hb⟩
     refine ⟨_, rfl, ?_⟩
     have n0_ := z0 (x4 (by (with_reducible repeat (first | apply z9 | apply y1)); exact HO281.out) hb)
     have n1_ := z0 (x4 (by (with_reducible repeat (first | apply z9 | apply y1)); exact HO287.out) hb)
     have n2_ := z0 (x4 (by (with_reducible repeat (first | apply z9 | apply y1)); exact HO293.out) hb)
     have n3_ := z0 (y5 (g := gb282) (o := .cells #[.int .i64 t277, .int .i64 t278, .slice Ao10 t279.length co10] 25 (0, 0)) (by (with_reducible repeat (first | refine z1 ?_ _ | refine z3 ?_)); exact BK282.out) hb)
     have n4_ := z0 (y5 (g := gb288) (o := .cells #[.int .i64 t283, .int .i64 t284, .slice Ao15 t285.length co15] 25 (0, 0)) (by (with_reducible repeat (first | refine z1 ?_ _ | refine z3 ?_)); exact BK288.out) hb)
     have n5_ := z0 (y5 (g := gb294) (o := .cells #[.int .i64 t289, .int .i64 t290, .slice Ao22 t291.length co22] 25 (0, 0)) (by (with_reducible repeat (first | refine z1 ?_ _ | refine z3 ?_)); exact BK294.out) hb)
     have n6_ := z0 (y6 (by repeat (first | (with_reducible first | exact HB.out | apply z5 | apply z6 | refine z7 ?_ GE282.out | refine z7 ?_ GE288.out | refine z7 ?_ GE294.out) | exact HB.out)) hb)
     clear HO281
     clear HO287
     clear HO293
     clear BK282
     clear BK288
     clear BK294
     clear HB
     have HO281 := n0_
     have HO287 := n1_
     have HO293 := n2_
     have BK282 := n3_
     have BK288 := n4_
     have BK294 := n5_
     have HB := n6_
     clear n0_ n1_ n2_ n3_ n4_ n5_ n6_
     (try clear hb)
     (try clear hb2)
     (try clear hk)
     (try clear hi)
     refine hK.out _ _ ⟨(x3 BK288.out 0).trans rfl, (x3 BK288.out 1).trans rfl, (x3 BK288.out 2).trans rfl, (x3 BK282.out 0).trans rfl, (x3 BK282.out 1).trans rfl, (x3 BK282.out 2).trans rfl, (x3 BK294.out 0).trans rfl, (x3 BK294.out 1).trans rfl, (x3 BK294.out 2).trans rfl⟩ (fun hHeld => ?_)
     clear hK K
     refine norm_ (a' := ?_) ?_ ?_
     rotate_left
     ·show Act.put _ (some 24) _ = _
      simp only [Act.put, List.setIfInBounds_toArray, List.set_cons_zero, List.set_cons_succ, i64_w, i32_w]
      rfl
     refine pure_ (i := 8) (N := some 25) (v := ?_) (a' := ?_) #[true, true, true, true, true, true, true, true, true, false, false, false, false, false, false, false, false] rfl rfl (any_of HT_.out (by kernel_rfl)) (fun _ _ _ h => h) (Or.inl ⟨by rfl, ?_⟩) ?_ ?_
     rotate_left
     ·intro w'
      go_simp
      with_reducible rfl
     rotate_left
     ·simp only [Act.put, List.setIfInBounds_toArray, List.set_cons_zero, List.set_cons_succ, i64_w, i32_w]
      rfl
     refine pure_ (i := 9) (N := some 26) (v := ?_) (a' := ?_) #[true, true, true, true, true, true, true, true, true, true, false, false, false, false, false, false, false] rfl rfl (any_of HT_.out (by kernel_rfl)) (fun _ _ _ h => h) (Or.inl ⟨by rfl, ?_⟩) ?_ ?_
     rotate_left
     ·intro w'
      go_simp
      with_reducible rfl
     rotate_left
     ·simp only [Act.put, List.setIfInBounds_toArray, List.set_cons_zero, List.set_cons_succ, i64_w, i32_w]
      rfl
     refine pure_ (i := 10) (N := some 27) (v := ?_) (a' := ?_) #[true, true, true, true, true, true, true, true, true, true, true, false, false, false, false, false, false] rfl rfl (any_of HT_.out (by kernel_rfl)) (fun _ _ _ h => h) (Or.inl ⟨by rfl, ?_⟩) ?_ ?_
     rotate_left
     ·intro w'
      go_simp
      with_reducible rfl
     rotate_left
     ·simp only [Act.put, List.setIfInBounds_toArray, List.set_cons_zero, List.set_cons_succ, i64_w, i32_w]
      rfl
     refine pure_ (i := 11) (N := some 28) (v := undef) (a' := ?_) #[true, true, true, true, true, true, true, true, true, true, true, true, false, false, false, false, false] rfl rfl (any_of HT_.out (by kernel_rfl)) (fun _ _ _ h => h) (Or.inr ⟨by rfl, rfl⟩) ?_ ?_
     rotate_left
     ·simp only [Act.put, List.setIfInBounds_toArray, List.set_cons_zero, List.set_cons_succ, i64_w, i32_w]
      rfl
     refine pure_ (i := 12) (N := some 29) (v := undef) (a' := ?_) #[true, true, true, true, true, true, true, true, true, true, true, true, true, false, false, false, false] rfl rfl (any_of HT_.out (by kernel_rfl)) (fun _ _ _ h => h) (Or.inr ⟨by rfl, rfl⟩) ?_ ?_
     rotate_left
     ·simp only [Act.put, List.setIfInBounds_toArray, List.set_cons_zero, List.set_cons_succ, i64_w, i32_w]
      rfl
     refine pure_ (i := 13) (N := some 30) (v := undef) (a' := ?_) #[true, true, true, true, true, true, true, true, true, true, true, true, true, true, false, false, false] rfl rfl (any_of HT_.out (by kernel_rfl)) (fun _ _ _ h => h) (Or.inr ⟨by rfl, rfl⟩) ?_ ?_
     rotate_left
     ·simp only [Act.put, List.setIfInBounds_toArray, List.set_cons_zero, List.set_cons_succ, i64_w, i32_w]
      rfl
     refine pure_ (i := 14) (N := some 31) (v := undef) (a' := ?_) #[true, true, true, true, true, true, true, true, true, true, true, true, true, true, true, false, false] rfl rfl (any_of HT_.out (by kernel_rfl)) (fun _ _ _ h => h) (Or.inr ⟨by rfl, rfl⟩) ?_ ?_
     rotate_left
     ·simp only [Act.put, List.setIfInBounds_toArray, List.set_cons_zero, List.set_cons_succ, i64_w, i32_w]
      rfl
     refine pure_ (i := 15) (N := some 32) (v := undef) (a' := ?_) #[true, true, true, true, true, true, true, true, true, true, true, true, true, true, true, true, false] rfl rfl (any_of HT_.out (by kernel_rfl)) (fun _ _ _ h => h) (Or.inr ⟨by rfl, rfl⟩) ?_ ?_
     rotate_left
     ·simp only [Act.put, List.setIfInBounds_toArray, List.set_cons_zero, List.set_cons_succ, i64_w, i32_w]
      rfl
     refine pure_ (i := 16) (N := some 33) (v := ?_) (a' := ?_) #[true, true, true, true, true, true, true, true, true, true, true, true, true, true, true, true, true] rfl rfl (any_of HT_.out (by kernel_rfl)) (fun _ _ _ h => h) (Or.inl ⟨by rfl, ?_⟩) ?_ ?_
     rotate_left
     ·intro w'
      go_simp
      with_reducible rfl
     rotate_left
     ·simp only [Act.put, List.setIfInBounds_toArray, List.set_cons_zero, List.set_cons_succ, i64_w, i32_w]
      rfl
     refine done_ (done_of HT_.out (by kernel_rfl)) ?_
     try go_wp2
     go_meet
     case rel => exact ⟨_, (true), (by first | rfl | (simp; done) | (simp [*]; done)), H', ⟨by first | omega | exact Nat.le_refl _⟩, ⟨by (with_reducible repeat (first | apply z9 | apply y1)); exact HO281.out⟩, ⟨by (with_reducible repeat (first | apply z9 | apply y1)); exact HO287.out⟩, ⟨by (with_reducible repeat (first | apply z9 | apply y1)); exact HO293.out⟩, ⟨by (with_reducible repeat (first | refine z1 ?_ _ | refine z3 ?_)); exact BK282.out⟩, ⟨by (with_reducible repeat (first | refine z1 ?_ _ | refine z3 ?_)); exact BK288.out⟩, ⟨by (with_reducible repeat (first | refine z1 ?_ _ | refine z3 ?_)); exact BK294.out⟩, ⟨by repeat (first | (with_reducible first | exact HB.out | apply z5 | apply z6 | refine z7 ?_ GE282.out | refine z7 ?_ GE288.out | refine z7 ?_ GE294.out) | exact HB.out)⟩⟩
   ·replace c24 := Bool.eq_false_iff.mpr c24
    subst c24
    have H1 : (laws_FnGrown.j0 k true t277 t278 t279 t283 t284 t285 t289 t290 t291) = some r := by rw [if_neg (show ¬ (false = true) by decide)] at H; first | exact H | (simp only [if_true] at H ⊢; exact H)
    clear H
    have H := H1
    clear H1
    have H' := z0 H
    clear H
    try go_wp2
    have n0_ : Aside0 (Kd.R (Kd.int .i64) 3 (((w18.setCell ⟨gb294, 0, none⟩ (.int .i64 t289)).setCell ⟨gb294, 1, none⟩ (.int .i64 t290)).setCell ⟨gb294, 2, none⟩ (.slice Ao22 t291.length co22)) w.heap.size (fun k_ => some k_ ≠ (.slice Ao15 t285.length co15 : Value).ownBlock ∧ some k_ ≠ (.slice Ao22 t291.length co22 : Value).ownBlock) (.slice Ao10 t279.length co10) t279) := ⟨by (with_reducible repeat (first | apply z9 | apply y1)); exact x6 (x1 (p := ⟨gb294, 2, none⟩) (x1 (p := ⟨gb294, 1, none⟩) (x1 (p := ⟨gb294, 0, none⟩) (x7 HO281.out BK294.out (by decide)) (fun _ hk => hk.2) (.int .i64 t289)) (fun _ hk => hk.2) (.int .i64 t290)) (fun _ hk => hk.2) (.slice Ao22 t291.length co22)) (fun _ hk => ⟨hk.1.1.2, hk.1.2⟩)⟩
    have n1_ : Aside0 (Kd.R (Kd.int .i64) 3 (((w18.setCell ⟨gb294, 0, none⟩ (.int .i64 t289)).setCell ⟨gb294, 1, none⟩ (.int .i64 t290)).setCell ⟨gb294, 2, none⟩ (.slice Ao22 t291.length co22)) w.heap.size (fun k_ => some k_ ≠ (.slice Ao10 t279.length co10 : Value).ownBlock ∧ some k_ ≠ (.slice Ao22 t291.length co22 : Value).ownBlock) (.slice Ao15 t285.length co15) t285) := ⟨by (with_reducible repeat (first | apply z9 | apply y1)); exact x6 (x1 (p := ⟨gb294, 2, none⟩) (x1 (p := ⟨gb294, 1, none⟩) (x1 (p := ⟨gb294, 0, none⟩) (x7 HO287.out BK294.out (by decide)) (fun _ hk => hk.2) (.int .i64 t289)) (fun _ hk => hk.2) (.int .i64 t290)) (fun _ hk => hk.2) (.slice Ao22 t291.length co22)) (fun _ hk => ⟨hk.1.1.2, hk.1.2⟩)⟩
    have n2_ : Aside0 (Kd.R (Kd.int .i64) 3 (((w18.setCell ⟨gb294, 0, none⟩ (.int .i64 t289)).setCell ⟨gb294, 1, none⟩ (.int .i64 t290)).setCell ⟨gb294, 2, none⟩ (.slice Ao22 t291.length co22)) w.heap.size (fun k_ => some k_ ≠ (.slice Ao10 t279.length co10 : Value).ownBlock ∧ some k_ ≠ (.slice Ao15 t285.length co15 : Value).ownBlock) (.slice Ao22 t291.length co22) t291) := ⟨by (with_reducible repeat (first | apply z9 | apply y1)); exact x6 (x1 (p := ⟨gb294, 2, none⟩) (x1 (p := ⟨gb294, 1, none⟩) (x1 (p := ⟨gb294, 0, none⟩) (x7 HO293.out BK294.out (by decide)) (fun _ hk => hk.2) (.int .i64 t289)) (fun _ hk => hk.2) (.int .i64 t290)) (fun _ hk => hk.2) (.slice Ao22 t291.length co22)) (fun _ hk => ⟨hk.1.1.2, hk.1.2⟩)⟩
    have n3_ : Aside0 ((((w18.setCell ⟨gb294, 0, none⟩ (.int .i64 t289)).setCell ⟨gb294, 1, none⟩ (.int .i64 t290)).setCell ⟨gb294, 2, none⟩ (.slice Ao22 t291.length co22)).heap[gb282]? = some (.cells #[.int .i64 t277, .int .i64 t278, .slice Ao10 t279.length co10] 25 (0, 0))) := ⟨by (with_reducible repeat (first | refine z1 ?_ _ | refine z3 ?_)); refine x8 ?_ NB282_294.out _; (with_reducible repeat (first | refine z1 ?_ _ | refine z3 ?_)); refine x8 ?_ NB282_294.out _; (with_reducible repeat (first | refine z1 ?_ _ | refine z3 ?_)); refine x8 ?_ NB282_294.out _; (with_reducible repeat (first | refine z1 ?_ _ | refine z3 ?_)); exact BK282.out⟩
    have n4_ : Aside0 ((((w18.setCell ⟨gb294, 0, none⟩ (.int .i64 t289)).setCell ⟨gb294, 1, none⟩ (.int .i64 t290)).setCell ⟨gb294, 2, none⟩ (.slice Ao22 t291.length co22)).heap[gb288]? = some (.cells #[.int .i64 t283, .int .i64 t284, .slice Ao15 t285.length co15] 25 (0, 0))) := ⟨by (with_reducible repeat (first | refine z1 ?_ _ | refine z3 ?_)); refine x8 ?_ NB288_294.out _; (with_reducible repeat (first | refine z1 ?_ _ | refine z3 ?_)); refine x8 ?_ NB288_294.out _; (with_reducible repeat (first | refine z1 ?_ _ | refine z3 ?_)); refine x8 ?_ NB288_294.out _; (with_reducible repeat (first | refine z1 ?_ _ | refine z3 ?_)); exact BK288.out⟩
    have n5_ : Aside0 ((((w18.setCell ⟨gb294, 0, none⟩ (.int .i64 t289)).setCell ⟨gb294, 1, none⟩ (.int .i64 t290)).setCell ⟨gb294, 2, none⟩ (.slice Ao22 t291.length co22)).heap[gb294]? = some (.cells #[.int .i64 t289, .int .i64 t290, .slice Ao22 t291.length co22] 25 (0, 0))) := ⟨by (with_reducible repeat (first | refine z1 ?_ _ | refine z3 ?_)); refine blk_put (cs := #[.int .i64 t289, .int .i64 t290, .slice none 0 0]) ?_ 2 _ rfl; (with_reducible repeat (first | refine z1 ?_ _ | refine z3 ?_)); refine blk_put (cs := #[.int .i64 t289, .int .i64 0, .slice none 0 0]) ?_ 1 _ rfl; (with_reducible repeat (first | refine z1 ?_ _ | refine z3 ?_)); refine blk_put (cs := #[.int .i64 0, .int .i64 0, .slice none 0 0]) ?_ 0 _ rfl; (with_reducible repeat (first | refine z1 ?_ _ | refine z3 ?_)); exact BK294.out⟩
    have n6_ : Aside0 (Below w.heap.size w (((w18.setCell ⟨gb294, 0, none⟩ (.int .i64 t289)).setCell ⟨gb294, 1, none⟩ (.int .i64 t290)).setCell ⟨gb294, 2, none⟩ (.slice Ao22 t291.length co22))) := ⟨by repeat (first | (with_reducible first | exact HB.out | apply z5 | apply z6 | refine z7 ?_ GE282.out | refine z7 ?_ GE288.out | refine z7 ?_ GE294.out) | exact HB.out)⟩
    (try clear HO281)
    (try clear HO287)
    (try clear HO293)
    (try clear BK282)
    (try clear BK288)
    (try clear BK294)
    (try clear HB)
    generalize (((w18.setCell ⟨gb294, 0, none⟩ (.int .i64 t289)).setCell ⟨gb294, 1, none⟩ (.int .i64 t290)).setCell ⟨gb294, 2, none⟩ (.slice Ao22 t291.length co22)) = w40 at n0_ n1_ n2_ n3_ n4_ n5_ n6_ ⊢
    have HO281 := n0_
    have HO287 := n1_
    have HO293 := n2_
    have BK282 := n3_
    have BK288 := n4_
    have BK294 := n5_
    have HB := n6_
    clear n0_ n1_ n2_ n3_ n4_ n5_ n6_
    have n0_ := z0 (y1 HO281.out)
    have n1_ := z0 (y1 HO287.out)
    have n2_ := z0 (y1 HO293.out)
    have n3_ := z0 (z3 BK282.out)
    have n4_ := z0 (z3 BK288.out)
    have n5_ := z0 (z3 BK294.out)
    have n6_ := z0 (z6 HB.out)
    clear HO281
    clear HO287
    clear HO293
    clear BK282
    clear BK288
    clear BK294
    clear HB
    have HO281 := n0_
    have HO287 := n1_
    have HO293 := n2_
    have BK282 := n3_
    have BK288 := n4_
    have BK294 := n5_
    have HB := n6_
    clear n0_ n1_ n2_ n3_ n4_ n5_ n6_
    refine start_ (n := 17) (S := fun w' => w'.cell? ⟨gb288, 0, none⟩ = some (.int .i64 t283) ∧ w'.cell? ⟨gb288, 1, none⟩ = some (.int .i64 t284) ∧ w'.cell? ⟨gb288, 2, none⟩ = some (.slice Ao15 t285.length co15) ∧ w'.cell? ⟨gb282, 0, none⟩ = some (.int .i64 t277) ∧ w'.cell? ⟨gb282, 1, none⟩ = some (.int .i64 t278) ∧ w'.cell? ⟨gb282, 2, none⟩ = some (.slice Ao10 t279.length co10)) (ds := []) #[false, false, false, false, false, false, false, false, false, false, false, false, false, false, false, false, false] (by kernel_rfl) rfl rfl ⟨(x3 BK288.out 0).trans rfl, (x3 BK288.out 1).trans rfl, (x3 BK288.out 2).trans rfl, (x3 BK282.out 0).trans rfl, (x3 BK282.out 1).trans rfl, (x3 BK282.out 2).trans rfl⟩ (fun hHeld => ?_); refine with_tabW laws_FnGrown.tab6 laws_FnGrown.bits6 (fun HT_ HW_ => ?_)
    generalize w40.drew = w41 at HO281 HO287 HO293 BK282 BK288 BK294 HB hHeld ⊢
    refine take_ (i := 0) (N := some 17) (v := ?_) (a' := ?_) #[true, false, false, false, false, false, false, false, false, false, false, false, false, false, false, false, false] rfl rfl (take_ofW HT_.out HW_.out (by kernel_rfl)) (fun _ _ _ h => h) (Or.inl ⟨by rfl, ?_⟩) hHeld ?_ ?_
    rotate_left
    ·rintro w' ⟨s0, s1, s2, s3, s4, s5⟩
     go_simp
     with_reducible rfl
    rotate_left
    ·simp only [Act.put, List.setIfInBounds_toArray, List.set_cons_zero, List.set_cons_succ, i64_w, i32_w]
     rfl
    refine take_ (i := 1) (N := some 18) (v := ?_) (a' := ?_) #[true, true, false, false, false, false, false, false, false, false, false, false, false, false, false, false, false] rfl rfl (take_ofW HT_.out HW_.out (by kernel_rfl)) (fun _ _ _ h => h) (Or.inl ⟨by rfl, ?_⟩) hHeld ?_ ?_
    rotate_left
    ·rintro w' ⟨s0, s1, s2, s3, s4, s5⟩
     go_simp
     with_reducible rfl
    rotate_left
    ·simp only [Act.put, List.setIfInBounds_toArray, List.set_cons_zero, List.set_cons_succ, i64_w, i32_w]
     rfl
    refine one_ (i := 2) (N := some 19) #[true, true, true, false, false, false, false, false, false, false, false, false, false, false, false, false, false] rfl rfl (one_of HT_.out (by kernel_rfl)) (by decide) (fun K hK => ?_)
    refine goes_ Try.func46 (by kernel_rfl) rfl #[.agg #[.int .i64 t283, .int .i64 t284, .slice Ao15 t285.length co15], .agg #[.int .i64 t277, .int .i64 t278, .slice Ao10 t279.length co10]] (by rfl) rfl rfl (by (try simp only [List.map_toArray, List.map_cons, List.map_nil]); first | done | rfl) ?_
    with_reducible refine (impl_CoversPicture.calls k t283 t284 _ _ t285 t277 t278 _ _ t279 false _ ?side1 ?side2 ?side3 ?side4 A23.out).mono ?_
    (case side1 => repeat (first | exact (x5 HO287.out).2.2 | (with_reducible refine y3 ?_ _) | (with_reducible refine y4 ?_)))
    (case side2 => exact (x5 HO287.out).2.1)
    (case side3 => repeat (first | exact (x5 HO281.out).2.2 | (with_reducible refine y3 ?_ _) | (with_reducible refine y4 ?_)))
    (case side4 => exact (x5 HO281.out).2.1)
    rintro e w42 ⟨rfl, hb⟩
    refine ⟨_, rfl, ?_⟩
    have n0_ := z0 (x4 (by (with_reducible repeat (first | apply z9 | apply y1)); exact HO281.out) hb)
    have n1_ := z0 (x4 (by (with_reducible repeat (first | apply z9 | apply y1)); exact HO287.out) hb)
    have n2_ := z0 (x4 (by (with_reducible repeat (first | apply z9 | apply y1)); exact HO293.out) hb)
    have n3_ := z0 (y5 (g := gb282) (o := .cells #[.int .i64 t277, .int .i64 t278, .slice Ao10 t279.length co10] 25 (0, 0)) (by (with_reducible repeat (first | refine z1 ?_ _ | refine z3 ?_)); exact BK282.out) hb)
    have n4_ := z0 (y5 (g := gb288) (o := .cells #[.int .i64 t283, .int .i64 t284, .slice Ao15 t285.length co15] 25 (0, 0)) (by (with_reducible repeat (first | refine z1 ?_ _ | refine z3 ?_)); exact BK288.out) hb)
    have n5_ := z0 (y5 (g := gb294) (o := .cells #[.int .i64 t289, .int .i64 t290, .slice Ao22 t291.length co22] 25 (0, 0)) (by (with_reducible repeat (first | refine z1 ?_ _ | refine z3 ?_)); exact BK294.out) hb)
    have n6_ := z0 (y6 (by repeat (first | (with_reducible first | exact HB.out | apply z5 | apply z6 | refine z7 ?_ GE282.out | refine z7 ?_ GE288.out | refine z7 ?_ GE294.out) | exact HB.out)) hb)
    clear HO281
    clear HO287
    clear HO293
    clear BK282
    clear BK288
    clear BK294
    clear HB
    have HO281 := n0_
    have HO287 := n1_
    have HO293 := n2_
    have BK282 := n3_
    have BK288 := n4_
    have BK294 := n5_
    have HB := n6_
    clear n0_ n1_ n2_ n3_ n4_ n5_ n6_
    (try clear hb)
    (try clear hb2)
    (try clear hk)
    (try clear hi)
    refine hK.out _ _ ⟨(x3 BK288.out 0).trans rfl, (x3 BK288.out 1).trans rfl, (x3 BK288.out 2).trans rfl, (x3 BK282.out 0).trans rfl, (x3 BK282.out 1).trans rfl, (x3 BK282.out 2).trans rfl⟩ (fun hHeld => ?_)
    clear hK K
    refine norm_ (a' := ?_) ?_ ?_
    rotate_left
    ·show Act.put _ (some 19) _ = _
     simp only [Act.put, List.setIfInBounds_toArray, List.set_cons_zero, List.set_cons_succ, i64_w, i32_w]
     rfl
    refine pure_ (i := 3) (N := some 20) (v := ?_) (a' := ?_) #[true, true, true, true, false, false, false, false, false, false, false, false, false, false, false, false, false] rfl rfl (any_of HT_.out (by kernel_rfl)) (fun _ _ _ h => h) (Or.inl ⟨by rfl, ?_⟩) ?_ ?_
    rotate_left
    ·intro w'
     go_simp
     with_reducible rfl
    rotate_left
    ·simp only [Act.put, List.setIfInBounds_toArray, List.set_cons_zero, List.set_cons_succ, i64_w, i32_w]
     rfl
    refine pure_ (i := 4) (N := some 21) (v := ?_) (a' := ?_) #[true, true, true, true, true, false, false, false, false, false, false, false, false, false, false, false, false] rfl rfl (any_of HT_.out (by kernel_rfl)) (fun _ _ _ h => h) (Or.inl ⟨by rfl, ?_⟩) ?_ ?_
    rotate_left
    ·intro w'
     go_simp
     with_reducible rfl
    rotate_left
    ·simp only [Act.put, List.setIfInBounds_toArray, List.set_cons_zero, List.set_cons_succ, i64_w, i32_w]
     rfl
    refine pure_ (i := 5) (N := some 22) (v := undef) (a' := ?_) #[true, true, true, true, true, true, false, false, false, false, false, false, false, false, false, false, false] rfl rfl (any_of HT_.out (by kernel_rfl)) (fun _ _ _ h => h) (Or.inr ⟨by rfl, rfl⟩) ?_ ?_
    rotate_left
    ·simp only [Act.put, List.setIfInBounds_toArray, List.set_cons_zero, List.set_cons_succ, i64_w, i32_w]
     rfl
    refine pure_ (i := 6) (N := some 23) (v := undef) (a' := ?_) #[true, true, true, true, true, true, true, false, false, false, false, false, false, false, false, false, false] rfl rfl (any_of HT_.out (by kernel_rfl)) (fun _ _ _ h => h) (Or.inr ⟨by rfl, rfl⟩) ?_ ?_
    rotate_left
    ·simp only [Act.put, List.setIfInBounds_toArray, List.set_cons_zero, List.set_cons_succ, i64_w, i32_w]
     rfl
    refine pure_ (i := 7) (N := some 24) (v := undef) (a' := ?_) #[true, true, true, true, true, true, true, true, false, false, false, false, false, false, false, false, false] rfl rfl (any_of HT_.out (by kernel_rfl)) (fun _ _ _ h => h) (Or.inr ⟨by rfl, rfl⟩) ?_ ?_
    rotate_left
    ·simp only [Act.put, List.setIfInBounds_toArray, List.set_cons_zero, List.set_cons_succ, i64_w, i32_w]
     rfl
    refine pure_ (i := 8) (N := some 25) (v := undef) (a' := ?_) #[true, true, true, true, true, true, true, true, true, false, false, false, false, false, false, false, false] rfl rfl (any_of HT_.out (by kernel_rfl)) (fun _ _ _ h => h) (Or.inr ⟨by rfl, rfl⟩) ?_ ?_
    rotate_left
    ·simp only [Act.put, List.setIfInBounds_toArray, List.set_cons_zero, List.set_cons_succ, i64_w, i32_w]
     rfl
    refine pure_ (i := 9) (N := some 26) (v := ?_) (a' := ?_) #[true, true, true, true, true, true, true, true, true, true, false, false, false, false, false, false, false] rfl rfl (any_of HT_.out (by kernel_rfl)) (fun _ _ _ h => h) (Or.inl ⟨by rfl, ?_⟩) ?_ ?_
    rotate_left
    ·intro w'
     go_simp
     with_reducible rfl
    rotate_left
    ·simp only [Act.put, List.setIfInBounds_toArray, List.set_cons_zero, List.set_cons_succ, i64_w, i32_w]
     rfl
    refine pure_ (i := 10) (N := some 27) (v := ?_) (a' := ?_) #[true, true, true, true, true, true, true, true, true, true, true, false, false, false, false, false, false] rfl rfl (any_of HT_.out (by kernel_rfl)) (fun _ _ _ h => h) (Or.inl ⟨by rfl, ?_⟩) ?_ ?_
    rotate_left
    ·intro w'
     go_simp
     with_reducible rfl
    rotate_left
    ·simp only [Act.put, List.setIfInBounds_toArray, List.set_cons_zero, List.set_cons_succ, i64_w, i32_w]
     rfl
    refine pure_ (i := 11) (N := some 28) (v := undef) (a' := ?_) #[true, true, true, true, true, true, true, true, true, true, true, true, false, false, false, false, false] rfl rfl (any_of HT_.out (by kernel_rfl)) (fun _ _ _ h => h) (Or.inr ⟨by rfl, rfl⟩) ?_ ?_
    rotate_left
    ·simp only [Act.put, List.setIfInBounds_toArray, List.set_cons_zero, List.set_cons_succ, i64_w, i32_w]
     rfl
    refine pure_ (i := 12) (N := some 29) (v := undef) (a' := ?_) #[true, true, true, true, true, true, true, true, true, true, true, true, true, false, false, false, false] rfl rfl (any_of HT_.out (by kernel_rfl)) (fun _ _ _ h => h) (Or.inr ⟨by rfl, rfl⟩) ?_ ?_
    rotate_left
    ·simp only [Act.put, List.setIfInBounds_toArray, List.set_cons_zero, List.set_cons_succ, i64_w, i32_w]
     rfl
    refine pure_ (i := 13) (N := some 30) (v := undef) (a' := ?_) #[true, true, true, true, true, true, true, true, true, true, true, true, true, true, false, false, false] rfl rfl (any_of HT_.out (by kernel_rfl)) (fun _ _ _ h => h) (Or.inr ⟨by rfl, rfl⟩) ?_ ?_
    rotate_left
    ·simp only [Act.put, List.setIfInBounds_toArray, List.set_cons_zero, List.set_cons_succ, i64_w, i32_w]
     rfl
    refine pure_ (i := 14) (N := some 31) (v := undef) (a' := ?_) #[true, true, true, true, true, true, true, true, true, true, true, true, true, true, true, false, false] rfl rfl (any_of HT_.out (by kernel_rfl)) (fun _ _ _ h => h) (Or.inr ⟨by rfl, rfl⟩) ?_ ?_
    rotate_left
    ·simp only [Act.put, List.setIfInBounds_toArray, List.set_cons_zero, List.set_cons_succ, i64_w, i32_w]
     rfl
    refine pure_ (i := 15) (N := some 32) (v := undef) (a' := ?_) #[true, true, true, true, true, true, true, true, true, true, true, true, true, true, true, true, false] rfl rfl (any_of HT_.out (by kernel_rfl)) (fun _ _ _ h => h) (Or.inr ⟨by rfl, rfl⟩) ?_ ?_
    rotate_left
    ·simp only [Act.put, List.setIfInBounds_toArray, List.set_cons_zero, List.set_cons_succ, i64_w, i32_w]
     rfl
    refine pure_ (i := 16) (N := some 33) (v := ?_) (a' := ?_) #[true, true, true, true, true, true, true, true, true, true, true, true, true, true, true, true, true] rfl rfl (any_of HT_.out (by kernel_rfl)) (fun _ _ _ h => h) (Or.inl ⟨by rfl, ?_⟩) ?_ ?_
    rotate_left
    ·intro w'
     go_simp
     with_reducible rfl
    rotate_left
    ·simp only [Act.put, List.setIfInBounds_toArray, List.set_cons_zero, List.set_cons_succ, i64_w, i32_w]
     rfl
    refine done_ (done_of HT_.out (by kernel_rfl)) ?_
    try go_wp2
    go_meet
    case rel => exact ⟨_, (true), (by first | rfl | (simp; done) | (simp [*]; done)), H', ⟨by first | omega | exact Nat.le_refl _⟩, ⟨by (with_reducible repeat (first | apply z9 | apply y1)); exact HO281.out⟩, ⟨by (with_reducible repeat (first | apply z9 | apply y1)); exact HO287.out⟩, ⟨by (with_reducible repeat (first | apply z9 | apply y1)); exact HO293.out⟩, ⟨by (with_reducible repeat (first | refine z1 ?_ _ | refine z3 ?_)); exact BK282.out⟩, ⟨by (with_reducible repeat (first | refine z1 ?_ _ | refine z3 ?_)); exact BK288.out⟩, ⟨by (with_reducible repeat (first | refine z1 ?_ _ | refine z3 ?_)); exact BK294.out⟩, ⟨by repeat (first | (with_reducible first | exact HB.out | apply z5 | apply z6 | refine z7 ?_ GE282.out | refine z7 ?_ GE288.out | refine z7 ?_ GE294.out) | exact HB.out)⟩⟩
  case rest =>
   clear HC6
   try clear c2
   try clear p2
   try clear c4
   try clear c24
   try clear c26
   obtain ⟨kq, x33_5, rfl, HA, HJ5, Ha_, Hb_, Hc_, BK282, BK288, BK294, HB⟩ := hcut
   cases kq with
   | zero => exact absurd HA.out (by simp [laws_FnGrown.j0])
   | succ kj5 =>
    have H := HA.out
    clear HA
    simp only [laws_FnGrown.j0] at H
    by_cases c43 : x33_5 = true
    ·subst c43
     have H1 : (some false) = some r := by rw [if_pos rfl] at H; first | exact H | (simp only [if_true] at H ⊢; exact H)
     clear H
     have H := H1
     clear H1
     obtain rfl := Option.some.inj H
     go_wp2
     go_ret
     exact ⟨by first | rfl | (simp [errW_none, errW_some] <;> rfl) | (simp [*, errW_none, errW_some] <;> rfl), by repeat (first | (with_reducible first | exact HB.out | apply z5 | apply z6 | refine z7 ?_ GE282.out | refine z7 ?_ GE288.out | refine z7 ?_ GE294.out) | exact HB.out)⟩
    ·replace c43 := Bool.eq_false_iff.mpr c43
     subst c43
     have H1 : ((spec_NegativePicture.f kj5 t277 t278 t279).bind fun bt303 => ((impl_GainOf.f kj5 t277 t278 t279).bind fun t309 => ((spec_NegativePicture.f kj5 t289 t290 t291).bind fun bt310 => ((impl_GrowPlate.f bt303.1 bt303.2.1 bt303.2.2).bind fun bt315 => ((laws_same.f kj5 bt310.1 bt310.2.1 bt310.2.2 bt315.1 bt315.2.1 bt315.2.2).bind fun t320 => (if t320 = true then ((impl_SumInk.f kj5 t283 t284 t285).bind fun t321 => ((laws_total.f kj5 t279).bind fun t322 => (if t309 = (wrap64 (t321 - t322)) then (if t309 ≥ 0 then ((laws_total.f kj5 t279).bind fun t323 => (some (decide (t309 ≤ (wrap64 (4 * t323)))))) else (some false)) else (some false)))) else (some false))))))) = some r := by rw [if_neg (show ¬ (false = true) by decide)] at H; first | exact H | (simp only [if_true] at H ⊢; exact H)
     clear H
     have H := H1
     clear H1
     replace H := Option.bind_eq_some_iff.mp H
     obtain ⟨⟨t303, t304, t305⟩, A440, H⟩ := H
     replace H : ((impl_GainOf.f kj5 t277 t278 t279).bind fun t309 => ((spec_NegativePicture.f kj5 t289 t290 t291).bind fun bt310 => ((impl_GrowPlate.f t303 t304 t305).bind fun bt315 => ((laws_same.f kj5 bt310.1 bt310.2.1 bt310.2.2 bt315.1 bt315.2.1 bt315.2.2).bind fun t320 => (if t320 = true then ((impl_SumInk.f kj5 t283 t284 t285).bind fun t321 => ((laws_total.f kj5 t279).bind fun t322 => (if t309 = (wrap64 (t321 - t322)) then (if t309 ≥ 0 then ((laws_total.f kj5 t279).bind fun t323 => (some (decide (t309 ≤ (wrap64 (4 * t323)))))) else (some false)) else (some false)))) else (some false)))))) = some r := H
     have A44 := z0 A440
     clear A440
     replace H := Option.bind_eq_some_iff.mp H
     obtain ⟨t309, A450, H⟩ := H
     replace H : ((spec_NegativePicture.f kj5 t289 t290 t291).bind fun bt310 => ((impl_GrowPlate.f t303 t304 t305).bind fun bt315 => ((laws_same.f kj5 bt310.1 bt310.2.1 bt310.2.2 bt315.1 bt315.2.1 bt315.2.2).bind fun t320 => (if t320 = true then ((impl_SumInk.f kj5 t283 t284 t285).bind fun t321 => ((laws_total.f kj5 t279).bind fun t322 => (if t309 = (wrap64 (t321 - t322)) then (if t309 ≥ 0 then ((laws_total.f kj5 t279).bind fun t323 => (some (decide (t309 ≤ (wrap64 (4 * t323)))))) else (some false)) else (some false)))) else (some false))))) = some r := H
     have A45 := z0 A450
     clear A450
     replace H := Option.bind_eq_some_iff.mp H
     obtain ⟨⟨t310, t311, t312⟩, A460, H⟩ := H
     replace H : ((impl_GrowPlate.f t303 t304 t305).bind fun bt315 => ((laws_same.f kj5 t310 t311 t312 bt315.1 bt315.2.1 bt315.2.2).bind fun t320 => (if t320 = true then ((impl_SumInk.f kj5 t283 t284 t285).bind fun t321 => ((laws_total.f kj5 t279).bind fun t322 => (if t309 = (wrap64 (t321 - t322)) then (if t309 ≥ 0 then ((laws_total.f kj5 t279).bind fun t323 => (some (decide (t309 ≤ (wrap64 (4 * t323)))))) else (some false)) else (some false)))) else (some false)))) = some r := H
     have A46 := z0 A460
     clear A460
     replace H := Option.bind_eq_some_iff.mp H
     obtain ⟨⟨t315, t316, t317⟩, A470, H⟩ := H
     replace H : ((laws_same.f kj5 t310 t311 t312 t315 t316 t317).bind fun t320 => (if t320 = true then ((impl_SumInk.f kj5 t283 t284 t285).bind fun t321 => ((laws_total.f kj5 t279).bind fun t322 => (if t309 = (wrap64 (t321 - t322)) then (if t309 ≥ 0 then ((laws_total.f kj5 t279).bind fun t323 => (some (decide (t309 ≤ (wrap64 (4 * t323)))))) else (some false)) else (some false)))) else (some false))) = some r := H
     have A47 := z0 A470
     clear A470
     replace H := Option.bind_eq_some_iff.mp H
     obtain ⟨t320, A480, H⟩ := H
     replace H : (if t320 = true then ((impl_SumInk.f kj5 t283 t284 t285).bind fun t321 => ((laws_total.f kj5 t279).bind fun t322 => (if t309 = (wrap64 (t321 - t322)) then (if t309 ≥ 0 then ((laws_total.f kj5 t279).bind fun t323 => (some (decide (t309 ≤ (wrap64 (4 * t323)))))) else (some false)) else (some false)))) else (some false)) = some r := H
     have A48 := z0 A480
     clear A480
     by_cases c49 : t320 = true
     ·subst c49
      have H1 : ((impl_SumInk.f kj5 t283 t284 t285).bind fun t321 => ((laws_total.f kj5 t279).bind fun t322 => (if t309 = (wrap64 (t321 - t322)) then (if t309 ≥ 0 then ((laws_total.f kj5 t279).bind fun t323 => (some (decide (t309 ≤ (wrap64 (4 * t323)))))) else (some false)) else (some false)))) = some r := by rw [if_pos rfl] at H; first | exact H | (simp only [if_true] at H ⊢; exact H)
      clear H
      have H := H1
      clear H1
      replace H := Option.bind_eq_some_iff.mp H
      obtain ⟨t321, A500, H⟩ := H
      replace H : ((laws_total.f kj5 t279).bind fun t322 => (if t309 = (wrap64 (t321 - t322)) then (if t309 ≥ 0 then ((laws_total.f kj5 t279).bind fun t323 => (some (decide (t309 ≤ (wrap64 (4 * t323)))))) else (some false)) else (some false))) = some r := H
      have A50 := z0 A500
      clear A500
      replace H := Option.bind_eq_some_iff.mp H
      obtain ⟨t322, A510, H⟩ := H
      replace H : (if t309 = (wrap64 (t321 - t322)) then (if t309 ≥ 0 then ((laws_total.f kj5 t279).bind fun t323 => (some (decide (t309 ≤ (wrap64 (4 * t323)))))) else (some false)) else (some false)) = some r := H
      have A51 := z0 A510
      clear A510
      by_cases c52 : t309 = (wrap64 (t321 - t322))
      ·rw [if_pos c52] at H
       have c52b0 : (t309 == (wrap64 (t321 - t322))) = true := beq_iff_eq.mpr c52
       have c52b1 : (t309 != (wrap64 (t321 - t322))) = false := bne_eq_false_iff_eq.mpr c52
       clear c52
       by_cases c53 : t309 ≥ 0
       ·rw [if_pos c53] at H
        have c53b0 : decide (0 ≤ t309) = true := decide_eq_true c53
        clear c53
        replace H := Option.bind_eq_some_iff.mp H
        obtain ⟨t323, A540, H⟩ := H
        replace H : (some (decide (t309 ≤ (wrap64 (4 * t323))))) = some r := H
        have A54 := z0 A540
        clear A540
        obtain rfl := Option.some.inj H
        have hnb55 := NB282_288.out
        have hnc55 := NB288_282.out
        have hnb56 := NB282_294.out
        have hnc56 := NB294_282.out
        have hcz57_0 : wc.cell? ⟨gb282, 0, none⟩ = some (.int .i64 t277) := (x3 BK282.out 0).trans rfl
        have hcz57_1 : wc.cell? ⟨gb282, 1, none⟩ = some (.int .i64 t278) := (x3 BK282.out 1).trans rfl
        have hcz57_2 : wc.cell? ⟨gb282, 2, none⟩ = some (.slice Ao10 t279.length co10) := (x3 BK282.out 2).trans rfl
        have hfz57_0 := x2 BK282.out 0
        have hfz57_1 := x2 BK282.out 1
        have hfz57_2 := x2 BK282.out 2
        try go_wp2_with (first | ((with_reducible refine gate_callee (f := 47) rfl ?_); refine goesL_ (some 35) rfl rfl Try.func47 (by kernel_rfl) rfl #[.agg #[.int .i64 t277, .int .i64 t278, .slice Ao10 t279.length co10]] rfl (by (try simp only [List.map_toArray, List.map_cons, List.map_nil]); first | done | rfl) ?_; (with_reducible refine (spec_NegativePicture.calls kj5 t277 t278 _ _ t279 t303 t304 t305 _ ?side1 ?side2 A44.out).mono ?_); (case side1 => repeat (first | exact (x5 Ha_.out).2.2 | (with_reducible refine y3 ?_ _) | (with_reducible refine y4 ?_))); (case side2 => exact (x5 Ha_.out).2.1); rintro e w58 ⟨v306, rfl, ho0, hb⟩; refine ⟨_, rfl, ?_⟩; have n0_ := z0 (y8 (by (with_reducible repeat (first | apply z9 | apply y1)); exact Ha_.out) (w2_ ho0) hb); have n1_ := z0 (y8 (by (with_reducible repeat (first | apply z9 | apply y1)); exact Hb_.out) (w2_ ho0) hb); have n2_ := z0 (y8 (by (with_reducible repeat (first | apply z9 | apply y1)); exact Hc_.out) (w2_ ho0) hb); have n3_ := z0 (Kd.R_lower (Kd.R_new' (Kd.R_new' (Kd.R_new' ho0 (Kd.R_lt (by (with_reducible repeat (first | apply z9 | apply y1)); exact Ha_.out))) (Kd.R_lt (by (with_reducible repeat (first | apply z9 | apply y1)); exact Hb_.out))) (Kd.R_lt (by (with_reducible repeat (first | apply z9 | apply y1)); exact Hc_.out))) (y7 (by repeat (first | (with_reducible first | exact HB.out | apply z5 | apply z6 | refine z7 ?_ GE282.out | refine z7 ?_ GE288.out | refine z7 ?_ GE294.out) | exact HB.out)))); have n4_ := z0 (y5 (g := gb282) (o := .cells #[.int .i64 t277, .int .i64 t278, .slice Ao10 t279.length co10] 25 (0, 0)) (by (with_reducible repeat (first | refine z1 ?_ _ | refine z3 ?_)); exact BK282.out) hb); have n5_ := z0 (y5 (g := gb288) (o := .cells #[.int .i64 t283, .int .i64 t284, .slice Ao15 t285.length co15] 25 (0, 0)) (by (with_reducible repeat (first | refine z1 ?_ _ | refine z3 ?_)); exact BK288.out) hb); have n6_ := z0 (y5 (g := gb294) (o := .cells #[.int .i64 t289, .int .i64 t290, .slice Ao22 t291.length co22] 25 (0, 0)) (by (with_reducible repeat (first | refine z1 ?_ _ | refine z3 ?_)); exact BK294.out) hb); have n7_ := z0 (y6 (by repeat (first | (with_reducible first | exact HB.out | apply z5 | apply z6 | refine z7 ?_ GE282.out | refine z7 ?_ GE288.out | refine z7 ?_ GE294.out) | exact HB.out)) hb); clear Ha_; clear Hb_; clear Hc_; clear BK282; clear BK288; clear BK294; clear HB; have Ha_ := n0_; have Hb_ := n1_; have Hc_ := n2_; have HO307 := n3_; have BK282 := n4_; have BK288 := n5_; have BK294 := n6_; have HB := n7_; clear n0_ n1_ n2_ n3_ n4_ n5_ n6_ n7_; (try clear hb); (try clear ho0)) | ((with_reducible refine gate_dst (N := 6) rfl ?_); refine box_event ?hg (N := 6) ?hd (cs := #[.int .i64 0, .int .i64 0, .slice none 0 0]) (t := 25) ?hr ?_; (case hd => rfl); (case hg => rfl); (case hr => first | (go_simp; done) | (go_simp; rfl)); intro gb308 hg w59 hbox hb; have n0_ := z0 (x4 (by (with_reducible repeat (first | apply z9 | apply y1)); exact Ha_.out) hb); have n1_ := z0 (x4 (by (with_reducible repeat (first | apply z9 | apply y1)); exact Hb_.out) hb); have n2_ := z0 (x4 (by (with_reducible repeat (first | apply z9 | apply y1)); exact Hc_.out) hb); have n3_ := z0 (x4 (by (with_reducible repeat (first | apply z9 | apply y1)); exact HO307.out) hb); have n4_ := z0 (y5 (g := gb282) (o := .cells #[.int .i64 t277, .int .i64 t278, .slice Ao10 t279.length co10] 25 (0, 0)) (by (with_reducible repeat (first | refine z1 ?_ _ | refine z3 ?_)); exact BK282.out) hb); have n5_ := z0 (y5 (g := gb288) (o := .cells #[.int .i64 t283, .int .i64 t284, .slice Ao15 t285.length co15] 25 (0, 0)) (by (with_reducible repeat (first | refine z1 ?_ _ | refine z3 ?_)); exact BK288.out) hb); have n6_ := z0 (y5 (g := gb294) (o := .cells #[.int .i64 t289, .int .i64 t290, .slice Ao22 t291.length co22] 25 (0, 0)) (by (with_reducible repeat (first | refine z1 ?_ _ | refine z3 ?_)); exact BK294.out) hb); have n7_ := z0 (y6 (by repeat (first | (with_reducible first | exact HB.out | apply z5 | apply z6 | refine z7 ?_ GE282.out | refine z7 ?_ GE288.out | refine z7 ?_ GE294.out) | exact HB.out)) hb); have n8_ := z0 (hbox); have n9_ := z0 ((by rw [hg]; exact (y7 (by repeat (first | (with_reducible first | exact HB.out | apply z5 | apply z6 | refine z7 ?_ GE282.out | refine z7 ?_ GE288.out | refine z7 ?_ GE294.out) | exact HB.out))) : w.heap.size ≤ gb308)); have n10_ := z0 ((by rw [hg]; exact (y7 (by repeat (first | (with_reducible first | exact HB.out | apply z5 | apply z6 | refine z7 ?_ GE282.out | refine z7 ?_ GE288.out | refine z7 ?_ GE294.out) | exact HB.out))) : w.heap.size ≤ gb308)); have n11_ := z0 ((by rw [hg]; exact Nat.ne_of_lt (blk_lt (g := gb282) (o := .cells #[.int .i64 t277, .int .i64 t278, .slice Ao10 t279.length co10] 25 (0, 0)) (by (with_reducible repeat (first | refine z1 ?_ _ | refine z3 ?_)); exact BK282.out)) : gb282 ≠ gb308)); have n12_ := z0 ((by rw [hg]; exact Nat.ne_of_gt (blk_lt (g := gb282) (o := .cells #[.int .i64 t277, .int .i64 t278, .slice Ao10 t279.length co10] 25 (0, 0)) (by (with_reducible repeat (first | refine z1 ?_ _ | refine z3 ?_)); exact BK282.out)) : gb308 ≠ gb282)); have n13_ := z0 ((by rw [hg]; exact Nat.ne_of_lt (blk_lt (g := gb288) (o := .cells #[.int .i64 t283, .int .i64 t284, .slice Ao15 t285.length co15] 25 (0, 0)) (by (with_reducible repeat (first | refine z1 ?_ _ | refine z3 ?_)); exact BK288.out)) : gb288 ≠ gb308)); have n14_ := z0 ((by rw [hg]; exact Nat.ne_of_gt (blk_lt (g := gb288) (o := .cells #[.int .i64 t283, .int .i64 t284, .slice Ao15 t285.length co15] 25 (0, 0)) (by (with_reducible repeat (first | refine z1 ?_ _ | refine z3 ?_)); exact BK288.out)) : gb308 ≠ gb288)); have n15_ := z0 ((by rw [hg]; exact Nat.ne_of_lt (blk_lt (g := gb294) (o := .cells #[.int .i64 t289, .int .i64 t290, .slice Ao22 t291.length co22] 25 (0, 0)) (by (with_reducible repeat (first | refine z1 ?_ _ | refine z3 ?_)); exact BK294.out)) : gb294 ≠ gb308)); have n16_ := z0 ((by rw [hg]; exact Nat.ne_of_gt (blk_lt (g := gb294) (o := .cells #[.int .i64 t289, .int .i64 t290, .slice Ao22 t291.length co22] 25 (0, 0)) (by (with_reducible repeat (first | refine z1 ?_ _ | refine z3 ?_)); exact BK294.out)) : gb308 ≠ gb294)); clear Ha_; clear Hb_; clear Hc_; clear HO307; clear BK282; clear BK288; clear BK294; clear HB; have Ha_ := n0_; have Hb_ := n1_; have Hc_ := n2_; have HO307 := n3_; have BK282 := n4_; have BK288 := n5_; have BK294 := n6_; have HB := n7_; have BK308 := n8_; have GW308 := n9_; have GE308 := n10_; have NB282_308 := n11_; have NB308_282 := n12_; have NB288_308 := n13_; have NB308_288 := n14_; have NB294_308 := n15_; have NB308_294 := n16_; clear n0_ n1_ n2_ n3_ n4_ n5_ n6_ n7_ n8_ n9_ n10_ n11_ n12_ n13_ n14_ n15_ n16_; clear hb hbox hg; have hnb60 := NB308_282.out; have hnc60 := NB282_308.out; have hnb61 := NB308_288.out; have hnc61 := NB288_308.out; have hnb62 := NB308_294.out; have hnc62 := NB294_308.out; have hcz63_0 : w59.cell? ⟨gb308, 0, none⟩ = some (.int .i64 0) := (x3 BK308.out 0).trans rfl; have hcz63_1 : w59.cell? ⟨gb308, 1, none⟩ = some (.int .i64 0) := (x3 BK308.out 1).trans rfl; have hcz63_2 : w59.cell? ⟨gb308, 2, none⟩ = some (.slice none 0 0) := (x3 BK308.out 2).trans rfl; have hfz63_0 := x2 BK308.out 0; have hfz63_1 := x2 BK308.out 1; have hfz63_2 := x2 BK308.out 2; obtain ⟨Ao64, co64, eo64⟩ := Kd.R_slice HO307.out; subst eo64; have hcz65_0 : w59.cell? ⟨gb282, 0, none⟩ = some (.int .i64 t277) := (x3 BK282.out 0).trans rfl; have hcz65_1 : w59.cell? ⟨gb282, 1, none⟩ = some (.int .i64 t278) := (x3 BK282.out 1).trans rfl; have hcz65_2 : w59.cell? ⟨gb282, 2, none⟩ = some (.slice Ao10 t279.length co10) := (x3 BK282.out 2).trans rfl; have hfz65_0 := x2 BK282.out 0; have hfz65_1 := x2 BK282.out 1; have hfz65_2 := x2 BK282.out 2) | ((with_reducible refine gate_callee (f := 48) rfl ?_); refine goesL_ (some 37) rfl rfl Try.func48 (by kernel_rfl) rfl #[.agg #[.int .i64 t277, .int .i64 t278, .slice Ao10 t279.length co10]] rfl (by (try simp only [List.map_toArray, List.map_cons, List.map_nil]); first | done | rfl) ?_; (with_reducible refine (impl_GainOf.calls kj5 t277 t278 _ _ t279 t309 _ ?side1 ?side2 A45.out).mono ?_); (case side1 => refine (x5 (e := 3) (base := w.heap.size) (ok := fun k_ => ((some k_ ≠ (.slice Ao15 t285.length co15 : Value).ownBlock ∧ some k_ ≠ (.slice Ao22 t291.length co22 : Value).ownBlock) ∧ some k_ ≠ (.slice Ao64 t305.length co64 : Value).ownBlock)) (n := t279.length) (c := co10) ?_).2.2; exact (by (with_reducible repeat (first | apply z9 | apply y1)); exact (x6 (x1 (p := ⟨gb308, 2, none⟩) (x1 (p := ⟨gb308, 1, none⟩) (x1 (p := ⟨gb308, 0, none⟩) (x7 Ha_.out BK308.out (by decide)) (fun _ hk => hk.2) (.int .i64 t303)) (fun _ hk => hk.2) (.int .i64 t304)) (fun _ hk => hk.2) (.slice Ao64 t305.length co64)) (fun _ h_ => h_.1)))); (case side2 => exact (x5 Ha_.out).2.1); rintro e w66 ⟨rfl, hb⟩; refine ⟨_, rfl, ?_⟩; have n0_ := z0 (x4 (by (with_reducible repeat (first | apply z9 | apply y1)); exact (x6 (x1 (p := ⟨gb308, 2, none⟩) (x1 (p := ⟨gb308, 1, none⟩) (x1 (p := ⟨gb308, 0, none⟩) (x7 Ha_.out BK308.out (by decide)) (fun _ hk => hk.2) (.int .i64 t303)) (fun _ hk => hk.2) (.int .i64 t304)) (fun _ hk => hk.2) (.slice Ao64 t305.length co64)) (fun _ h_ => h_.1))) hb); have n1_ := z0 (x4 (by (with_reducible repeat (first | apply z9 | apply y1)); exact (x6 (x1 (p := ⟨gb308, 2, none⟩) (x1 (p := ⟨gb308, 1, none⟩) (x1 (p := ⟨gb308, 0, none⟩) (x7 Hb_.out BK308.out (by decide)) (fun _ hk => hk.2) (.int .i64 t303)) (fun _ hk => hk.2) (.int .i64 t304)) (fun _ hk => hk.2) (.slice Ao64 t305.length co64)) (fun _ h_ => h_.1))) hb); have n2_ := z0 (x4 (by (with_reducible repeat (first | apply z9 | apply y1)); exact (x6 (x1 (p := ⟨gb308, 2, none⟩) (x1 (p := ⟨gb308, 1, none⟩) (x1 (p := ⟨gb308, 0, none⟩) (x7 Hc_.out BK308.out (by decide)) (fun _ hk => hk.2) (.int .i64 t303)) (fun _ hk => hk.2) (.int .i64 t304)) (fun _ hk => hk.2) (.slice Ao64 t305.length co64)) (fun _ h_ => h_.1))) hb); have n3_ := z0 (x4 (by (with_reducible repeat (first | apply z9 | apply y1)); exact (x6 (x1 (p := ⟨gb308, 2, none⟩) (x1 (p := ⟨gb308, 1, none⟩) (x1 (p := ⟨gb308, 0, none⟩) (x7 HO307.out BK308.out (by decide)) (fun _ hk => hk.2) (.int .i64 t303)) (fun _ hk => hk.2) (.int .i64 t304)) (fun _ hk => hk.2) (.slice Ao64 t305.length co64)) (fun _ h_ => h_.1))) hb); have n4_ := z0 (y5 (g := gb282) (o := .cells #[.int .i64 t277, .int .i64 t278, .slice Ao10 t279.length co10] 25 (0, 0)) (by (with_reducible repeat (first | refine z1 ?_ _ | refine z3 ?_)); refine x8 ?_ NB282_308.out _; (with_reducible repeat (first | refine z1 ?_ _ | refine z3 ?_)); refine x8 ?_ NB282_308.out _; (with_reducible repeat (first | refine z1 ?_ _ | refine z3 ?_)); refine x8 ?_ NB282_308.out _; (with_reducible repeat (first | refine z1 ?_ _ | refine z3 ?_)); exact BK282.out) hb); have n5_ := z0 (y5 (g := gb288) (o := .cells #[.int .i64 t283, .int .i64 t284, .slice Ao15 t285.length co15] 25 (0, 0)) (by (with_reducible repeat (first | refine z1 ?_ _ | refine z3 ?_)); refine x8 ?_ NB288_308.out _; (with_reducible repeat (first | refine z1 ?_ _ | refine z3 ?_)); refine x8 ?_ NB288_308.out _; (with_reducible repeat (first | refine z1 ?_ _ | refine z3 ?_)); refine x8 ?_ NB288_308.out _; (with_reducible repeat (first | refine z1 ?_ _ | refine z3 ?_)); exact BK288.out) hb); have n6_ := z0 (y5 (g := gb294) (o := .cells #[.int .i64 t289, .int .i64 t290, .slice Ao22 t291.length co22] 25 (0, 0)) (by (with_reducible repeat (first | refine z1 ?_ _ | refine z3 ?_)); refine x8 ?_ NB294_308.out _; (with_reducible repeat (first | refine z1 ?_ _ | refine z3 ?_)); refine x8 ?_ NB294_308.out _; (with_reducible repeat (first | refine z1 ?_ _ | refine z3 ?_)); refine x8 ?_ NB294_308.out _; (with_reducible repeat (first | refine z1 ?_ _ | refine z3 ?_)); exact BK294.out) hb); have n7_ := z0 (y5 (g := gb308) (o := .cells #[.int .i64 t303, .int .i64 t304, .slice Ao64 t305.length co64] 25 (0, 0)) (by (with_reducible repeat (first | refine z1 ?_ _ | refine z3 ?_)); refine blk_put (cs := #[.int .i64 t303, .int .i64 t304, .slice none 0 0]) ?_ 2 _ rfl; (with_reducible repeat (first | refine z1 ?_ _ | refine z3 ?_)); refine blk_put (cs := #[.int .i64 t303, .int .i64 0, .slice none 0 0]) ?_ 1 _ rfl; (with_reducible repeat (first | refine z1 ?_ _ | refine z3 ?_)); refine blk_put (cs := #[.int .i64 0, .int .i64 0, .slice none 0 0]) ?_ 0 _ rfl; (with_reducible repeat (first | refine z1 ?_ _ | refine z3 ?_)); exact BK308.out) hb); have n8_ := z0 (y6 (by repeat (first | (with_reducible first | exact HB.out | apply z5 | apply z6 | refine z7 ?_ GE282.out | refine z7 ?_ GE288.out | refine z7 ?_ GE294.out | refine z7 ?_ GE308.out) | exact HB.out)) hb); clear Ha_; clear Hb_; clear Hc_; clear HO307; clear BK282; clear BK288; clear BK294; clear BK308; clear HB; have Ha_ := n0_; have Hb_ := n1_; have Hc_ := n2_; have HO307 := n3_; have BK282 := n4_; have BK288 := n5_; have BK294 := n6_; have BK308 := n7_; have HB := n8_; clear n0_ n1_ n2_ n3_ n4_ n5_ n6_ n7_ n8_; (try clear hb)))
        have n0_ := z0 (y1 Ha_.out)
        have n1_ := z0 (y1 Hb_.out)
        have n2_ := z0 (y1 Hc_.out)
        have n3_ := z0 (y1 HO307.out)
        have n4_ := z0 (z3 BK282.out)
        have n5_ := z0 (z3 BK288.out)
        have n6_ := z0 (z3 BK294.out)
        have n7_ := z0 (z3 BK308.out)
        have n8_ := z0 (z6 HB.out)
        clear Ha_
        clear Hb_
        clear Hc_
        clear HO307
        clear BK282
        clear BK288
        clear BK294
        clear BK308
        clear HB
        have Ha_ := n0_
        have Hb_ := n1_
        have Hc_ := n2_
        have HO307 := n3_
        have BK282 := n4_
        have BK288 := n5_
        have BK294 := n6_
        have BK308 := n7_
        have HB := n8_
        clear n0_ n1_ n2_ n3_ n4_ n5_ n6_ n7_ n8_
        refine start_ (n := 28) (S := fun w' => w'.cell? ⟨gb294, 0, none⟩ = some (.int .i64 t289) ∧ w'.cell? ⟨gb294, 1, none⟩ = some (.int .i64 t290) ∧ w'.cell? ⟨gb294, 2, none⟩ = some (.slice Ao22 t291.length co22) ∧ w'.cell? ⟨gb308, 0, none⟩ = some (.int .i64 t303) ∧ w'.cell? ⟨gb308, 1, none⟩ = some (.int .i64 t304) ∧ w'.cell? ⟨gb308, 2, none⟩ = some (.slice Ao64 t305.length co64) ∧ w'.cell? ⟨gb288, 0, none⟩ = some (.int .i64 t283) ∧ w'.cell? ⟨gb288, 1, none⟩ = some (.int .i64 t284) ∧ w'.cell? ⟨gb288, 2, none⟩ = some (.slice Ao15 t285.length co15) ∧ w'.cell? ⟨gb282, 0, none⟩ = some (.int .i64 t277) ∧ w'.cell? ⟨gb282, 1, none⟩ = some (.int .i64 t278) ∧ w'.cell? ⟨gb282, 2, none⟩ = some (.slice Ao10 t279.length co10)) (ds := []) #[false, false, false, false, false, false, false, false, false, false, false, false, false, false, false, false, false, false, false, false, false, false, false, false, false, false, false, false] (by kernel_rfl) rfl rfl ⟨(x3 BK294.out 0).trans rfl, (x3 BK294.out 1).trans rfl, (x3 BK294.out 2).trans rfl, (x3 BK308.out 0).trans rfl, (x3 BK308.out 1).trans rfl, (x3 BK308.out 2).trans rfl, (x3 BK288.out 0).trans rfl, (x3 BK288.out 1).trans rfl, (x3 BK288.out 2).trans rfl, (x3 BK282.out 0).trans rfl, (x3 BK282.out 1).trans rfl, (x3 BK282.out 2).trans rfl⟩ (fun hHeld => ?_); refine with_tabW laws_FnGrown.tab10 laws_FnGrown.bits10 (fun HT_ HW_ => ?_)
        generalize w66.drew = w67 at Ha_ Hb_ Hc_ HO307 BK282 BK288 BK294 BK308 HB hHeld ⊢
        refine take_ (i := 0) (N := some 38) (v := ?_) (a' := ?_) #[true, false, false, false, false, false, false, false, false, false, false, false, false, false, false, false, false, false, false, false, false, false, false, false, false, false, false, false] rfl rfl (take_ofW HT_.out HW_.out (by kernel_rfl)) (fun _ _ _ h => h) (Or.inl ⟨by rfl, ?_⟩) hHeld ?_ ?_
        rotate_left
        ·rintro w' ⟨s0, s1, s2, s3, s4, s5, s6, s7, s8, s9, s10, s11⟩
         go_simp
         with_reducible rfl
        rotate_left
        ·simp only [Act.put, List.setIfInBounds_toArray, List.set_cons_zero, List.set_cons_succ, i64_w, i32_w]
         rfl
        refine take_ (i := 2) (N := some 40) (v := ?_) (a' := ?_) #[true, false, true, false, false, false, false, false, false, false, false, false, false, false, false, false, false, false, false, false, false, false, false, false, false, false, false, false] rfl rfl (take_ofW HT_.out HW_.out (by kernel_rfl)) (fun _ _ _ h => h) (Or.inl ⟨by rfl, ?_⟩) hHeld ?_ ?_
        rotate_left
        ·rintro w' ⟨s0, s1, s2, s3, s4, s5, s6, s7, s8, s9, s10, s11⟩
         go_simp
         with_reducible rfl
        rotate_left
        ·simp only [Act.put, List.setIfInBounds_toArray, List.set_cons_zero, List.set_cons_succ, i64_w, i32_w]
         rfl
        refine one_ (i := 1) (N := some 39) #[true, true, true, false, false, false, false, false, false, false, false, false, false, false, false, false, false, false, false, false, false, false, false, false, false, false, false, false] rfl rfl (one_of HT_.out (by kernel_rfl)) (by decide) (fun K hK => ?_)
        refine goes_ Try.func47 (by kernel_rfl) rfl #[.agg #[.int .i64 t289, .int .i64 t290, .slice Ao22 t291.length co22]] (by rfl) rfl rfl (by (try simp only [List.map_toArray, List.map_cons, List.map_nil]); first | done | rfl) ?_
        with_reducible refine (spec_NegativePicture.calls kj5 t289 t290 _ _ t291 t310 t311 t312 _ ?side1 ?side2 A46.out).mono ?_
        (case side1 => repeat (first | exact (x5 Hc_.out).2.2 | (with_reducible refine y3 ?_ _) | (with_reducible refine y4 ?_)))
        (case side2 => exact (x5 Hc_.out).2.1)
        rintro e w68 ⟨v313, rfl, ho0, hb⟩
        refine ⟨_, rfl, ?_⟩
        have n0_ := z0 (y8 (by (with_reducible repeat (first | apply z9 | apply y1)); exact Ha_.out) (w2_ ho0) hb)
        have n1_ := z0 (y8 (by (with_reducible repeat (first | apply z9 | apply y1)); exact Hb_.out) (w2_ ho0) hb)
        have n2_ := z0 (y8 (by (with_reducible repeat (first | apply z9 | apply y1)); exact Hc_.out) (w2_ ho0) hb)
        have n3_ := z0 (y8 (by (with_reducible repeat (first | apply z9 | apply y1)); exact HO307.out) (w2_ ho0) hb)
        have n4_ := z0 (Kd.R_lower (Kd.R_new' (Kd.R_new' (Kd.R_new' (Kd.R_new' ho0 (Kd.R_lt (by (with_reducible repeat (first | apply z9 | apply y1)); exact Ha_.out))) (Kd.R_lt (by (with_reducible repeat (first | apply z9 | apply y1)); exact Hb_.out))) (Kd.R_lt (by (with_reducible repeat (first | apply z9 | apply y1)); exact Hc_.out))) (Kd.R_lt (by (with_reducible repeat (first | apply z9 | apply y1)); exact HO307.out))) (y7 (by repeat (first | (with_reducible first | exact HB.out | apply z5 | apply z6 | refine z7 ?_ GE282.out | refine z7 ?_ GE288.out | refine z7 ?_ GE294.out | refine z7 ?_ GE308.out) | exact HB.out))))
        have n5_ := z0 (y5 (g := gb282) (o := .cells #[.int .i64 t277, .int .i64 t278, .slice Ao10 t279.length co10] 25 (0, 0)) (by (with_reducible repeat (first | refine z1 ?_ _ | refine z3 ?_)); exact BK282.out) hb)
        have n6_ := z0 (y5 (g := gb288) (o := .cells #[.int .i64 t283, .int .i64 t284, .slice Ao15 t285.length co15] 25 (0, 0)) (by (with_reducible repeat (first | refine z1 ?_ _ | refine z3 ?_)); exact BK288.out) hb)
        have n7_ := z0 (y5 (g := gb294) (o := .cells #[.int .i64 t289, .int .i64 t290, .slice Ao22 t291.length co22] 25 (0, 0)) (by (with_reducible repeat (first | refine z1 ?_ _ | refine z3 ?_)); exact BK294.out) hb)
        have n8_ := z0 (y5 (g := gb308) (o := .cells #[.int .i64 t303, .int .i64 t304, .slice Ao64 t305.length co64] 25 (0, 0)) (by (with_reducible repeat (first | refine z1 ?_ _ | refine z3 ?_)); exact BK308.out) hb)
        have n9_ := z0 (y6 (by repeat (first | (with_reducible first | exact HB.out | apply z5 | apply z6 | refine z7 ?_ GE282.out | refine z7 ?_ GE288.out | refine z7 ?_ GE294.out | refine z7 ?_ GE308.out) | exact HB.out)) hb)
        clear Ha_
        clear Hb_
        clear Hc_
        clear HO307
        clear BK282
        clear BK288
        clear BK294
        clear BK308
        clear HB
        have Ha_ := n0_
        have Hb_ := n1_
        have Hc_ := n2_
        have HO307 := n3_
        have HO314 := n4_
        have BK282 := n5_
        have BK288 := n6_
        have BK294 := n7_
        have BK308 := n8_
        have HB := n9_
        clear n0_ n1_ n2_ n3_ n4_ n5_ n6_ n7_ n8_ n9_
        (try clear hb)
        (try clear hb2)
        (try clear hk)
        (try clear hi)
        (try clear ho0)
        refine hK.out _ _ ⟨(x3 BK294.out 0).trans rfl, (x3 BK294.out 1).trans rfl, (x3 BK294.out 2).trans rfl, (x3 BK308.out 0).trans rfl, (x3 BK308.out 1).trans rfl, (x3 BK308.out 2).trans rfl, (x3 BK288.out 0).trans rfl, (x3 BK288.out 1).trans rfl, (x3 BK288.out 2).trans rfl, (x3 BK282.out 0).trans rfl, (x3 BK282.out 1).trans rfl, (x3 BK282.out 2).trans rfl⟩ (fun hHeld => ?_)
        clear hK K
        refine norm_ (a' := ?_) ?_ ?_
        rotate_left
        ·show Act.put _ (some 39) _ = _
         simp only [Act.put, List.setIfInBounds_toArray, List.set_cons_zero, List.set_cons_succ, i64_w, i32_w]
         rfl
        refine one_ (i := 3) (N := some 41) #[true, true, true, true, false, false, false, false, false, false, false, false, false, false, false, false, false, false, false, false, false, false, false, false, false, false, false, false] rfl rfl (one_of HT_.out (by kernel_rfl)) (by decide) (fun K hK => ?_)
        refine goes_ Try.func44 (by kernel_rfl) rfl #[.agg #[.int .i64 t303, .int .i64 t304, .slice Ao64 t305.length co64]] (by rfl) rfl rfl (by (try simp only [List.map_toArray, List.map_cons, List.map_nil]); first | done | rfl) ?_
        with_reducible refine (impl_GrowPlate.calls t303 t304 _ _ t305 t315 t316 t317 _ ?side1 ?side2 A47.out).mono ?_
        (case side1 => repeat (first | exact (x5 HO307.out).2.2 | (with_reducible refine y3 ?_ _) | (with_reducible refine y4 ?_)))
        (case side2 => exact (x5 HO307.out).2.1)
        rintro e w69 ⟨v318, rfl, ho0, hb⟩
        refine ⟨_, rfl, ?_⟩
        have n0_ := z0 (y8 (by (with_reducible repeat (first | apply z9 | apply y1)); exact Ha_.out) (w2_ ho0) hb)
        have n1_ := z0 (y8 (by (with_reducible repeat (first | apply z9 | apply y1)); exact Hb_.out) (w2_ ho0) hb)
        have n2_ := z0 (y8 (by (with_reducible repeat (first | apply z9 | apply y1)); exact Hc_.out) (w2_ ho0) hb)
        have n3_ := z0 (y8 (by (with_reducible repeat (first | apply z9 | apply y1)); exact HO307.out) (w2_ ho0) hb)
        have n4_ := z0 (y8 (by (with_reducible repeat (first | apply z9 | apply y1)); exact HO314.out) (w2_ ho0) hb)
        have n5_ := z0 (Kd.R_lower (Kd.R_new' (Kd.R_new' (Kd.R_new' (Kd.R_new' (Kd.R_new' ho0 (Kd.R_lt (by (with_reducible repeat (first | apply z9 | apply y1)); exact Ha_.out))) (Kd.R_lt (by (with_reducible repeat (first | apply z9 | apply y1)); exact Hb_.out))) (Kd.R_lt (by (with_reducible repeat (first | apply z9 | apply y1)); exact Hc_.out))) (Kd.R_lt (by (with_reducible repeat (first | apply z9 | apply y1)); exact HO307.out))) (Kd.R_lt (by (with_reducible repeat (first | apply z9 | apply y1)); exact HO314.out))) (y7 (by repeat (first | (with_reducible first | exact HB.out | apply z5 | apply z6 | refine z7 ?_ GE282.out | refine z7 ?_ GE288.out | refine z7 ?_ GE294.out | refine z7 ?_ GE308.out) | exact HB.out))))
        have n6_ := z0 (y5 (g := gb282) (o := .cells #[.int .i64 t277, .int .i64 t278, .slice Ao10 t279.length co10] 25 (0, 0)) (by (with_reducible repeat (first | refine z1 ?_ _ | refine z3 ?_)); exact BK282.out) hb)
        have n7_ := z0 (y5 (g := gb288) (o := .cells #[.int .i64 t283, .int .i64 t284, .slice Ao15 t285.length co15] 25 (0, 0)) (by (with_reducible repeat (first | refine z1 ?_ _ | refine z3 ?_)); exact BK288.out) hb)
        have n8_ := z0 (y5 (g := gb294) (o := .cells #[.int .i64 t289, .int .i64 t290, .slice Ao22 t291.length co22] 25 (0, 0)) (by (with_reducible repeat (first | refine z1 ?_ _ | refine z3 ?_)); exact BK294.out) hb)
        have n9_ := z0 (y5 (g := gb308) (o := .cells #[.int .i64 t303, .int .i64 t304, .slice Ao64 t305.length co64] 25 (0, 0)) (by (with_reducible repeat (first | refine z1 ?_ _ | refine z3 ?_)); exact BK308.out) hb)
        have n10_ := z0 (y6 (by repeat (first | (with_reducible first | exact HB.out | apply z5 | apply z6 | refine z7 ?_ GE282.out | refine z7 ?_ GE288.out | refine z7 ?_ GE294.out | refine z7 ?_ GE308.out) | exact HB.out)) hb)
        clear Ha_
        clear Hb_
        clear Hc_
        clear HO307
        clear HO314
        clear BK282
        clear BK288
        clear BK294
        clear BK308
        clear HB
        have Ha_ := n0_
        have Hb_ := n1_
        have Hc_ := n2_
        have HO307 := n3_
        have HO314 := n4_
        have HO319 := n5_
        have BK282 := n6_
        have BK288 := n7_
        have BK294 := n8_
        have BK308 := n9_
        have HB := n10_
        clear n0_ n1_ n2_ n3_ n4_ n5_ n6_ n7_ n8_ n9_ n10_
        (try clear hb)
        (try clear hb2)
        (try clear hk)
        (try clear hi)
        (try clear ho0)
        obtain ⟨Ao70, co70, eo70⟩ := Kd.R_slice HO314.out
        (first | subst eo70 | (injection eo70 with f1_ f2_ f3_; have f4_ := f1_.symm; have f5_ := f3_.symm; clear f1_ f2_ f3_; subst f4_; subst f5_))
        obtain ⟨Ao71, co71, eo71⟩ := Kd.R_slice HO319.out
        (first | subst eo71 | (injection eo71 with f1_ f2_ f3_; have f4_ := f1_.symm; have f5_ := f3_.symm; clear f1_ f2_ f3_; subst f4_; subst f5_))
        refine hK.out _ _ ⟨(x3 BK294.out 0).trans rfl, (x3 BK294.out 1).trans rfl, (x3 BK294.out 2).trans rfl, (x3 BK308.out 0).trans rfl, (x3 BK308.out 1).trans rfl, (x3 BK308.out 2).trans rfl, (x3 BK288.out 0).trans rfl, (x3 BK288.out 1).trans rfl, (x3 BK288.out 2).trans rfl, (x3 BK282.out 0).trans rfl, (x3 BK282.out 1).trans rfl, (x3 BK282.out 2).trans rfl⟩ (fun hHeld => ?_)
        clear hK K
        refine norm_ (a' := ?_) ?_ ?_
        rotate_left
        ·show Act.put _ (some 41) _ = _
         simp only [Act.put, List.setIfInBounds_toArray, List.set_cons_zero, List.set_cons_succ, i64_w, i32_w]
         rfl
        refine one_ (i := 4) (N := some 42) #[true, true, true, true, true, false, false, false, false, false, false, false, false, false, false, false, false, false, false, false, false, false, false, false, false, false, false, false] rfl rfl (one_of HT_.out (by kernel_rfl)) (by decide) (fun K hK => ?_)
        refine goes_ Try.func24 (by kernel_rfl) rfl #[.agg #[.int .i64 t310, .int .i64 t311, .slice Ao70 t312.length co70], .agg #[.int .i64 t315, .int .i64 t316, .slice Ao71 t317.length co71]] (by rfl) rfl rfl (by (try simp only [List.map_toArray, List.map_cons, List.map_nil]); first | done | rfl) ?_
        with_reducible refine (laws_same.calls kj5 t310 t311 _ _ t312 t315 t316 _ _ t317 true _ ?side1 ?side2 ?side3 ?side4 A48.out).mono ?_
        (case side1 => repeat (first | exact (x5 HO314.out).2.2 | (with_reducible refine y3 ?_ _) | (with_reducible refine y4 ?_)))
        (case side2 => exact (x5 HO314.out).2.1)
        (case side3 => repeat (first | exact (x5 HO319.out).2.2 | (with_reducible refine y3 ?_ _) | (with_reducible refine y4 ?_)))
        (case side4 => exact (x5 HO319.out).2.1)
        rintro e w72 ⟨rfl, hb⟩
        refine ⟨_, rfl, ?_⟩
        have n0_ := z0 (x4 (by (with_reducible repeat (first | apply z9 | apply y1)); exact Ha_.out) hb)
        have n1_ := z0 (x4 (by (with_reducible repeat (first | apply z9 | apply y1)); exact Hb_.out) hb)
        have n2_ := z0 (x4 (by (with_reducible repeat (first | apply z9 | apply y1)); exact Hc_.out) hb)
        have n3_ := z0 (x4 (by (with_reducible repeat (first | apply z9 | apply y1)); exact HO307.out) hb)
        have n4_ := z0 (x4 (by (with_reducible repeat (first | apply z9 | apply y1)); exact HO314.out) hb)
        have n5_ := z0 (x4 (by (with_reducible repeat (first | apply z9 | apply y1)); exact HO319.out) hb)
        have n6_ := z0 (y5 (g := gb282) (o := .cells #[.int .i64 t277, .int .i64 t278, .slice Ao10 t279.length co10] 25 (0, 0)) (by (with_reducible repeat (first | refine z1 ?_ _ | refine z3 ?_)); exact BK282.out) hb)
        have n7_ := z0 (y5 (g := gb288) (o := .cells #[.int .i64 t283, .int .i64 t284, .slice Ao15 t285.length co15] 25 (0, 0)) (by (with_reducible repeat (first | refine z1 ?_ _ | refine z3 ?_)); exact BK288.out) hb)
        have n8_ := z0 (y5 (g := gb294) (o := .cells #[.int .i64 t289, .int .i64 t290, .slice Ao22 t291.length co22] 25 (0, 0)) (by (with_reducible repeat (first | refine z1 ?_ _ | refine z3 ?_)); exact BK294.out) hb)
        have n9_ := z0 (y5 (g := gb308) (o := .cells #[.int .i64 t303, .int .i64 t304, .slice Ao64 t305.length co64] 25 (0, 0)) (by (with_reducible repeat (first | refine z1 ?_ _ | refine z3 ?_)); exact BK308.out) hb)
        have n10_ := z0 (y6 (by repeat (first | (with_reducible first | exact HB.out | apply z5 | apply z6 | refine z7 ?_ GE282.out | refine z7 ?_ GE288.out | refine z7 ?_ GE294.out | refine z7 ?_ GE308.out) | exact HB.out)) hb)
        clear Ha_
        clear Hb_
        clear Hc_
        clear HO307
        clear HO314
        clear HO319
        clear BK282
        clear BK288
        clear BK294
        clear BK308
        clear HB
        have Ha_ := n0_
        have Hb_ := n1_
        have Hc_ := n2_
        have HO307 := n3_
        have HO314 := n4_
        have HO319 := n5_
        have BK282 := n6_
        have BK288 := n7_
        have BK294 := n8_
        have BK308 := n9_
        have HB := n10_
        clear n0_ n1_ n2_ n3_ n4_ n5_ n6_ n7_ n8_ n9_ n10_
        (try clear hb)
        (try clear hb2)
        (try clear hk)
        (try clear hi)
        refine hK.out _ _ ⟨(x3 BK294.out 0).trans rfl, (x3 BK294.out 1).trans rfl, (x3 BK294.out 2).trans rfl, (x3 BK308.out 0).trans rfl, (x3 BK308.out 1).trans rfl, (x3 BK308.out 2).trans rfl, (x3 BK288.out 0).trans rfl, (x3 BK288.out 1).trans rfl, (x3 BK288.out 2).trans rfl, (x3 BK282.out 0).trans rfl, (x3 BK282.out 1).trans rfl, (x3 BK282.out 2).trans rfl⟩ (fun hHeld => ?_)
        clear hK K
        refine norm_ (a' := ?_) ?_ ?_
        rotate_left
        ·show Act.put _ (some 42) _ = _
         simp only [Act.put, List.setIfInBounds_toArray, List.set_cons_zero, List.set_cons_succ, i64_w, i32_w]
         rfl
        refine pure_ (i := 5) (N := some 43) (v := ?_) (a' := ?_) #[true, true, true, true, true, true, false, false, false, false, false, false, false, false, false, false, false, false, false, false, false, false, false, false, false, false, false, false] rfl rfl (any_of HT_.out (by kernel_rfl)) (fun _ _ _ h => h) (Or.inl ⟨by rfl, ?_⟩) ?_ ?_
        rotate_left
        ·intro w'
         go_simp
         with_reducible rfl
        rotate_left
        ·simp only [Act.put, List.setIfInBounds_toArray, List.set_cons_zero, List.set_cons_succ, i64_w, i32_w]
         rfl
        refine pure_ (i := 6) (N := some 44) (v := ?_) (a' := ?_) #[true, true, true, true, true, true, true, false, false, false, false, false, false, false, false, false, false, false, false, false, false, false, false, false, false, false, false, false] rfl rfl (any_of HT_.out (by kernel_rfl)) (fun _ _ _ h => h) (Or.inl ⟨by rfl, ?_⟩) ?_ ?_
        rotate_left
        ·intro w'
         go_simp
         with_reducible rfl
        rotate_left
        ·simp only [Act.put, List.setIfInBounds_toArray, List.set_cons_zero, List.set_cons_succ, i64_w, i32_w]
         rfl
        refine pure_ (i := 9) (N := some 47) (v := ?_) (a' := ?_) #[true, true, true, true, true, true, true, false, false, true, false, false, false, false, false, false, false, false, false, false, false, false, false, false, false, false, false, false] rfl rfl (any_of HT_.out (by kernel_rfl)) (fun _ _ _ h => h) (Or.inl ⟨by rfl, ?_⟩) ?_ ?_
        rotate_left
        ·intro w'
         go_simp
         with_reducible rfl
        rotate_left
        ·simp only [Act.put, List.setIfInBounds_toArray, List.set_cons_zero, List.set_cons_succ, i64_w, i32_w]
         rfl
        refine take_ (i := 7) (N := some 45) (v := ?_) (a' := ?_) #[true, true, true, true, true, true, true, true, false, true, false, false, false, false, false, false, false, false, false, false, false, false, false, false, false, false, false, false] rfl rfl (take_ofW HT_.out HW_.out (by kernel_rfl)) (fun _ _ _ h => h) (Or.inl ⟨by rfl, ?_⟩) hHeld ?_ ?_
        rotate_left
        ·rintro w' ⟨s0, s1, s2, s3, s4, s5, s6, s7, s8, s9, s10, s11⟩
         go_simp
         with_reducible rfl
        rotate_left
        ·simp only [Act.put, List.setIfInBounds_toArray, List.set_cons_zero, List.set_cons_succ, i64_w, i32_w]
         rfl
        refine take_ (i := 10) (N := some 48) (v := ?_) (a' := ?_) #[true, true, true, true, true, true, true, true, false, true, true, false, false, false, false, false, false, false, false, false, false, false, false, false, false, false, false, false] rfl rfl (take_ofW HT_.out HW_.out (by kernel_rfl)) (fun _ _ _ h => h) (Or.inl ⟨by rfl, ?_⟩) hHeld ?_ ?_
        rotate_left
        ·rintro w' ⟨s0, s1, s2, s3, s4, s5, s6, s7, s8, s9, s10, s11⟩
         go_simp
         with_reducible rfl
        rotate_left
        ·simp only [Act.put, List.setIfInBounds_toArray, List.set_cons_zero, List.set_cons_succ, i64_w, i32_w]
         rfl
        refine one_ (i := 8) (N := some 46) #[true, true, true, true, true, true, true, true, true, true, true, false, false, false, false, false, false, false, false, false, false, false, false, false, false, false, false, false] rfl rfl (one_of HT_.out (by kernel_rfl)) (by decide) (fun K hK => ?_)
        refine goes_ Try.func49 (by kernel_rfl) rfl #[.agg #[.int .i64 t283, .int .i64 t284, .slice Ao15 t285.length co15]] (by rfl) rfl rfl (by (try simp only [List.map_toArray, List.map_cons, List.map_nil]); first | done | rfl) ?_
        with_reducible refine (impl_SumInk.calls kj5 t283 t284 _ _ t285 t321 _ ?side1 ?side2 A50.out).mono ?_
        (case side1 => repeat (first | exact (x5 Hb_.out).2.2 | (with_reducible refine y3 ?_ _) | (with_reducible refine y4 ?_)))
        (case side2 => exact (x5 Hb_.out).2.1)
        rintro e w73 ⟨rfl, hb⟩
        refine ⟨_, rfl, ?_⟩
        have n0_ := z0 (x4 (by (with_reducible repeat (first | apply z9 | apply y1)); exact Ha_.out) hb)
        have n1_ := z0 (x4 (by (with_reducible repeat (first | apply z9 | apply y1)); exact Hb_.out) hb)
        have n2_ := z0 (x4 (by (with_reducible repeat (first | apply z9 | apply y1)); exact Hc_.out) hb)
        have n3_ := z0 (x4 (by (with_reducible repeat (first | apply z9 | apply y1)); exact HO307.out) hb)
        have n4_ := z0 (x4 (by (with_reducible repeat (first | apply z9 | apply y1)); exact HO314.out) hb)
        have n5_ := z0 (x4 (by (with_reducible repeat (first | apply z9 | apply y1)); exact HO319.out) hb)
        have n6_ := z0 (y5 (g := gb282) (o := .cells #[.int .i64 t277, .int .i64 t278, .slice Ao10 t279.length co10] 25 (0, 0)) (by (with_reducible repeat (first | refine z1 ?_ _ | refine z3 ?_)); exact BK282.out) hb)
        have n7_ := z0 (y5 (g := gb288) (o := .cells #[.int .i64 t283, .int .i64 t284, .slice Ao15 t285.length co15] 25 (0, 0)) (by (with_reducible repeat (first | refine z1 ?_ _ | refine z3 ?_)); exact BK288.out) hb)
        have n8_ := z0 (y5 (g := gb294) (o := .cells #[.int .i64 t289, .int .i64 t290, .slice Ao22 t291.length co22] 25 (0, 0)) (by (with_reducible repeat (first | refine z1 ?_ _ | refine z3 ?_)); exact BK294.out) hb)
        have n9_ := z0 (y5 (g := gb308) (o := .cells #[.int .i64 t303, .int .i64 t304, .slice Ao64 t305.length co64] 25 (0, 0)) (by (with_reducible repeat (first | refine z1 ?_ _ | refine z3 ?_)); exact BK308.out) hb)
        have n10_ := z0 (y6 (by repeat (first | (with_reducible first | exact HB.out | apply z5 | apply z6 | refine z7 ?_ GE282.out | refine z7 ?_ GE288.out | refine z7 ?_ GE294.out | refine z7 ?_ GE308.out) | exact HB.out)) hb)
        clear Ha_
        clear Hb_
        clear Hc_
        clear HO307
        clear HO314
        clear HO319
        clear BK282
        clear BK288
        clear BK294
        clear BK308
        clear HB
        have Ha_ := n0_
        have Hb_ := n1_
        have Hc_ := n2_
        have HO307 := n3_
        have HO314 := n4_
        have HO319 := n5_
        have BK282 := n6_
        have BK288 := n7_
        have BK294 := n8_
        have BK308 := n9_
        have HB := n10_
        clear n0_ n1_ n2_ n3_ n4_ n5_ n6_ n7_ n8_ n9_ n10_
        (try clear hb)
        (try clear hb2)
        (try clear hk)
        (try clear hi)
        refine hK.out _ _ ⟨(x3 BK294.out 0).trans rfl, (x3 BK294.out 1).trans rfl, (x3 BK294.out 2).trans rfl, (x3 BK308.out 0).trans rfl, (x3 BK308.out 1).trans rfl, (x3 BK308.out 2).trans rfl, (x3 BK288.out 0).trans rfl, (x3 BK288.out 1).trans rfl, (x3 BK288.out 2).trans rfl, (x3 BK282.out 0).trans rfl, (x3 BK282.out 1).trans rfl, (x3 BK282.out 2).trans rfl⟩ (fun hHeld => ?_)
        clear hK K
        refine norm_ (a' := ?_) ?_ ?_
        rotate_left
        ·show Act.put _ (some 46) _ = _
         simp only [Act.put, List.setIfInBounds_toArray, List.set_cons_zero, List.set_cons_succ, i64_w, i32_w]
         rfl
        refine one_ (i := 11) (N := some 49) #[true, true, true, true, true, true, true, true, true, true, true, true, false, false, false, false, false, false, false, false, false, false, false, false, false, false, false, false] rfl rfl (one_of HT_.out (by kernel_rfl)) (by decide) (fun K hK => ?_)
        refine goes_ Try.func19 (by kernel_rfl) rfl #[.slice Ao10 t279.length co10] (by rfl) rfl rfl (by (try simp only [List.map_toArray, List.map_cons, List.map_nil]); first | done | rfl) ?_
        with_reducible refine (laws_total.calls kj5 _ _ t279 t322 _ ?side1 ?side2 A51.out).mono ?_
        (case side1 => repeat (first | exact (x5 Ha_.out).2.2 | (with_reducible refine y3 ?_ _) | (with_reducible refine y4 ?_)))
        (case side2 => exact (x5 Ha_.out).2.1)
        rintro e w' ⟨rfl, ⟨nd, rfl⟩⟩
        refine ⟨_, rfl, ?_⟩
        refine hK.out _ _ ⟨(x3 BK294.out 0).trans rfl, (x3 BK294.out 1).trans rfl, (x3 BK294.out 2).trans rfl, (x3 BK308.out 0).trans rfl, (x3 BK308.out 1).trans rfl, (x3 BK308.out 2).trans rfl, (x3 BK288.out 0).trans rfl, (x3 BK288.out 1).trans rfl, (x3 BK288.out 2).trans rfl, (x3 BK282.out 0).trans rfl, (x3 BK282.out 1).trans rfl, (x3 BK282.out 2).trans rfl⟩ (fun hHeld => ?_)
        clear hK K
        refine norm_ (a' := ?_) ?_ ?_
        rotate_left
        ·show Act.put _ (some 49) _ = _
         simp only [Act.put, List.setIfInBounds_toArray, List.set_cons_zero, List.set_cons_succ, i64_w, i32_w]
         rfl
        refine pure_ (i := 12) (N := some 50) (v := ?_) (a' := ?_) #[true, true, true, true, true, true, true, true, true, true, true, true, true, false, false, false, false, false, false, false, false, false, false, false, false, false, false, false] rfl rfl (any_of HT_.out (by kernel_rfl)) (fun _ _ _ h => h) (Or.inl ⟨by rfl, ?_⟩) ?_ ?_
        rotate_left
        ·intro w'
         go_simp
         with_reducible rfl
        rotate_left
        ·simp only [Act.put, List.setIfInBounds_toArray, List.set_cons_zero, List.set_cons_succ, i64_w, i32_w]
         rfl
        refine pure_ (i := 13) (N := some 51) (v := ?_) (a' := ?_) #[true, true, true, true, true, true, true, true, true, true, true, true, true, true, false, false, false, false, false, false, false, false, false, false, false, false, false, false] rfl rfl (any_of HT_.out (by kernel_rfl)) (fun _ _ _ h => h) (Or.inl ⟨by rfl, ?_⟩) ?_ ?_
        rotate_left
        ·intro w'
         go_simp
         with_reducible rfl
        rotate_left
        ·simp only [Act.put, List.setIfInBounds_toArray, List.set_cons_zero, List.set_cons_succ, i64_w, i32_w]
         rfl
        refine pure_ (i := 14) (N := some 52) (v := ?_) (a' := ?_) #[true, true, true, true, true, true, true, true, true, true, true, true, true, true, true, false, false, false, false, false, false, false, false, false, false, false, false, false] rfl rfl (any_of HT_.out (by kernel_rfl)) (fun _ _ _ h => h) (Or.inl ⟨by rfl, ?_⟩) ?_ ?_
        rotate_left
        ·intro w'
         go_simp
         with_reducible rfl
        rotate_left
        ·simp only [Act.put, List.setIfInBounds_toArray, List.set_cons_zero, List.set_cons_succ, i64_w, i32_w]
         rfl
        refine pure_ (i := 15) (N := some 53) (v := ?_) (a' := ?_) #[true, true, true, true, true, true, true, true, true, true, true, true, true, true, true, true, false, false, false, false, false, false, false, false, false, false, false, false] rfl rfl (any_of HT_.out (by kernel_rfl)) (fun _ _ _ h => h) (Or.inl ⟨by rfl, ?_⟩) ?_ ?_
        rotate_left
        ·intro w'
         go_simp
         with_reducible rfl
        rotate_left
        ·simp only [Act.put, List.setIfInBounds_toArray, List.set_cons_zero, List.set_cons_succ, i64_w, i32_w]
         rfl
        refine pure_ (i := 16) (N := some 54) (v := ?_) (a' := ?_) #[true, true, true, true, true, true, true, true, true, true, true, true, true, true, true, true, true, false, false, false, false, false, false, false, false, false, false, false] rfl rfl (any_of HT_.out (by kernel_rfl)) (fun _ _ _ h => h) (Or.inl ⟨by rfl, ?_⟩) ?_ ?_
        rotate_left
        ·intro w'
         go_simp
         with_reducible rfl
        rotate_left
        ·simp only [Act.put, List.setIfInBounds_toArray, List.set_cons_zero, List.set_cons_succ, i64_w, i32_w]
         rfl
        refine pure_ (i := 17) (N := some 55) (v := ?_) (a' := ?_) #[true, true, true, true, true, true, true, true, true, true, true, true, true, true, true, true, true, true, false, false, false, false, false, false, false, false, false, false] rfl rfl (any_of HT_.out (by kernel_rfl)) (fun _ _ _ h => h) (Or.inl ⟨by rfl, ?_⟩) ?_ ?_
        rotate_left
        ·intro w'
         go_simp
         with_reducible rfl
        rotate_left
        ·simp only [Act.put, List.setIfInBounds_toArray, List.set_cons_zero, List.set_cons_succ, i64_w, i32_w]
         rfl
        refine pure_ (i := 18) (N := some 56) (v := ?_) (a' := ?_) #[true, true, true, true, true, true, true, true, true, true, true, true, true, true, true, true, true, true, true, false, false, false, false, false, false, false, false, false] rfl rfl (any_of HT_.out (by kernel_rfl)) (fun _ _ _ h => h) (Or.inl ⟨by rfl, ?_⟩) ?_ ?_
        rotate_left
        ·intro w'
         go_simp
         with_reducible rfl
        rotate_left
        ·simp only [Act.put, List.setIfInBounds_toArray, List.set_cons_zero, List.set_cons_succ, i64_w, i32_w]
         rfl
        refine pure_ (i := 19) (N := some 57) (v := ?_) (a' := ?_) #[true, true, true, true, true, true, true, true, true, true, true, true, true, true, true, true, true, true, true, true, false, false, false, false, false, false, false, false] rfl rfl (any_of HT_.out (by kernel_rfl)) (fun _ _ _ h => h) (Or.inl ⟨by rfl, ?_⟩) ?_ ?_
        rotate_left
        ·intro w'
         go_simp
         with_reducible rfl
        rotate_left
        ·simp only [Act.put, List.setIfInBounds_toArray, List.set_cons_zero, List.set_cons_succ, i64_w, i32_w]
         rfl
        refine pure_ (i := 20) (N := some 58) (v := ?_) (a' := ?_) #[true, true, true, true, true, true, true, true, true, true, true, true, true, true, true, true, true, true, true, true, true, false, false, false, false, false, false, false] rfl rfl (any_of HT_.out (by kernel_rfl)) (fun _ _ _ h => h) (Or.inl ⟨by rfl, ?_⟩) ?_ ?_
        rotate_left
        ·intro w'
         go_simp
         with_reducible rfl
        rotate_left
        ·simp only [Act.put, List.setIfInBounds_toArray, List.set_cons_zero, List.set_cons_succ, i64_w, i32_w]
         rfl
        refine pure_ (i := 21) (N := some 59) (v := ?_) (a' := ?_) #[true, true, true, true, true, true, true, true, true, true, true, true, true, true, true, true, true, true, true, true, true, true, false, false, false, false, false, false] rfl rfl (any_of HT_.out (by kernel_rfl)) (fun _ _ _ h => h) (Or.inl ⟨by rfl, ?_⟩) ?_ ?_
        rotate_left
        ·intro w'
         go_simp
         with_reducible rfl
        rotate_left
        ·simp only [Act.put, List.setIfInBounds_toArray, List.set_cons_zero, List.set_cons_succ, i64_w, i32_w]
         rfl
        refine take_ (i := 22) (N := some 60) (v := ?_) (a' := ?_) #[true, true, true, true, true, true, true, true, true, true, true, true, true, true, true, true, true, true, true, true, true, true, true, false, false, false, false, false] rfl rfl (take_ofW HT_.out HW_.out (by kernel_rfl)) (fun _ _ _ h => h) (Or.inl ⟨by rfl, ?_⟩) hHeld ?_ ?_
        rotate_left
        ·rintro w' ⟨s0, s1, s2, s3, s4, s5, s6, s7, s8, s9, s10, s11⟩
         go_simp
         with_reducible rfl
        rotate_left
        ·simp only [Act.put, List.setIfInBounds_toArray, List.set_cons_zero, List.set_cons_succ, i64_w, i32_w]
         rfl
        refine one_ (i := 23) (N := some 61) #[true, true, true, true, true, true, true, true, true, true, true, true, true, true, true, true, true, true, true, true, true, true, true, true, false, false, false, false] rfl rfl (one_of HT_.out (by kernel_rfl)) (by decide) (fun K hK => ?_)
        refine goes_ Try.func19 (by kernel_rfl) rfl #[.slice Ao10 t279.length co10] (by rfl) rfl rfl (by (try simp only [List.map_toArray, List.map_cons, List.map_nil]); first | done | rfl) ?_
        with_reducible refine (laws_total.calls kj5 _ _ t279 t323 _ ?side1 ?side2 A54.out).mono ?_
        (case side1 => repeat (first | exact (x5 Ha_.out).2.2 | (with_reducible refine y3 ?_ _) | (with_reducible refine y4 ?_)))
        (case side2 => exact (x5 Ha_.out).2.1)
        rintro e w' ⟨rfl, ⟨nd, rfl⟩⟩
        refine ⟨_, rfl, ?_⟩
        refine hK.out _ _ ⟨(x3 BK294.out 0).trans rfl, (x3 BK294.out 1).trans rfl, (x3 BK294.out 2).trans rfl, (x3 BK308.out 0).trans rfl, (x3 BK308.out 1).trans rfl, (x3 BK308.out 2).trans rfl, (x3 BK288.out 0).trans rfl, (x3 BK288.out 1).trans rfl, (x3 BK288.out 2).trans rfl, (x3 BK282.out 0).trans rfl, (x3 BK282.out 1).trans rfl, (x3 BK282.out 2).trans rfl⟩ (fun hHeld => ?_)
        clear hK K
        refine norm_ (a' := ?_) ?_ ?_
        rotate_left
        ·show Act.put _ (some 61) _ = _
         simp only [Act.put, List.setIfInBounds_toArray, List.set_cons_zero, List.set_cons_succ, i64_w, i32_w]
         rfl
        refine pure_ (i := 24) (N := some 62) (v := ?_) (a' := ?_) #[true, true, true, true, true, true, true, true, true, true, true, true, true, true, true, true, true, true, true, true, true, true, true, true, true, false, false, false] rfl rfl (any_of HT_.out (by kernel_rfl)) (fun _ _ _ h => h) (Or.inl ⟨by rfl, ?_⟩) ?_ ?_
        rotate_left
        ·intro w'
         go_simp
         with_reducible rfl
        rotate_left
        ·simp only [Act.put, List.setIfInBounds_toArray, List.set_cons_zero, List.set_cons_succ, i64_w, i32_w]
         rfl
        refine pure_ (i := 25) (N := some 63) (v := ?_) (a' := ?_) #[true, true, true, true, true, true, true, true, true, true, true, true, true, true, true, true, true, true, true, true, true, true, true, true, true, true, false, false] rfl rfl (any_of HT_.out (by kernel_rfl)) (fun _ _ _ h => h) (Or.inl ⟨by rfl, ?_⟩) ?_ ?_
        rotate_left
        ·intro w'
         go_simp
         with_reducible rfl
        rotate_left
        ·simp only [Act.put, List.setIfInBounds_toArray, List.set_cons_zero, List.set_cons_succ, i64_w, i32_w]
         rfl
        refine pure_ (i := 26) (N := some 64) (v := ?_) (a' := ?_) #[true, true, true, true, true, true, true, true, true, true, true, true, true, true, true, true, true, true, true, true, true, true, true, true, true, true, true, false] rfl rfl (any_of HT_.out (by kernel_rfl)) (fun _ _ _ h => h) (Or.inl ⟨by rfl, ?_⟩) ?_ ?_
        rotate_left
        ·intro w'
         go_simp
         with_reducible rfl
        rotate_left
        ·simp only [Act.put, List.setIfInBounds_toArray, List.set_cons_zero, List.set_cons_succ, i64_w, i32_w]
         rfl
        refine pure_ (i := 27) (N := some 2) (v := ?_) (a' := ?_) #[true, true, true, true, true, true, true, true, true, true, true, true, true, true, true, true, true, true, true, true, true, true, true, true, true, true, true, true] rfl rfl (any_of HT_.out (by kernel_rfl)) (fun _ _ _ h => h) (Or.inl ⟨by rfl, ?_⟩) ?_ ?_
        rotate_left
        ·intro w'
         go_simp
         with_reducible rfl
        rotate_left
        ·simp only [Act.put, List.setIfInBounds_toArray, List.set_cons_zero, List.set_cons_succ, i64_w, i32_w]
         rfl
        refine done_ (done_of HT_.out (by kernel_rfl)) ?_
        try go_wp2
        go_ret
        exact ⟨by first | rfl | (simp [errW_none, errW_some] <;> rfl) | (simp [*, errW_none, errW_some] <;> rfl), by repeat (first | (with_reducible first | exact HB.out | apply z5 | apply z6 | refine z7 ?_ GE282.out | refine z7 ?_ GE288.out | refine z7 ?_ GE294.out | refine z7 ?_ GE308.out) | exact HB.out)⟩
       ·rw [if_neg c53] at H
        have c53b0 : decide (0 ≤ t309) = false := decide_eq_false c53
        clear c53
        obtain rfl := Option.some.inj H
        have hnb74 := NB282_288.out
        have hnc74 := NB288_282.out
        have hnb75 := NB282_294.out
        have hnc75 := NB294_282.out
        have hcz76_0 : wc.cell? ⟨gb282, 0, none⟩ = some (.int .i64 t277) := (x3 BK282.out 0).trans rfl
        have hcz76_1 : wc.cell? ⟨gb282, 1, none⟩ = some (.int .i64 t278) := (x3 BK282.out 1).trans rfl
        have hcz76_2 : wc.cell? ⟨gb282, 2, none⟩ = some (.slice Ao10 t279.length co10) := (x3 BK282.out 2).trans rfl
        have hfz76_0 := x2 BK282.out 0
        have hfz76_1 := x2 BK282.out 1
        have hfz76_2 := x2 BK282.out 2
        try go_wp2_with (first | ((with_reducible refine gate_callee (f := 47) rfl ?_); refine goesL_ (some 35) rfl rfl Try.func47 (by kernel_rfl) rfl #[.agg #[.int .i64 t277, .int .i64 t278, .slice Ao10 t279.length co10]] rfl (by (try simp only [List.map_toArray, List.map_cons, List.map_nil]); first | done | rfl) ?_; (with_reducible refine (spec_NegativePicture.calls kj5 t277 t278 _ _ t279 t303 t304 t305 _ ?side1 ?side2 A44.out).mono ?_); (case side1 => repeat (first | exact (x5 Ha_.out).2.2 | (with_reducible refine y3 ?_ _) | (with_reducible refine y4 ?_))); (case side2 => exact (x5 Ha_.out).2.1); rintro e w77 ⟨v306, rfl, ho0, hb⟩; refine ⟨_, rfl, ?_⟩; have n0_ := z0 (y8 (by (with_reducible repeat (first | apply z9 | apply y1)); exact Ha_.out) (w2_ ho0) hb); have n1_ := z0 (y8 (by (with_reducible repeat (first | apply z9 | apply y1)); exact Hb_.out) (w2_ ho0) hb); have n2_ := z0 (y8 (by (with_reducible repeat (first | apply z9 | apply y1)); exact Hc_.out) (w2_ ho0) hb); have n3_ := z0 (Kd.R_lower (Kd.R_new' (Kd.R_new' (Kd.R_new' ho0 (Kd.R_lt (by (with_reducible repeat (first | apply z9 | apply y1)); exact Ha_.out))) (Kd.R_lt (by (with_reducible repeat (first | apply z9 | apply y1)); exact Hb_.out))) (Kd.R_lt (by (with_reducible repeat (first | apply z9 | apply y1)); exact Hc_.out))) (y7 (by repeat (first | (with_reducible first | exact HB.out | apply z5 | apply z6 | refine z7 ?_ GE282.out | refine z7 ?_ GE288.out | refine z7 ?_ GE294.out) | exact HB.out)))); have n4_ := z0 (y5 (g := gb282) (o := .cells #[.int .i64 t277, .int .i64 t278, .slice Ao10 t279.length co10] 25 (0, 0)) (by (with_reducible repeat (first | refine z1 ?_ _ | refine z3 ?_)); exact BK282.out) hb); have n5_ := z0 (y5 (g := gb288) (o := .cells #[.int .i64 t283, .int .i64 t284, .slice Ao15 t285.length co15] 25 (0, 0)) (by (with_reducible repeat (first | refine z1 ?_ _ | refine z3 ?_)); exact BK288.out) hb); have n6_ := z0 (y5 (g := gb294) (o := .cells #[.int .i64 t289, .int .i64 t290, .slice Ao22 t291.length co22] 25 (0, 0)) (by (with_reducible repeat (first | refine z1 ?_ _ | refine z3 ?_)); exact BK294.out) hb); have n7_ := z0 (y6 (by repeat (first | (with_reducible first | exact HB.out | apply z5 | apply z6 | refine z7 ?_ GE282.out | refine z7 ?_ GE288.out | refine z7 ?_ GE294.out) | exact HB.out)) hb); clear Ha_; clear Hb_; clear Hc_; clear BK282; clear BK288; clear BK294; clear HB; have Ha_ := n0_; have Hb_ := n1_; have Hc_ := n2_; have HO307 := n3_; have BK282 := n4_; have BK288 := n5_; have BK294 := n6_; have HB := n7_; clear n0_ n1_ n2_ n3_ n4_ n5_ n6_ n7_; (try clear hb); (try clear ho0)) | ((with_reducible refine gate_dst (N := 6) rfl ?_); refine box_event ?hg (N := 6) ?hd (cs := #[.int .i64 0, .int .i64 0, .slice none 0 0]) (t := 25) ?hr ?_; (case hd => rfl); (case hg => rfl); (case hr => first | (go_simp; done) | (go_simp; rfl)); intro gb308 hg w78 hbox hb; have n0_ := z0 (x4 (by (with_reducible repeat (first | apply z9 | apply y1)); exact Ha_.out) hb); have n1_ := z0 (x4 (by (with_reducible repeat (first | apply z9 | apply y1)); exact Hb_.out) hb); have n2_ := z0 (x4 (by (with_reducible repeat (first | apply z9 | apply y1)); exact Hc_.out) hb); have n3_ := z0 (x4 (by (with_reducible repeat (first | apply z9 | apply y1)); exact HO307.out) hb); have n4_ := z0 (y5 (g := gb282) (o := .cells #[.int .i64 t277, .int .i64 t278, .slice Ao10 t279.length co10] 25 (0, 0)) (by (with_reducible repeat (first | refine z1 ?_ _ | refine z3 ?_)); exact BK282.out) hb); have n5_ := z0 (y5 (g := gb288) (o := .cells #[.int .i64 t283, .int .i64 t284, .slice Ao15 t285.length co15] 25 (0, 0)) (by (with_reducible repeat (first | refine z1 ?_ _ | refine z3 ?_)); exact BK288.out) hb); have n6_ := z0 (y5 (g := gb294) (o := .cells #[.int .i64 t289, .int .i64 t290, .slice Ao22 t291.length co22] 25 (0, 0)) (by (with_reducible repeat (first | refine z1 ?_ _ | refine z3 ?_)); exact BK294.out) hb); have n7_ := z0 (y6 (by repeat (first | (with_reducible first | exact HB.out | apply z5 | apply z6 | refine z7 ?_ GE282.out | refine z7 ?_ GE288.out | refine z7 ?_ GE294.out) | exact HB.out)) hb); have n8_ := z0 (hbox); have n9_ := z0 ((by rw [hg]; exact (y7 (by repeat (first | (with_reducible first | exact HB.out | apply z5 | apply z6 | refine z7 ?_ GE282.out | refine z7 ?_ GE288.out | refine z7 ?_ GE294.out) | exact HB.out))) : w.heap.size ≤ gb308)); have n10_ := z0 ((by rw [hg]; exact (y7 (by repeat (first | (with_reducible first | exact HB.out | apply z5 | apply z6 | refine z7 ?_ GE282.out | refine z7 ?_ GE288.out | refine z7 ?_ GE294.out) | exact HB.out))) : w.heap.size ≤ gb308)); have n11_ := z0 ((by rw [hg]; exact Nat.ne_of_lt (blk_lt (g := gb282) (o := .cells #[.int .i64 t277, .int .i64 t278, .slice Ao10 t279.length co10] 25 (0, 0)) (by (with_reducible repeat (first | refine z1 ?_ _ | refine z3 ?_)); exact BK282.out)) : gb282 ≠ gb308)); have n12_ := z0 ((by rw [hg]; exact Nat.ne_of_gt (blk_lt (g := gb282) (o := .cells #[.int .i64 t277, .int .i64 t278, .slice Ao10 t279.length co10] 25 (0, 0)) (by (with_reducible repeat (first | refine z1 ?_ _ | refine z3 ?_)); exact BK282.out)) : gb308 ≠ gb282)); have n13_ := z0 ((by rw [hg]; exact Nat.ne_of_lt (blk_lt (g := gb288) (o := .cells #[.int .i64 t283, .int .i64 t284, .slice Ao15 t285.length co15] 25 (0, 0)) (by (with_reducible repeat (first | refine z1 ?_ _ | refine z3 ?_)); exact BK288.out)) : gb288 ≠ gb308)); have n14_ := z0 ((by rw [hg]; exact Nat.ne_of_gt (blk_lt (g := gb288) (o := .cells #[.int .i64 t283, .int .i64 t284, .slice Ao15 t285.length co15] 25 (0, 0)) (by (with_reducible repeat (first | refine z1 ?_ _ | refine z3 ?_)); exact BK288.out)) : gb308 ≠ gb288)); have n15_ := z0 ((by rw [hg]; exact Nat.ne_of_lt (blk_lt (g := gb294) (o := .cells #[.int .i64 t289, .int .i64 t290, .slice Ao22 t291.length co22] 25 (0, 0)) (by (with_reducible repeat (first | refine z1 ?_ _ | refine z3 ?_)); exact BK294.out)) : gb294 ≠ gb308)); have n16_ := z0 ((by rw [hg]; exact Nat.ne_of_gt (blk_lt (g := gb294) (o := .cells #[.int .i64 t289, .int .i64 t290, .slice Ao22 t291.length co22] 25 (0, 0)) (by (with_reducible repeat (first | refine z1 ?_ _ | refine z3 ?_)); exact BK294.out)) : gb308 ≠ gb294)); clear Ha_; clear Hb_; clear Hc_; clear HO307; clear BK282; clear BK288; clear BK294; clear HB; have Ha_ := n0_; have Hb_ := n1_; have Hc_ := n2_; have HO307 := n3_; have BK282 := n4_; have BK288 := n5_; have BK294 := n6_; have HB := n7_; have BK308 := n8_; have GW308 := n9_; have GE308 := n10_; have NB282_308 := n11_; have NB308_282 := n12_; have NB288_308 := n13_; have NB308_288 := n14_; have NB294_308 := n15_; have NB308_294 := n16_; clear n0_ n1_ n2_ n3_ n4_ n5_ n6_ n7_ n8_ n9_ n10_ n11_ n12_ n13_ n14_ n15_ n16_; clear hb hbox hg; have hnb79 := NB308_282.out; have hnc79 := NB282_308.out; have hnb80 := NB308_288.out; have hnc80 := NB288_308.out; have hnb81 := NB308_294.out; have hnc81 := NB294_308.out; have hcz82_0 : w78.cell? ⟨gb308, 0, none⟩ = some (.int .i64 0) := (x3 BK308.out 0).trans rfl; have hcz82_1 : w78.cell? ⟨gb308, 1, none⟩ = some (.int .i64 0) := (x3 BK308.out 1).trans rfl; have hcz82_2 : w78.cell? ⟨gb308, 2, none⟩ = some (.slice none 0 0) := (x3 BK308.out 2).trans rfl; have hfz82_0 := x2 BK308.out 0; have hfz82_1 := x2 BK308.out 1; have hfz82_2 := x2 BK308.out 2; obtain ⟨Ao83, co83, eo83⟩ := Kd.R_slice HO307.out; subst eo83; have hcz84_0 : w78.cell? ⟨gb282, 0, none⟩ = some (.int .i64 t277) := (x3 BK282.out 0).trans rfl; have hcz84_1 : w78.cell? ⟨gb282, 1, none⟩ = some (.int .i64 t278) := (x3 BK282.out 1).trans rfl; have hcz84_2 : w78.cell? ⟨gb282, 2, none⟩ = some (.slice Ao10 t279.length co10) := (x3 BK282.out 2).trans rfl; have hfz84_0 := x2 BK282.out 0; have hfz84_1 := x2 BK282.out 1; have hfz84_2 := x2 BK282.out 2) | ((with_reducible refine gate_callee (f := 48) rfl ?_); refine goesL_ (some 37) rfl rfl Try.func48 (by kernel_rfl) rfl #[.agg #[.int .i64 t277, .int .i64 t278, .slice Ao10 t279.length co10]] rfl (by (try simp only [List.map_toArray, List.map_cons, List.map_nil]); first | done | rfl) ?_; (with_reducible refine (impl_GainOf.calls kj5 t277 t278 _ _ t279 t309 _ ?side1 ?side2 A45.out).mono ?_); (case side1 => refine (x5 (e := 3) (base := w.heap.size) (ok := fun k_ => ((some k_ ≠ (.slice Ao15 t285.length co15 : Value).ownBlock ∧ some k_ ≠ (.slice Ao22 t291.length co22 : Value).ownBlock) ∧ some k_ ≠ (.slice Ao83 t305.length co83 : Value).ownBlock)) (n := t279.length) (c := co10) ?_).2.2; exact (by (with_reducible repeat (first | apply z9 | apply y1)); exact (x6 (x1 (p := ⟨gb308, 2, none⟩) (x1 (p := ⟨gb308, 1, none⟩) (x1 (p := ⟨gb308, 0, none⟩) (x7 Ha_.out BK308.out (by decide)) (fun _ hk => hk.2) (.int .i64 t303)) (fun _ hk => hk.2) (.int .i64 t304)) (fun _ hk => hk.2) (.slice Ao83 t305.length co83)) (fun _ h_ => h_.1)))); (case side2 => exact (x5 Ha_.out).2.1); rintro e w85 ⟨rfl, hb⟩; refine ⟨_, rfl, ?_⟩; have n0_ := z0 (x4 (by (with_reducible repeat (first | apply z9 | apply y1)); exact (x6 (x1 (p := ⟨gb308, 2, none⟩) (x1 (p := ⟨gb308, 1, none⟩) (x1 (p := ⟨gb308, 0, none⟩) (x7 Ha_.out BK308.out (by decide)) (fun _ hk => hk.2) (.int .i64 t303)) (fun _ hk => hk.2) (.int .i64 t304)) (fun _ hk => hk.2) (.slice Ao83 t305.length co83)) (fun _ h_ => h_.1))) hb); have n1_ := z0 (x4 (by (with_reducible repeat (first | apply z9 | apply y1)); exact (x6 (x1 (p := ⟨gb308, 2, none⟩) (x1 (p := ⟨gb308, 1, none⟩) (x1 (p := ⟨gb308, 0, none⟩) (x7 Hb_.out BK308.out (by decide)) (fun _ hk => hk.2) (.int .i64 t303)) (fun _ hk => hk.2) (.int .i64 t304)) (fun _ hk => hk.2) (.slice Ao83 t305.length co83)) (fun _ h_ => h_.1))) hb); have n2_ := z0 (x4 (by (with_reducible repeat (first | apply z9 | apply y1)); exact (x6 (x1 (p := ⟨gb308, 2, none⟩) (x1 (p := ⟨gb308, 1, none⟩) (x1 (p := ⟨gb308, 0, none⟩) (x7 Hc_.out BK308.out (by decide)) (fun _ hk => hk.2) (.int .i64 t303)) (fun _ hk => hk.2) (.int .i64 t304)) (fun _ hk => hk.2) (.slice Ao83 t305.length co83)) (fun _ h_ => h_.1))) hb); have n3_ := z0 (x4 (by (with_reducible repeat (first | apply z9 | apply y1)); exact (x6 (x1 (p := ⟨gb308, 2, none⟩) (x1 (p := ⟨gb308, 1, none⟩) (x1 (p := ⟨gb308, 0, none⟩) (x7 HO307.out BK308.out (by decide)) (fun _ hk => hk.2) (.int .i64 t303)) (fun _ hk => hk.2) (.int .i64 t304)) (fun _ hk => hk.2) (.slice Ao83 t305.length co83)) (fun _ h_ => h_.1))) hb); have n4_ := z0 (y5 (g := gb282) (o := .cells #[.int .i64 t277, .int .i64 t278, .slice Ao10 t279.length co10] 25 (0, 0)) (by (with_reducible repeat (first | refine z1 ?_ _ | refine z3 ?_)); refine x8 ?_ NB282_308.out _; (with_reducible repeat (first | refine z1 ?_ _ | refine z3 ?_)); refine x8 ?_ NB282_308.out _; (with_reducible repeat (first | refine z1 ?_ _ | refine z3 ?_)); refine x8 ?_ NB282_308.out _; (with_reducible repeat (first | refine z1 ?_ _ | refine z3 ?_)); exact BK282.out) hb); have n5_ := z0 (y5 (g := gb288) (o := .cells #[.int .i64 t283, .int .i64 t284, .slice Ao15 t285.length co15] 25 (0, 0)) (by (with_reducible repeat (first | refine z1 ?_ _ | refine z3 ?_)); refine x8 ?_ NB288_308.out _; (with_reducible repeat (first | refine z1 ?_ _ | refine z3 ?_)); refine x8 ?_ NB288_308.out _; (with_reducible repeat (first | refine z1 ?_ _ | refine z3 ?_)); refine x8 ?_ NB288_308.out _; (with_reducible repeat (first | refine z1 ?_ _ | refine z3 ?_)); exact BK288.out) hb); have n6_ := z0 (y5 (g := gb294) (o := .cells #[.int .i64 t289, .int .i64 t290, .slice Ao22 t291.length co22] 25 (0, 0)) (by (with_reducible repeat (first | refine z1 ?_ _ | refine z3 ?_)); refine x8 ?_ NB294_308.out _; (with_reducible repeat (first | refine z1 ?_ _ | refine z3 ?_)); refine x8 ?_ NB294_308.out _; (with_reducible repeat (first | refine z1 ?_ _ | refine z3 ?_)); refine x8 ?_ NB294_308.out _; (with_reducible repeat (first | refine z1 ?_ _ | refine z3 ?_)); exact BK294.out) hb); have n7_ := z0 (y5 (g := gb308) (o := .cells #[.int .i64 t303, .int .i64 t304, .slice Ao83 t305.length co83] 25 (0, 0)) (by (with_reducible repeat (first | refine z1 ?_ _ | refine z3 ?_)); refine blk_put (cs := #[.int .i64 t303, .int .i64 t304, .slice none 0 0]) ?_ 2 _ rfl; (with_reducible repeat (first | refine z1 ?_ _ | refine z3 ?_)); refine blk_put (cs := #[.int .i64 t303, .int .i64 0, .slice none 0 0]) ?_ 1 _ rfl; (with_reducible repeat (first | refine z1 ?_ _ | refine z3 ?_)); refine blk_put (cs := #[.int .i64 0, .int .i64 0, .slice none 0 0]) ?_ 0 _ rfl; (with_reducible repeat (first | refine z1 ?_ _ | refine z3 ?_)); exact BK308.out) hb); have n8_ := z0 (y6 (by repeat (first | (with_reducible first | exact HB.out | apply z5 | apply z6 | refine z7 ?_ GE282.out | refine z7 ?_ GE288.out | refine z7 ?_ GE294.out | refine z7 ?_ GE308.out) | exact HB.out)) hb); clear Ha_; clear Hb_; clear Hc_; clear HO307; clear BK282; clear BK288; clear BK294; clear BK308; clear HB; have Ha_ := n0_; have Hb_ := n1_; have Hc_ := n2_; have HO307 := n3_; have BK282 := n4_; have BK288 := n5_; have BK294 := n6_; have BK308 := n7_; have HB := n8_; clear n0_ n1_ n2_ n3_ n4_ n5_ n6_ n7_ n8_; (try clear hb)))
        have n0_ := z0 (y1 Ha_.out)
        have n1_ := z0 (y1 Hb_.out)
        have n2_ := z0 (y1 Hc_.out)
        have n3_ := z0 (y1 HO307.out)
        have n4_ := z0 (z3 BK282.out)
        have n5_ := z0 (z3 BK288.out)
        have n6_ := z0 (z3 BK294.out)
        have n7_ := z0 (z3 BK308.out)
        have n8_ := z0 (z6 HB.out)
        clear Ha_
        clear Hb_
        clear Hc_
        clear HO307
        clear BK282
        clear BK288
        clear BK294
        clear BK308
        clear HB
        have Ha_ := n0_
        have Hb_ := n1_
        have Hc_ := n2_
        have HO307 := n3_
        have BK282 := n4_
        have BK288 := n5_
        have BK294 := n6_
        have BK308 := n7_
        have HB := n8_
        clear n0_ n1_ n2_ n3_ n4_ n5_ n6_ n7_ n8_
        refine start_ (n := 28) (S := fun w' => w'.cell? ⟨gb294, 0, none⟩ = some (.int .i64 t289) ∧ w'.cell? ⟨gb294, 1, none⟩ = some (.int .i64 t290) ∧ w'.cell? ⟨gb294, 2, none⟩ = some (.slice Ao22 t291.length co22) ∧ w'.cell? ⟨gb308, 0, none⟩ = some (.int .i64 t303) ∧ w'.cell? ⟨gb308, 1, none⟩ = some (.int .i64 t304) ∧ w'.cell? ⟨gb308, 2, none⟩ = some (.slice Ao83 t305.length co83) ∧ w'.cell? ⟨gb288, 0, none⟩ = some (.int .i64 t283) ∧ w'.cell? ⟨gb288, 1, none⟩ = some (.int .i64 t284) ∧ w'.cell? ⟨gb288, 2, none⟩ = some (.slice Ao15 t285.length co15) ∧ w'.cell? ⟨gb282, 0, none⟩ = some (.int .i64 t277) ∧ w'.cell? ⟨gb282, 1, none⟩ = some (.int .i64 t278) ∧ w'.cell? ⟨gb282, 2, none⟩ = some (.slice Ao10 t279.length co10)) (ds := []) #[false, false, false, false, false, false, false, false, false, false, false, false, false, false, false, false, false, false, false, false, false, false, false, false, false, false, false, false] (by kernel_rfl) rfl rfl ⟨(x3 BK294.out 0).trans rfl, (x3 BK294.out 1).trans rfl, (x3 BK294.out 2).trans rfl, (x3 BK308.out 0).trans rfl, (x3 BK308.out 1).trans rfl, (x3 BK308.out 2).trans rfl, (x3 BK288.out 0).trans rfl, (x3 BK288.out 1).trans rfl, (x3 BK288.out 2).trans rfl, (x3 BK282.out 0).trans rfl, (x3 BK282.out 1).trans rfl, (x3 BK282.out 2).trans rfl⟩ (fun hHeld => ?_); refine with_tabW laws_FnGrown.tab10 laws_FnGrown.bits10 (fun HT_ HW_ => ?_)
        generalize w85.drew = w86 at Ha_ Hb_ Hc_ HO307 BK282 BK288 BK294 BK308 HB hHeld ⊢
        refine take_ (i := 0) (N := some 38) (v := ?_) (a' := ?_) #[true, false, false, false, false, false, false, false, false, false, false, false, false, false, false, false, false, false, false, false, false, false, false, false, false, false, false, false] rfl rfl (take_ofW HT_.out HW_.out (by kernel_rfl)) (fun _ _ _ h => h) (Or.inl ⟨by rfl, ?_⟩) hHeld ?_ ?_
        rotate_left
        ·rintro w' ⟨s0, s1, s2, s3, s4, s5, s6, s7, s8, s9, s10, s11⟩
         go_simp
         with_reducible rfl
        rotate_left
        ·simp only [Act.put, List.setIfInBounds_toArray, List.set_cons_zero, List.set_cons_succ, i64_w, i32_w]
         rfl
        refine take_ (i := 2) (N := some 40) (v := ?_) (a' := ?_) #[true, false, true, false, false, false, false, false, false, false, false, false, false, false, false, false, false, false, false, false, false, false, false, false, false, false, false, false] rfl rfl (take_ofW HT_.out HW_.out (by kernel_rfl)) (fun _ _ _ h => h) (Or.inl ⟨by rfl, ?_⟩) hHeld ?_ ?_
        rotate_left
        ·rintro w' ⟨s0, s1, s2, s3, s4, s5, s6, s7, s8, s9, s10, s11⟩
         go_simp
         with_reducible rfl
        rotate_left
        ·simp only [Act.put, List.setIfInBounds_toArray, List.set_cons_zero, List.set_cons_succ, i64_w, i32_w]
         rfl
        refine one_ (i := 1) (N := some 39) #[true, true, true, false, false, false, false, false, false, false, false, false, false, false, false, false, false, false, false, false, false, false, false, false, false, false, false, false] rfl rfl (one_of HT_.out (by kernel_rfl)) (by decide) (fun K hK => ?_)
        refine goes_ Try.func47 (by kernel_rfl) rfl #[.agg #[.int .i64 t289, .int .i64 t290, .slice Ao22 t291.length co22]] (by rfl) rfl rfl (by (try simp only [List.map_toArray, List.map_cons, List.map_nil]); first | done | rfl) ?_
        with_reducible refine (spec_NegativePicture.calls kj5 t289 t290 _ _ t291 t310 t311 t312 _ ?side1 ?side2 A46.out).mono ?_
        (case side1 => repeat (first | exact (x5 Hc_.out).2.2 | (with_reducible refine y3 ?_ _) | (with_reducible refine y4 ?_)))
        (case side2 => exact (x5 Hc_.out).2.1)
        rintro e w87 ⟨v313, rfl, ho0, hb⟩
        refine ⟨_, rfl, ?_⟩
        have n0_ := z0 (y8 (by (with_reducible repeat (first | apply z9 | apply y1)); exact Ha_.out) (w2_ ho0) hb)
        have n1_ := z0 (y8 (by (with_reducible repeat (first | apply z9 | apply y1)); exact Hb_.out) (w2_ ho0) hb)
        have n2_ := z0 (y8 (by (with_reducible repeat (first | apply z9 | apply y1)); exact Hc_.out) (w2_ ho0) hb)
        have n3_ := z0 (y8 (by (with_reducible repeat (first | apply z9 | apply y1)); exact HO307.out) (w2_ ho0) hb)
        have n4_ := z0 (Kd.R_lower (Kd.R_new' (Kd.R_new' (Kd.R_new' (Kd.R_new' ho0 (Kd.R_lt (by (with_reducible repeat (first | apply z9 | apply y1)); exact Ha_.out))) (Kd.R_lt (by (with_reducible repeat (first | apply z9 | apply y1)); exact Hb_.out))) (Kd.R_lt (by (with_reducible repeat (first | apply z9 | apply y1)); exact Hc_.out))) (Kd.R_lt (by (with_reducible repeat (first | apply z9 | apply y1)); exact HO307.out))) (y7 (by repeat (first | (with_reducible first | exact HB.out | apply z5 | apply z6 | refine z7 ?_ GE282.out | refine z7 ?_ GE288.out | refine z7 ?_ GE294.out | refine z7 ?_ GE308.out) | exact HB.out))))
        have n5_ := z0 (y5 (g := gb282) (o := .cells #[.int .i64 t277, .int .i64 t278, .slice Ao10 t279.length co10] 25 (0, 0)) (by (with_reducible repeat (first | refine z1 ?_ _ | refine z3 ?_)); exact BK282.out) hb)
        have n6_ := z0 (y5 (g := gb288) (o := .cells #[.int .i64 t283, .int .i64 t284, .slice Ao15 t285.length co15] 25 (0, 0)) (by (with_reducible repeat (first | refine z1 ?_ _ | refine z3 ?_)); exact BK288.out) hb)
        have n7_ := z0 (y5 (g := gb294) (o := .cells #[.int .i64 t289, .int .i64 t290, .slice Ao22 t291.length co22] 25 (0, 0)) (by (with_reducible repeat (first | refine z1 ?_ _ | refine z3 ?_)); exact BK294.out) hb)
        have n8_ := z0 (y5 (g := gb308) (o := .cells #[.int .i64 t303, .int .i64 t304, .slice Ao83 t305.length co83] 25 (0, 0)) (by (with_reducible repeat (first | refine z1 ?_ _ | refine z3 ?_)); exact BK308.out) hb)
        have n9_ := z0 (y6 (by repeat (first | (with_reducible first | exact HB.out | apply z5 | apply z6 | refine z7 ?_ GE282.out | refine z7 ?_ GE288.out | refine z7 ?_ GE294.out | refine z7 ?_ GE308.out) | exact HB.out)) hb)
        clear Ha_
        clear Hb_
        clear Hc_
        clear HO307
        clear BK282
        clear BK288
        clear BK294
        clear BK308
        clear HB
        have Ha_ := n0_
        have Hb_ := n1_
        have Hc_ := n2_
        have HO307 := n3_
        have HO314 := n4_
        have BK282 := n5_
        have BK288 := n6_
        have BK294 := n7_
        have BK308 := n8_
        have HB := n9_
        clear n0_ n1_ n2_ n3_ n4_ n5_ n6_ n7_ n8_ n9_
        (try clear hb)
        (try clear hb2)
        (try clear hk)
        (try clear hi)
        (try clear ho0)
        refine hK.out _ _ ⟨(x3 BK294.out 0).trans rfl, (x3 BK294.out 1).trans rfl, (x3 BK294.out 2).trans rfl, (x3 BK308.out 0).trans rfl, (x3 BK308.out 1).trans rfl, (x3 BK308.out 2).trans rfl, (x3 BK288.out 0).trans rfl, (x3 BK288.out 1).trans rfl, (x3 BK288.out 2).trans rfl, (x3 BK282.out 0).trans rfl, (x3 BK282.out 1).trans rfl, (x3 BK282.out 2).trans rfl⟩ (fun hHeld => ?_)
        clear hK K
        refine norm_ (a' := ?_) ?_ ?_
        rotate_left
        ·show Act.put _ (some 39) _ = _
         simp only [Act.put, List.setIfInBounds_toArray, List.set_cons_zero, List.set_cons_succ, i64_w, i32_w]
         rfl
        refine one_ (i := 3) (N := some 41) #[true, true, true, true, false, false, false, false, false, false, false, false, false, false, false, false, false, false, false, false, false, false, false, false, false, false, false, false] rfl rfl (one_of HT_.out (by kernel_rfl)) (by decide) (fun K hK => ?_)
        refine goes_ Try.func44 (by kernel_rfl) rfl #[.agg #[.int .i64 t303, .int .i64 t304, .slice Ao83 t305.length co83]] (by rfl) rfl rfl (by (try simp only [List.map_toArray, List.map_cons, List.map_nil]); first | done | rfl) ?_
        with_reducible refine (impl_GrowPlate.calls t303 t304 _ _ t305 t315 t316 t317 _ ?side1 ?side2 A47.out).mono ?_
        (case side1 => repeat (first | exact (x5 HO307.out).2.2 | (with_reducible refine y3 ?_ _) | (with_reducible refine y4 ?_)))
        (case side2 => exact (x5 HO307.out).2.1)
        rintro e w88 ⟨v318, rfl, ho0, hb⟩
        refine ⟨_, rfl, ?_⟩
        have n0_ := z0 (y8 (by (with_reducible repeat (first | apply z9 | apply y1)); exact Ha_.out) (w2_ ho0) hb)
        have n1_ := z0 (y8 (by (with_reducible repeat (first | apply z9 | apply y1)); exact Hb_.out) (w2_ ho0) hb)
        have n2_ := z0 (y8 (by (with_reducible repeat (first | apply z9 | apply y1)); exact Hc_.out) (w2_ ho0) hb)
        have n3_ := z0 (y8 (by (with_reducible repeat (first | apply z9 | apply y1)); exact HO307.out) (w2_ ho0) hb)
        have n4_ := z0 (y8 (by (with_reducible repeat (first | apply z9 | apply y1)); exact HO314.out) (w2_ ho0) hb)
        have n5_ := z0 (Kd.R_lower (Kd.R_new' (Kd.R_new' (Kd.R_new' (Kd.R_new' (Kd.R_new' ho0 (Kd.R_lt (by (with_reducible repeat (first | apply z9 | apply y1)); exact Ha_.out))) (Kd.R_lt (by (with_reducible repeat (first | apply z9 | apply y1)); exact Hb_.out))) (Kd.R_lt (by (with_reducible repeat (first | apply z9 | apply y1)); exact Hc_.out))) (Kd.R_lt (by (with_reducible repeat (first | apply z9 | apply y1)); exact HO307.out))) (Kd.R_lt (by (with_reducible repeat (first | apply z9 | apply y1)); exact HO314.out))) (y7 (by repeat (first | (with_reducible first | exact HB.out | apply z5 | apply z6 | refine z7 ?_ GE282.out | refine z7 ?_ GE288.out | refine z7 ?_ GE294.out | refine z7 ?_ GE308.out) | exact HB.out))))
        have n6_ := z0 (y5 (g := gb282) (o := .cells #[.int .i64 t277, .int .i64 t278, .slice Ao10 t279.length co10] 25 (0, 0)) (by (with_reducible repeat (first | refine z1 ?_ _ | refine z3 ?_)); exact BK282.out) hb)
        have n7_ := z0 (y5 (g := gb288) (o := .cells #[.int .i64 t283, .int .i64 t284, .slice Ao15 t285.length co15] 25 (0, 0)) (by (with_reducible repeat (first | refine z1 ?_ _ | refine z3 ?_)); exact BK288.out) hb)
        have n8_ := z0 (y5 (g := gb294) (o := .cells #[.int .i64 t289, .int .i64 t290, .slice Ao22 t291.length co22] 25 (0, 0)) (by (with_reducible repeat (first | refine z1 ?_ _ | refine z3 ?_)); exact BK294.out) hb)
        have n9_ := z0 (y5 (g := gb308) (o := .cells #[.int .i64 t303, .int .i64 t304, .slice Ao83 t305.length co83] 25 (0, 0)) (by (with_reducible repeat (first | refine z1 ?_ _ | refine z3 ?_)); exact BK308.out) hb)
        have n10_ := z0 (y6 (by repeat (first | (with_reducible first | exact HB.out | apply z5 | apply z6 | refine z7 ?_ GE282.out | refine z7 ?_ GE288.out | refine z7 ?_ GE294.out | refine z7 ?_ GE308.out) | exact HB.out)) hb)
        clear Ha_
        clear Hb_
        clear Hc_
        clear HO307
        clear HO314
        clear BK282
        clear BK288
        clear BK294
        clear BK308
        clear HB
        have Ha_ := n0_
        have Hb_ := n1_
        have Hc_ := n2_
        have HO307 := n3_
        have HO314 := n4_
        have HO319 := n5_
        have BK282 := n6_
        have BK288 := n7_
        have BK294 := n8_
        have BK308 := n9_
        have HB := n10_
        clear n0_ n1_ n2_ n3_ n4_ n5_ n6_ n7_ n8_ n9_ n10_
        (try clear hb)
        (try clear hb2)
        (try clear hk)
        (try clear hi)
        (try clear ho0)
        obtain ⟨Ao89, co89, eo89⟩ := Kd.R_slice HO314.out
        (first | subst eo89 | (injection eo89 with f1_ f2_ f3_; have f4_ := f1_.symm; have f5_ := f3_.symm; clear f1_ f2_ f3_; subst f4_; subst f5_))
        obtain ⟨Ao90, co90, eo90⟩ := Kd.R_slice HO319.out
        (first | subst eo90 | (injection eo90 with f1_ f2_ f3_; have f4_ := f1_.symm; have f5_ := f3_.symm; clear f1_ f2_ f3_; subst f4_; subst f5_))
        refine hK.out _ _ ⟨(x3 BK294.out 0).trans rfl, (x3 BK294.out 1).trans rfl, (x3 BK294.out 2).trans rfl, (x3 BK308.out 0).trans rfl, (x3 BK308.out 1).trans rfl, (x3 BK308.out 2).trans rfl, (x3 BK288.out 0).trans rfl, (x3 BK288.out 1).trans rfl, (x3 BK288.out 2).trans rfl, (x3 BK282.out 0).trans rfl, (x3 BK282.out 1).trans rfl, (x3 BK282.out 2).trans rfl⟩ (fun hHeld => ?_)
        clear hK K
        refine norm_ (a' := ?_) ?_ ?_
        rotate_left
        ·show Act.put _ (some 41) _ = _
         simp only [Act.put, List.setIfInBounds_toArray, List.set_cons_zero, List.set_cons_succ, i64_w, i32_w]
         rfl
        refine one_ (i := 4) (N := some 42) #[true, true, true, true, true, false, false, false, false, false, false, false, false, false, false, false, false, false, false, false, false, false, false, false, false, false, false, false] rfl rfl (one_of HT_.out (by kernel_rfl)) (by decide) (fun K hK => ?_)
        refine goes_ Try.func24 (by kernel_rfl) rfl #[.agg #[.int .i64 t310, .int .i64 t311, .slice Ao89 t312.length co89], .agg #[.int .i64 t315, .int .i64 t316, .slice Ao90 t317.length co90]] (by rfl) rfl rfl (by (try simp only [List.map_toArray, List.map_cons, List.map_nil]); first | done | rfl) ?_
        with_reducible refine (laws_same.calls kj5 t310 t311 _ _ t312 t315 t316 _ _ t317 true _ ?side1 ?side2 ?side3 ?side4 A48.out).mono ?_
        (case side1 => repeat (first | exact (x5 HO314.out).2.2 | (with_reducible refine y3 ?_ _) | (with_reducible refine y4 ?_)))
        (case side2 => exact (x5 HO314.out).2.1)
        (case side3 => repeat (first | exact (x5 HO319.out).2.2 | (with_reducible refine y3 ?_ _) | (with_reducible refine y4 ?_)))
        (case side4 => exact (x5 HO319.out).2.1)
        rintro e w91 ⟨rfl, hb⟩
        refine ⟨_, rfl, ?_⟩
        have n0_ := z0 (x4 (by (with_reducible repeat (first | apply z9 | apply y1)); exact Ha_.out) hb)
        have n1_ := z0 (x4 (by (with_reducible repeat (first | apply z9 | apply y1)); exact Hb_.out) hb)
        have n2_ := z0 (x4 (by (with_reducible repeat (first | apply z9 | apply y1)); exact Hc_.out) hb)
        have n3_ := z0 (x4 (by (with_reducible repeat (first | apply z9 | apply y1)); exact HO307.out) hb)
        have n4_ := z0 (x4 (by (with_reducible repeat (first | apply z9 | apply y1)); exact HO314.out) hb)
        have n5_ := z0 (x4 (by (with_reducible repeat (first | apply z9 | apply y1)); exact HO319.out) hb)
        have n6_ := z0 (y5 (g := gb282) (o := .cells #[.int .i64 t277, .int .i64 t278, .slice Ao10 t279.length co10] 25 (0, 0)) (by (with_reducible repeat (first | refine z1 ?_ _ | refine z3 ?_)); exact BK282.out) hb)
        have n7_ := z0 (y5 (g := gb288) (o := .cells #[.int .i64 t283, .int .i64 t284, .slice Ao15 t285.length co15] 25 (0, 0)) (by (with_reducible repeat (first | refine z1 ?_ _ | refine z3 ?_)); exact BK288.out) hb)
        have n8_ := z0 (y5 (g := gb294) (o := .cells #[.int .i64 t289, .int .i64 t290, .slice Ao22 t291.length co22] 25 (0, 0)) (by (with_reducible repeat (first | refine z1 ?_ _ | refine z3 ?_)); exact BK294.out) hb)
        have n9_ := z0 (y5 (g := gb308) (o := .cells #[.int .i64 t303, .int .i64 t304, .slice Ao83 t305.length co83] 25 (0, 0)) (by (with_reducible repeat (first | refine z1 ?_ _ | refine z3 ?_)); exact BK308.out) hb)
        have n10_ := z0 (y6 (by repeat (first | (with_reducible first | exact HB.out | apply z5 | apply z6 | refine z7 ?_ GE282.out | refine z7 ?_ GE288.out | refine z7 ?_ GE294.out | refine z7 ?_ GE308.out) | exact HB.out)) hb)
        clear Ha_
        clear Hb_
        clear Hc_
        clear HO307
        clear HO314
        clear HO319
        clear BK282
        clear BK288
        clear BK294
        clear BK308
        clear HB
        have Ha_ := n0_
        have Hb_ := n1_
        have Hc_ := n2_
        have HO307 := n3_
        have HO314 := n4_
        have HO319 := n5_
        have BK282 := n6_
        have BK288 := n7_
        have BK294 := n8_
        have BK308 := n9_
        have HB := n10_
        clear n0_ n1_ n2_ n3_ n4_ n5_ n6_ n7_ n8_ n9_ n10_
        (try clear hb)
        (try clear hb2)
        (try clear hk)
        (try clear hi)
        refine hK.out _ _ ⟨(x3 BK294.out 0).trans rfl, (x3 BK294.out 1).trans rfl, (x3 BK294.out 2).trans rfl, (x3 BK308.out 0).trans rfl, (x3 BK308.out 1).trans rfl, (x3 BK308.out 2).trans rfl, (x3 BK288.out 0).trans rfl, (x3 BK288.out 1).trans rfl, (x3 BK288.out 2).trans rfl, (x3 BK282.out 0).trans rfl, (x3 BK282.out 1).trans rfl, (x3 BK282.out 2).trans rfl⟩ (fun hHeld => ?_)
        clear hK K
        refine norm_ (a' := ?_) ?_ ?_
        rotate_left
        ·show Act.put _ (some 42) _ = _
         simp only [Act.put, List.setIfInBounds_toArray, List.set_cons_zero, List.set_cons_succ, i64_w, i32_w]
         rfl
        refine pure_ (i := 5) (N := some 43) (v := ?_) (a' := ?_) #[true, true, true, true, true, true, false, false, false, false, false, false, false, false, false, false, false, false, false, false, false, false, false, false, false, false, false, false] rfl rfl (any_of HT_.out (by kernel_rfl)) (fun _ _ _ h => h) (Or.inl ⟨by rfl, ?_⟩) ?_ ?_
        rotate_left
        ·intro w'
         go_simp
         with_reducible rfl
        rotate_left
        ·simp only [Act.put, List.setIfInBounds_toArray, List.set_cons_zero, List.set_cons_succ, i64_w, i32_w]
         rfl
        refine pure_ (i := 6) (N := some 44) (v := ?_) (a' := ?_) #[true, true, true, true, true, true, true, false, false, false, false, false, false, false, false, false, false, false, false, false, false, false, false, false, false, false, false, false] rfl rfl (any_of HT_.out (by kernel_rfl)) (fun _ _ _ h => h) (Or.inl ⟨by rfl, ?_⟩) ?_ ?_
        rotate_left
        ·intro w'
         go_simp
         with_reducible rfl
        rotate_left
        ·simp only [Act.put, List.setIfInBounds_toArray, List.set_cons_zero, List.set_cons_succ, i64_w, i32_w]
         rfl
        refine pure_ (i := 9) (N := some 47) (v := ?_) (a' := ?_) #[true, true, true, true, true, true, true, false, false, true, false, false, false, false, false, false, false, false, false, false, false, false, false, false, false, false, false, false] rfl rfl (any_of HT_.out (by kernel_rfl)) (fun _ _ _ h => h) (Or.inl ⟨by rfl, ?_⟩) ?_ ?_
        rotate_left
        ·intro w'
         go_simp
         with_reducible rfl
        rotate_left
        ·simp only [Act.put, List.setIfInBounds_toArray, List.set_cons_zero, List.set_cons_succ, i64_w, i32_w]
         rfl
        refine take_ (i := 7) (N := some 45) (v := ?_) (a' := ?_) #[true, true, true, true, true, true, true, true, false, true, false, false, false, false, false, false, false, false, false, false, false, false, false, false, false, false, false, false] rfl rfl (take_ofW HT_.out HW_.out (by kernel_rfl)) (fun _ _ _ h => h) (Or.inl ⟨by rfl, ?_⟩) hHeld ?_ ?_
        rotate_left
        ·rintro w' ⟨s0, s1, s2, s3, s4, s5, s6, s7, s8, s9, s10, s11⟩
         go_simp
         with_reducible rfl
        rotate_left
        ·simp only [Act.put, List.setIfInBounds_toArray, List.set_cons_zero, List.set_cons_succ, i64_w, i32_w]
         rfl
        refine take_ (i := 10) (N := some 48) (v := ?_) (a' := ?_) #[true, true, true, true, true, true, true, true, false, true, true, false, false, false, false, false, false, false, false, false, false, false, false, false, false, false, false, false] rfl rfl (take_ofW HT_.out HW_.out (by kernel_rfl)) (fun _ _ _ h => h) (Or.inl ⟨by rfl, ?_⟩) hHeld ?_ ?_
        rotate_left
        ·rintro w' ⟨s0, s1, s2, s3, s4, s5, s6, s7, s8, s9, s10, s11⟩
         go_simp
         with_reducible rfl
        rotate_left
        ·simp only [Act.put, List.setIfInBounds_toArray, List.set_cons_zero, List.set_cons_succ, i64_w, i32_w]
         rfl
        refine one_ (i := 8) (N := some 46) #[true, true, true, true, true, true, true, true, true, true, true, false, false, false, false, false, false, false, false, false, false, false, false, false, false, false, false, false] rfl rfl (one_of HT_.out (by kernel_rfl)) (by decide) (fun K hK => ?_)
        refine goes_ Try.func49 (by kernel_rfl) rfl #[.agg #[.int .i64 t283, .int .i64 t284, .slice Ao15 t285.length co15]] (by rfl) rfl rfl (by (try simp only [List.map_toArray, List.map_cons, List.map_nil]); first | done | rfl) ?_
        with_reducible refine (impl_SumInk.calls kj5 t283 t284 _ _ t285 t321 _ ?side1 ?side2 A50.out).mono ?_
        (case side1 => repeat (first | exact (x5 Hb_.out).2.2 | (with_reducible refine y3 ?_ _) | (with_reducible refine y4 ?_)))
        (case side2 => exact (x5 Hb_.out).2.1)
        rintro e w92 ⟨rfl, hb⟩
        refine ⟨_, rfl, ?_⟩
        have n0_ := z0 (x4 (by (with_reducible repeat (first | apply z9 | apply y1)); exact Ha_.out) hb)
        have n1_ := z0 (x4 (by (with_reducible repeat (first | apply z9 | apply y1)); exact Hb_.out) hb)
        have n2_ := z0 (x4 (by (with_reducible repeat (first | apply z9 | apply y1)); exact Hc_.out) hb)
        have n3_ := z0 (x4 (by (with_reducible repeat (first | apply z9 | apply y1)); exact HO307.out) hb)
        have n4_ := z0 (x4 (by (with_reducible repeat (first | apply z9 | apply y1)); exact HO314.out) hb)
        have n5_ := z0 (x4 (by (with_reducible repeat (first | apply z9 | apply y1)); exact HO319.out) hb)
        have n6_ := z0 (y5 (g := gb282) (o := .cells #[.int .i64 t277, .int .i64 t278, .slice Ao10 t279.length co10] 25 (0, 0)) (by (with_reducible repeat (first | refine z1 ?_ _ | refine z3 ?_)); exact BK282.out) hb)
        have n7_ := z0 (y5 (g := gb288) (o := .cells #[.int .i64 t283, .int .i64 t284, .slice Ao15 t285.length co15] 25 (0, 0)) (by (with_reducible repeat (first | refine z1 ?_ _ | refine z3 ?_)); exact BK288.out) hb)
        have n8_ := z0 (y5 (g := gb294) (o := .cells #[.int .i64 t289, .int .i64 t290, .slice Ao22 t291.length co22] 25 (0, 0)) (by (with_reducible repeat (first | refine z1 ?_ _ | refine z3 ?_)); exact BK294.out) hb)
        have n9_ := z0 (y5 (g := gb308) (o := .cells #[.int .i64 t303, .int .i64 t304, .slice Ao83 t305.length co83] 25 (0, 0)) (by (with_reducible repeat (first | refine z1 ?_ _ | refine z3 ?_)); exact BK308.out) hb)
        have n10_ := z0 (y6 (by repeat (first | (with_reducible first | exact HB.out | apply z5 | apply z6 | refine z7 ?_ GE282.out | refine z7 ?_ GE288.out | refine z7 ?_ GE294.out | refine z7 ?_ GE308.out) | exact HB.out)) hb)
        clear Ha_
        clear Hb_
        clear Hc_
        clear HO307
        clear HO314
        clear HO319
        clear BK282
        clear BK288
        clear BK294
        clear BK308
        clear HB
        have Ha_ := n0_
        have Hb_ := n1_
        have Hc_ := n2_
        have HO307 := n3_
        have HO314 := n4_
        have HO319 := n5_
        have BK282 := n6_
        have BK288 := n7_
        have BK294 := n8_
        have BK308 := n9_
        have HB := n10_
        clear n0_ n1_ n2_ n3_ n4_ n5_ n6_ n7_ n8_ n9_ n10_
        (try clear hb)
        (try clear hb2)
        (try clear hk)
        (try clear hi)
        refine hK.out _ _ ⟨(x3 BK294.out 0).trans rfl, (x3 BK294.out 1).trans rfl, (x3 BK294.out 2).trans rfl, (x3 BK308.out 0).trans rfl, (x3 BK308.out 1).trans rfl, (x3 BK308.out 2).trans rfl, (x3 BK288.out 0).trans rfl, (x3 BK288.out 1).trans rfl, (x3 BK288.out 2).trans rfl, (x3 BK282.out 0).trans rfl, (x3 BK282.out 1).trans rfl, (x3 BK282.out 2).trans rfl⟩ (fun hHeld => ?_)
        clear hK K
        refine norm_ (a' := ?_) ?_ ?_
        rotate_left
        ·show Act.put _ (some 46) _ = _
         simp only [Act.put, List.setIfInBounds_toArray, List.set_cons_zero, List.set_cons_succ, i64_w, i32_w]
         rfl
        refine one_ (i := 11) (N := some 49) #[true, true, true, true, true, true, true, true, true, true, true, true, false, false, false, false, false, false, false, false, false, false, false, false, false, false, false, false] rfl rfl (one_of HT_.out (by kernel_rfl)) (by decide) (fun K hK => ?_)
        refine goes_ Try.func19 (by kernel_rfl) rfl #[.slice Ao10 t279.length co10] (by rfl) rfl rfl (by (try simp only [List.map_toArray, List.map_cons, List.map_nil]); first | done | rfl) ?_
        with_reducible refine (laws_total.calls kj5 _ _ t279 t322 _ ?side1 ?side2 A51.out).mono ?_
        (case side1 => repeat (first | exact (x5 Ha_.out).2.2 | (with_reducible refine y3 ?_ _) | (with_reducible refine y4 ?_)))
        (case side2 => exact (x5 Ha_.out).2.1)
        rintro e w' ⟨rfl, ⟨nd, rfl⟩⟩
        refine ⟨_, rfl, ?_⟩
        refine hK.out _ _ ⟨(x3 BK294.out 0).trans rfl, (x3 BK294.out 1).trans rfl, (x3 BK294.out 2).trans rfl, (x3 BK308.out 0).trans rfl, (x3 BK308.out 1).trans rfl, (x3 BK308.out 2).trans rfl, (x3 BK288.out 0).trans rfl, (x3 BK288.out 1).trans rfl, (x3 BK288.out 2).trans rfl, (x3 BK282.out 0).trans rfl, (x3 BK282.out 1).trans rfl, (x3 BK282.out 2).trans rfl⟩ (fun hHeld => ?_)
        clear hK K
        refine norm_ (a' := ?_) ?_ ?_
        rotate_left
        ·show Act.put _ (some 49) _ = _
         simp only [Act.put, List.setIfInBounds_toArray, List.set_cons_zero, List.set_cons_succ, i64_w, i32_w]
         rfl
        refine pure_ (i := 12) (N := some 50) (v := ?_) (a' := ?_) #[true, true, true, true, true, true, true, true, true, true, true, true, true, false, false, false, false, false, false, false, false, false, false, false, false, false, false, false] rfl rfl (any_of HT_.out (by kernel_rfl)) (fun _ _ _ h => h) (Or.inl ⟨by rfl, ?_⟩) ?_ ?_
        rotate_left
        ·intro w'
         go_simp
         with_reducible rfl
        rotate_left
        ·simp only [Act.put, List.setIfInBounds_toArray, List.set_cons_zero, List.set_cons_succ, i64_w, i32_w]
         rfl
        refine pure_ (i := 13) (N := some 51) (v := ?_) (a' := ?_) #[true, true, true, true, true, true, true, true, true, true, true, true, true, true, false, false, false, false, false, false, false, false, false, false, false, false, false, false] rfl rfl (any_of HT_.out (by kernel_rfl)) (fun _ _ _ h => h) (Or.inl ⟨by rfl, ?_⟩) ?_ ?_
        rotate_left
        ·intro w'
         go_simp
         with_reducible rfl
        rotate_left
        ·simp only [Act.put, List.setIfInBounds_toArray, List.set_cons_zero, List.set_cons_succ, i64_w, i32_w]
         rfl
        refine pure_ (i := 14) (N := some 52) (v := ?_) (a' := ?_) #[true, true, true, true, true, true, true, true, true, true, true, true, true, true, true, false, false, false, false, false, false, false, false, false, false, false, false, false] rfl rfl (any_of HT_.out (by kernel_rfl)) (fun _ _ _ h => h) (Or.inl ⟨by rfl, ?_⟩) ?_ ?_
        rotate_left
        ·intro w'
         go_simp
         with_reducible rfl
        rotate_left
        ·simp only [Act.put, List.setIfInBounds_toArray, List.set_cons_zero, List.set_cons_succ, i64_w, i32_w]
         rfl
        refine pure_ (i := 15) (N := some 53) (v := ?_) (a' := ?_) #[true, true, true, true, true, true, true, true, true, true, true, true, true, true, true, true, false, false, false, false, false, false, false, false, false, false, false, false] rfl rfl (any_of HT_.out (by kernel_rfl)) (fun _ _ _ h => h) (Or.inl ⟨by rfl, ?_⟩) ?_ ?_
        rotate_left
        ·intro w'
         go_simp
         with_reducible rfl
        rotate_left
        ·simp only [Act.put, List.setIfInBounds_toArray, List.set_cons_zero, List.set_cons_succ, i64_w, i32_w]
         rfl
        refine pure_ (i := 16) (N := some 54) (v := ?_) (a' := ?_) #[true, true, true, true, true, true, true, true, true, true, true, true, true, true, true, true, true, false, false, false, false, false, false, false, false, false, false, false] rfl rfl (any_of HT_.out (by kernel_rfl)) (fun _ _ _ h => h) (Or.inl ⟨by rfl, ?_⟩) ?_ ?_
        rotate_left
        ·intro w'
         go_simp
         with_reducible rfl
        rotate_left
        ·simp only [Act.put, List.setIfInBounds_toArray, List.set_cons_zero, List.set_cons_succ, i64_w, i32_w]
         rfl
        refine pure_ (i := 17) (N := some 55) (v := ?_) (a' := ?_) #[true, true, true, true, true, true, true, true, true, true, true, true, true, true, true, true, true, true, false, false, false, false, false, false, false, false, false, false] rfl rfl (any_of HT_.out (by kernel_rfl)) (fun _ _ _ h => h) (Or.inl ⟨by rfl, ?_⟩) ?_ ?_
        rotate_left
        ·intro w'
         go_simp
         with_reducible rfl
        rotate_left
        ·simp only [Act.put, List.setIfInBounds_toArray, List.set_cons_zero, List.set_cons_succ, i64_w, i32_w]
         rfl
        refine pure_ (i := 18) (N := some 56) (v := ?_) (a' := ?_) #[true, true, true, true, true, true, true, true, true, true, true, true, true, true, true, true, true, true, true, false, false, false, false, false, false, false, false, false] rfl rfl (any_of HT_.out (by kernel_rfl)) (fun _ _ _ h => h) (Or.inl ⟨by rfl, ?_⟩) ?_ ?_
        rotate_left
        ·intro w'
         go_simp
         with_reducible rfl
        rotate_left
        ·simp only [Act.put, List.setIfInBounds_toArray, List.set_cons_zero, List.set_cons_succ, i64_w, i32_w]
         rfl
        refine pure_ (i := 19) (N := some 57) (v := ?_) (a' := ?_) #[true, true, true, true, true, true, true, true, true, true, true, true, true, true, true, true, true, true, true, true, false, false, false, false, false, false, false, false] rfl rfl (any_of HT_.out (by kernel_rfl)) (fun _ _ _ h => h) (Or.inl ⟨by rfl, ?_⟩) ?_ ?_
        rotate_left
        ·intro w'
         go_simp
         with_reducible rfl
        rotate_left
        ·simp only [Act.put, List.setIfInBounds_toArray, List.set_cons_zero, List.set_cons_succ, i64_w, i32_w]
         rfl
        refine pure_ (i := 20) (N := some 58) (v := undef) (a' := ?_) #[true, true, true, true, true, true, true, true, true, true, true, true, true, true, true, true, true, true, true, true, true, false, false, false, false, false, false, false] rfl rfl (any_of HT_.out (by kernel_rfl)) (fun _ _ _ h => h) (Or.inr ⟨by rfl, rfl⟩) ?_ ?_
        rotate_left
        ·simp only [Act.put, List.setIfInBounds_toArray, List.set_cons_zero, List.set_cons_succ, i64_w, i32_w]
         rfl
        refine pure_ (i := 21) (N := some 59) (v := undef) (a' := ?_) #[true, true, true, true, true, true, true, true, true, true, true, true, true, true, true, true, true, true, true, true, true, true, false, false, false, false, false, false] rfl rfl (any_of HT_.out (by kernel_rfl)) (fun _ _ _ h => h) (Or.inr ⟨by rfl, rfl⟩) ?_ ?_
        rotate_left
        ·simp only [Act.put, List.setIfInBounds_toArray, List.set_cons_zero, List.set_cons_succ, i64_w, i32_w]
         rfl
        refine pure_ (i := 22) (N := some 60) (v := undef) (a' := ?_) #[true, true, true, true, true, true, true, true, true, true, true, true, true, true, true, true, true, true, true, true, true, true, true, false, false, false, false, false] rfl rfl (any_of HT_.out (by kernel_rfl)) (fun _ _ _ h => h) (Or.inr ⟨by rfl, rfl⟩) ?_ ?_
        rotate_left
        ·simp only [Act.put, List.setIfInBounds_toArray, List.set_cons_zero, List.set_cons_succ, i64_w, i32_w]
         rfl
        refine pure_ (i := 23) (N := some 61) (v := undef) (a' := ?_) #[true, true, true, true, true, true, true, true, true, true, true, true, true, true, true, true, true, true, true, true, true, true, true, true, false, false, false, false] rfl rfl (any_of HT_.out (by kernel_rfl)) (fun _ _ _ h => h) (Or.inr ⟨by rfl, rfl⟩) ?_ ?_
        rotate_left
        ·simp only [Act.put, List.setIfInBounds_toArray, List.set_cons_zero, List.set_cons_succ, i64_w, i32_w]
         rfl
        refine pure_ (i := 24) (N := some 62) (v := undef) (a' := ?_) #[true, true, true, true, true, true, true, true, true, true, true, true, true, true, true, true, true, true, true, true, true, true, true, true, true, false, false, false] rfl rfl (any_of HT_.out (by kernel_rfl)) (fun _ _ _ h => h) (Or.inr ⟨by rfl, rfl⟩) ?_ ?_
        rotate_left
        ·simp only [Act.put, List.setIfInBounds_toArray, List.set_cons_zero, List.set_cons_succ, i64_w, i32_w]
         rfl
        refine pure_ (i := 25) (N := some 63) (v := undef) (a' := ?_) #[true, true, true, true, true, true, true, true, true, true, true, true, true, true, true, true, true, true, true, true, true, true, true, true, true, true, false, false] rfl rfl (any_of HT_.out (by kernel_rfl)) (fun _ _ _ h => h) (Or.inr ⟨by rfl, rfl⟩) ?_ ?_
        rotate_left
        ·simp only [Act.put, List.setIfInBounds_toArray, List.set_cons_zero, List.set_cons_succ, i64_w, i32_w]
         rfl
        refine pure_ (i := 26) (N := some 64) (v := ?_) (a' := ?_) #[true, true, true, true, true, true, true, true, true, true, true, true, true, true, true, true, true, true, true, true, true, true, true, true, true, true, true, false] rfl rfl (any_of HT_.out (by kernel_rfl)) (fun _ _ _ h => h) (Or.inl ⟨by rfl, ?_⟩) ?_ ?_
        rotate_left
        ·intro w'
         go_simp
         with_reducible rfl
        rotate_left
        ·simp only [Act.put, List.setIfInBounds_toArray, List.set_cons_zero, List.set_cons_succ, i64_w, i32_w]
         rfl
        refine pure_ (i := 27) (N := some 2) (v := ?_) (a' := ?_) #[true, true, true, true, true, true, true, true, true, true, true, true, true, true, true, true, true, true, true, true, true, true, true, true, true, true, true, true] rfl rfl (any_of HT_.out (by kernel_rfl)) (fun _ _ _ h => h) (Or.inl ⟨by rfl, ?_⟩) ?_ ?_
        rotate_left
        ·intro w'
         go_simp
         with_reducible rfl
        rotate_left
        ·simp only [Act.put, List.setIfInBounds_toArray, List.set_cons_zero, List.set_cons_succ, i64_w, i32_w]
         rfl
        refine done_ (done_of HT_.out (by kernel_rfl)) ?_
        try go_wp2
        go_ret
        exact ⟨by first | rfl | (simp [errW_none, errW_some] <;> rfl) | (simp [*, errW_none, errW_some] <;> rfl), by repeat (first | (with_reducible first | exact HB.out | apply z5 | apply z6 | refine z7 ?_ GE282.out | refine z7 ?_ GE288.out | refine z7 ?_ GE294.out | refine z7 ?_ GE308.out) | exact HB.out)⟩
      ·rw [if_neg c52] at H
       have c52b0 : (t309 == (wrap64 (t321 - t322))) = false := beq_eq_false_iff_ne.mpr c52
       have c52b1 : (t309 != (wrap64 (t321 - t322))) = true := bne_iff_ne.mpr c52
       obtain rfl := Option.some.inj H
       have hnb93 := NB282_288.out
       have hnc93 := NB288_282.out
       have hnb94 := NB282_294.out
       have hnc94 := NB294_282.out
       have hcz95_0 : wc.cell? ⟨gb282, 0, none⟩ = some (.int .i64 t277) := (x3 BK282.out 0).trans rfl
       have hcz95_1 : wc.cell? ⟨gb282, 1, none⟩ = some (.int .i64 t278) := (x3 BK282.out 1).trans rfl
       have hcz95_2 : wc.cell? ⟨gb282, 2, none⟩ = some (.slice Ao10 t279.length co10) := (x3 BK282.out 2).trans rfl
       have hfz95_0 := x2 BK282.out 0
       have hfz95_1 := x2 BK282.out 1
       have hfz95_2 := x2 BK282.out 2
       try go_wp2_with (first | ((with_reducible refine gate_callee (f := 47) rfl ?_); refine goesL_ (some 35) rfl rfl Try.func47 (by kernel_rfl) rfl #[.agg #[.int .i64 t277, .int .i64 t278, .slice Ao10 t279.length co10]] rfl (by (try simp only [List.map_toArray, List.map_cons, List.map_nil]); first | done | rfl) ?_; (with_reducible refine (spec_NegativePicture.calls kj5 t277 t278 _ _ t279 t303 t304 t305 _ ?side1 ?side2 A44.out).mono ?_); (case side1 => repeat (first | exact (x5 Ha_.out).2.2 | (with_reducible refine y3 ?_ _) | (with_reducible refine y4 ?_))); (case side2 => exact (x5 Ha_.out).2.1); rintro e w96 ⟨v306, rfl, ho0, hb⟩; refine ⟨_, rfl, ?_⟩; have n0_ := z0 (y8 (by (with_reducible repeat (first | apply z9 | apply y1)); exact Ha_.out) (w2_ ho0) hb); have n1_ := z0 (y8 (by (with_reducible repeat (first | apply z9 | apply y1)); exact Hb_.out) (w2_ ho0) hb); have n2_ := z0 (y8 (by (with_reducible repeat (first | apply z9 | apply y1)); exact Hc_.out) (w2_ ho0) hb); have n3_ := z0 (Kd.R_lower (Kd.R_new' (Kd.R_new' (Kd.R_new' ho0 (Kd.R_lt (by (with_reducible repeat (first | apply z9 | apply y1)); exact Ha_.out))) (Kd.R_lt (by (with_reducible repeat (first | apply z9 | apply y1)); exact Hb_.out))) (Kd.R_lt (by (with_reducible repeat (first | apply z9 | apply y1)); exact Hc_.out))) (y7 (by repeat (first | (with_reducible first | exact HB.out | apply z5 | apply z6 | refine z7 ?_ GE282.out | refine z7 ?_ GE288.out | refine z7 ?_ GE294.out) | exact HB.out)))); have n4_ := z0 (y5 (g := gb282) (o := .cells #[.int .i64 t277, .int .i64 t278, .slice Ao10 t279.length co10] 25 (0, 0)) (by (with_reducible repeat (first | refine z1 ?_ _ | refine z3 ?_)); exact BK282.out) hb); have n5_ := z0 (y5 (g := gb288) (o := .cells #[.int .i64 t283, .int .i64 t284, .slice Ao15 t285.length co15] 25 (0, 0)) (by (with_reducible repeat (first | refine z1 ?_ _ | refine z3 ?_)); exact BK288.out) hb); have n6_ := z0 (y5 (g := gb294) (o := .cells #[.int .i64 t289, .int .i64 t290, .slice Ao22 t291.length co22] 25 (0, 0)) (by (with_reducible repeat (first | refine z1 ?_ _ | refine z3 ?_)); exact BK294.out) hb); have n7_ := z0 (y6 (by repeat (first | (with_reducible first | exact HB.out | apply z5 | apply z6 | refine z7 ?_ GE282.out | refine z7 ?_ GE288.out | refine z7 ?_ GE294.out) | exact HB.out)) hb); clear Ha_; clear Hb_; clear Hc_; clear BK282; clear BK288; clear BK294; clear HB; have Ha_ := n0_; have Hb_ := n1_; have Hc_ := n2_; have HO307 := n3_; have BK282 := n4_; have BK288 := n5_; have BK294 := n6_; have HB := n7_; clear n0_ n1_ n2_ n3_ n4_ n5_ n6_ n7_; (try clear hb); (try clear ho0)) | ((with_reducible refine gate_dst (N := 6) rfl ?_); refine box_event ?hg (N := 6) ?hd (cs := #[.int .i64 0, .int .i64 0, .slice none 0 0]) (t := 25) ?hr ?_; (case hd => rfl); (case hg => rfl); (case hr => first | (go_simp; done) | (go_simp; rfl)); intro gb308 hg w97 hbox hb; have n0_ := z0 (x4 (by (with_reducible repeat (first | apply z9 | apply y1)); exact Ha_.out) hb); have n1_ := z0 (x4 (by (with_reducible repeat (first | apply z9 | apply y1)); exact Hb_.out) hb); have n2_ := z0 (x4 (by (with_reducible repeat (first | apply z9 | apply y1)); exact Hc_.out) hb); have n3_ := z0 (x4 (by (with_reducible repeat (first | apply z9 | apply y1)); exact HO307.out) hb); have n4_ := z0 (y5 (g := gb282) (o := .cells #[.int .i64 t277, .int .i64 t278, .slice Ao10 t279.length co10] 25 (0, 0)) (by (with_reducible repeat (first | refine z1 ?_ _ | refine z3 ?_)); exact BK282.out) hb); have n5_ := z0 (y5 (g := gb288) (o := .cells #[.int .i64 t283, .int .i64 t284, .slice Ao15 t285.length co15] 25 (0, 0)) (by (with_reducible repeat (first | refine z1 ?_ _ | refine z3 ?_)); exact BK288.out) hb); have n6_ := z0 (y5 (g := gb294) (o := .cells #[.int .i64 t289, .int .i64 t290, .slice Ao22 t291.length co22] 25 (0, 0)) (by (with_reducible repeat (first | refine z1 ?_ _ | refine z3 ?_)); exact BK294.out) hb); have n7_ := z0 (y6 (by repeat (first | (with_reducible first | exact HB.out | apply z5 | apply z6 | refine z7 ?_ GE282.out | refine z7 ?_ GE288.out | refine z7 ?_ GE294.out) | exact HB.out)) hb); have n8_ := z0 (hbox); have n9_ := z0 ((by rw [hg]; exact (y7 (by repeat (first | (with_reducible first | exact HB.out | apply z5 | apply z6 | refine z7 ?_ GE282.out | refine z7 ?_ GE288.out | refine z7 ?_ GE294.out) | exact HB.out))) : w.heap.size ≤ gb308)); have n10_ := z0 ((by rw [hg]; exact (y7 (by repeat (first | (with_reducible first | exact HB.out | apply z5 | apply z6 | refine z7 ?_ GE282.out | refine z7 ?_ GE288.out | refine z7 ?_ GE294.out) | exact HB.out))) : w.heap.size ≤ gb308)); have n11_ := z0 ((by rw [hg]; exact Nat.ne_of_lt (blk_lt (g := gb282) (o := .cells #[.int .i64 t277, .int .i64 t278, .slice Ao10 t279.length co10] 25 (0, 0)) (by (with_reducible repeat (first | refine z1 ?_ _ | refine z3 ?_)); exact BK282.out)) : gb282 ≠ gb308)); have n12_ := z0 ((by rw [hg]; exact Nat.ne_of_gt (blk_lt (g := gb282) (o := .cells #[.int .i64 t277, .int .i64 t278, .slice Ao10 t279.length co10] 25 (0, 0)) (by (with_reducible repeat (first | refine z1 ?_ _ | refine z3 ?_)); exact BK282.out)) : gb308 ≠ gb282)); have n13_ := z0 ((by rw [hg]; exact Nat.ne_of_lt (blk_lt (g := gb288) (o := .cells #[.int .i64 t283, .int .i64 t284, .slice Ao15 t285.length co15] 25 (0, 0)) (by (with_reducible repeat (first | refine z1 ?_ _ | refine z3 ?_)); exact BK288.out)) : gb288 ≠ gb308)); have n14_ := z0 ((by rw [hg]; exact Nat.ne_of_gt (blk_lt (g := gb288) (o := .cells #[.int .i64 t283, .int .i64 t284, .slice Ao15 t285.length co15] 25 (0, 0)) (by (with_reducible repeat (first | refine z1 ?_ _ | refine z3 ?_)); exact BK288.out)) : gb308 ≠ gb288)); have n15_ := z0 ((by rw [hg]; exact Nat.ne_of_lt (blk_lt (g := gb294) (o := .cells #[.int .i64 t289, .int .i64 t290, .slice Ao22 t291.length co22] 25 (0, 0)) (by (with_reducible repeat (first | refine z1 ?_ _ | refine z3 ?_)); exact BK294.out)) : gb294 ≠ gb308)); have n16_ := z0 ((by rw [hg]; exact Nat.ne_of_gt (blk_lt (g := gb294) (o := .cells #[.int .i64 t289, .int .i64 t290, .slice Ao22 t291.length co22] 25 (0, 0)) (by (with_reducible repeat (first | refine z1 ?_ _ | refine z3 ?_)); exact BK294.out)) : gb308 ≠ gb294)); clear Ha_; clear Hb_; clear Hc_; clear HO307; clear BK282; clear BK288; clear BK294; clear HB; have Ha_ := n0_; have Hb_ := n1_; have Hc_ := n2_; have HO307 := n3_; have BK282 := n4_; have BK288 := n5_; have BK294 := n6_; have HB := n7_; have BK308 := n8_; have GW308 := n9_; have GE308 := n10_; have NB282_308 := n11_; have NB308_282 := n12_; have NB288_308 := n13_; have NB308_288 := n14_; have NB294_308 := n15_; have NB308_294 := n16_; clear n0_ n1_ n2_ n3_ n4_ n5_ n6_ n7_ n8_ n9_ n10_ n11_ n12_ n13_ n14_ n15_ n16_; clear hb hbox hg; have hnb98 := NB308_282.out; have hnc98 := NB282_308.out; have hnb99 := NB308_288.out; have hnc99 := NB288_308.out; have hnb100 := NB308_294.out; have hnc100 := NB294_308.out; have hcz101_0 : w97.cell? ⟨gb308, 0, none⟩ = some (.int .i64 0) := (x3 BK308.out 0).trans rfl; have hcz101_1 : w97.cell? ⟨gb308, 1, none⟩ = some (.int .i64 0) := (x3 BK308.out 1).trans rfl; have hcz101_2 : w97.cell? ⟨gb308, 2, none⟩ = some (.slice none 0 0) := (x3 BK308.out 2).trans rfl; have hfz101_0 := x2 BK308.out 0; have hfz101_1 := x2 BK308.out 1; have hfz101_2 := x2 BK308.out 2; obtain ⟨Ao102, co102, eo102⟩ := Kd.R_slice HO307.out; subst eo102; have hcz103_0 : w97.cell? ⟨gb282, 0, none⟩ = some (.int .i64 t277) := (x3 BK282.out 0).trans rfl; have hcz103_1 : w97.cell? ⟨gb282, 1, none⟩ = some (.int .i64 t278) := (x3 BK282.out 1).trans rfl; have hcz103_2 : w97.cell? ⟨gb282, 2, none⟩ = some (.slice Ao10 t279.length co10) := (x3 BK282.out 2).trans rfl; have hfz103_0 := x2 BK282.out 0; have hfz103_1 := x2 BK282.out 1; have hfz103_2 := x2 BK282.out 2) | ((with_reducible refine gate_callee (f := 48) rfl ?_); refine goesL_ (some 37) rfl rfl Try.func48 (by kernel_rfl) rfl #[.agg #[.int .i64 t277, .int .i64 t278, .slice Ao10 t279.length co10]] rfl (by (try simp only [List.map_toArray, List.map_cons, List.map_nil]); first | done | rfl) ?_; (with_reducible refine (impl_GainOf.calls kj5 t277 t278 _ _ t279 t309 _ ?side1 ?side2 A45.out).mono ?_); (case side1 => refine (x5 (e := 3) (base := w.heap.size) (ok := fun k_ => ((some k_ ≠ (.slice Ao15 t285.length co15 : Value).ownBlock ∧ some k_ ≠ (.slice Ao22 t291.length co22 : Value).ownBlock) ∧ some k_ ≠ (.slice Ao102 t305.length co102 : Value).ownBlock)) (n := t279.length) (c := co10) ?_).2.2; exact (by (with_reducible repeat (first | apply z9 | apply y1)); exact (x6 (x1 (p := ⟨gb308, 2, none⟩) (x1 (p := ⟨gb308, 1, none⟩) (x1 (p := ⟨gb308, 0, none⟩) (x7 Ha_.out BK308.out (by decide)) (fun _ hk => hk.2) (.int .i64 t303)) (fun _ hk => hk.2) (.int .i64 t304)) (fun _ hk => hk.2) (.slice Ao102 t305.length co102)) (fun _ h_ => h_.1)))); (case side2 => exact (x5 Ha_.out).2.1); rintro e w104 ⟨rfl, hb⟩; refine ⟨_, rfl, ?_⟩; have n0_ := z0 (x4 (by (with_reducible repeat (first | apply z9 | apply y1)); exact (x6 (x1 (p := ⟨gb308, 2, none⟩) (x1 (p := ⟨gb308, 1, none⟩) (x1 (p := ⟨gb308, 0, none⟩) (x7 Ha_.out BK308.out (by decide)) (fun _ hk => hk.2) (.int .i64 t303)) (fun _ hk => hk.2) (.int .i64 t304)) (fun _ hk => hk.2) (.slice Ao102 t305.length co102)) (fun _ h_ => h_.1))) hb); have n1_ := z0 (x4 (by (with_reducible repeat (first | apply z9 | apply y1)); exact (x6 (x1 (p := ⟨gb308, 2, none⟩) (x1 (p := ⟨gb308, 1, none⟩) (x1 (p := ⟨gb308, 0, none⟩) (x7 Hb_.out BK308.out (by decide)) (fun _ hk => hk.2) (.int .i64 t303)) (fun _ hk => hk.2) (.int .i64 t304)) (fun _ hk => hk.2) (.slice Ao102 t305.length co102)) (fun _ h_ => h_.1))) hb); have n2_ := z0 (x4 (by (with_reducible repeat (first | apply z9 | apply y1)); exact (x6 (x1 (p := ⟨gb308, 2, none⟩) (x1 (p := ⟨gb308, 1, none⟩) (x1 (p := ⟨gb308, 0, none⟩) (x7 Hc_.out BK308.out (by decide)) (fun _ hk => hk.2) (.int .i64 t303)) (fun _ hk => hk.2) (.int .i64 t304)) (fun _ hk => hk.2) (.slice Ao102 t305.length co102)) (fun _ h_ => h_.1))) hb); have n3_ := z0 (x4 (by (with_reducible repeat (first | apply z9 | apply y1)); exact (x6 (x1 (p := ⟨gb308, 2, none⟩) (x1 (p := ⟨gb308, 1, none⟩) (x1 (p := ⟨gb308, 0, none⟩) (x7 HO307.out BK308.out (by decide)) (fun _ hk => hk.2) (.int .i64 t303)) (fun _ hk => hk.2) (.int .i64 t304)) (fun _ hk => hk.2) (.slice Ao102 t305.length co102)) (fun _ h_ => h_.1))) hb); have n4_ := z0 (y5 (g := gb282) (o := .cells #[.int .i64 t277, .int .i64 t278, .slice Ao10 t279.length co10] 25 (0, 0)) (by (with_reducible repeat (first | refine z1 ?_ _ | refine z3 ?_)); refine x8 ?_ NB282_308.out _; (with_reducible repeat (first | refine z1 ?_ _ | refine z3 ?_)); refine x8 ?_ NB282_308.out _; (with_reducible repeat (first | refine z1 ?_ _ | refine z3 ?_)); refine x8 ?_ NB282_308.out _; (with_reducible repeat (first | refine z1 ?_ _ | refine z3 ?_)); exact BK282.out) hb); have n5_ := z0 (y5 (g := gb288) (o := .cells #[.int .i64 t283, .int .i64 t284, .slice Ao15 t285.length co15] 25 (0, 0)) (by (with_reducible repeat (first | refine z1 ?_ _ | refine z3 ?_)); refine x8 ?_ NB288_308.out _; (with_reducible repeat (first | refine z1 ?_ _ | refine z3 ?_)); refine x8 ?_ NB288_308.out _; (with_reducible repeat (first | refine z1 ?_ _ | refine z3 ?_)); refine x8 ?_ NB288_308.out _; (with_reducible repeat (first | refine z1 ?_ _ | refine z3 ?_)); exact BK288.out) hb); have n6_ := z0 (y5 (g := gb294) (o := .cells #[.int .i64 t289, .int .i64 t290, .slice Ao22 t291.length co22] 25 (0, 0)) (by (with_reducible repeat (first | refine z1 ?_ _ | refine z3 ?_)); refine x8 ?_ NB294_308.out _; (with_reducible repeat (first | refine z1 ?_ _ | refine z3 ?_)); refine x8 ?_ NB294_308.out _; (with_reducible repeat (first | refine z1 ?_ _ | refine z3 ?_)); refine x8 ?_ NB294_308.out _; (with_reducible repeat (first | refine z1 ?_ _ | refine z3 ?_)); exact BK294.out) hb); have n7_ := z0 (y5 (g := gb308) (o := .cells #[.int .i64 t303, .int .i64 t304, .slice Ao102 t305.length co102] 25 (0, 0)) (by (with_reducible repeat (first | refine z1 ?_ _ | refine z3 ?_)); refine blk_put (cs := #[.int .i64 t303, .int .i64 t304, .slice none 0 0]) ?_ 2 _ rfl; (with_reducible repeat (first | refine z1 ?_ _ | refine z3 ?_)); refine blk_put (cs := #[.int .i64 t303, .int .i64 0, .slice none 0 0]) ?_ 1 _ rfl; (with_reducible repeat (first | refine z1 ?_ _ | refine z3 ?_)); refine blk_put (cs := #[.int .i64 0, .int .i64 0, .slice none 0 0]) ?_ 0 _ rfl; (with_reducible repeat (first | refine z1 ?_ _ | refine z3 ?_)); exact BK308.out) hb); have n8_ := z0 (y6 (by repeat (first | (with_reducible first | exact HB.out | apply z5 | apply z6 | refine z7 ?_ GE282.out | refine z7 ?_ GE288.out | refine z7 ?_ GE294.out | refine z7 ?_ GE308.out) | exact HB.out)) hb); clear Ha_; clear Hb_; clear Hc_; clear HO307; clear BK282; clear BK288; clear BK294; clear BK308; clear HB; have Ha_ := n0_; have Hb_ := n1_; have Hc_ := n2_; have HO307 := n3_; have BK282 := n4_; have BK288 := n5_; have BK294 := n6_; have BK308 := n7_; have HB := n8_; clear n0_ n1_ n2_ n3_ n4_ n5_ n6_ n7_ n8_; (try clear hb)))
       have n0_ := z0 (y1 Ha_.out)
       have n1_ := z0 (y1 Hb_.out)
       have n2_ := z0 (y1 Hc_.out)
       have n3_ := z0 (y1 HO307.out)
       have n4_ := z0 (z3 BK282.out)
       have n5_ := z0 (z3 BK288.out)
       have n6_ := z0 (z3 BK294.out)
       have n7_ := z0 (z3 BK308.out)
       have n8_ := z0 (z6 HB.out)
       clear Ha_
       clear Hb_
       clear Hc_
       clear HO307
       clear BK282
       clear BK288
       clear BK294
       clear BK308
       clear HB
       have Ha_ := n0_
       have Hb_ := n1_
       have Hc_ := n2_
       have HO307 := n3_
       have BK282 := n4_
       have BK288 := n5_
       have BK294 := n6_
       have BK308 := n7_
       have HB := n8_
       clear n0_ n1_ n2_ n3_ n4_ n5_ n6_ n7_ n8_
       refine start_ (n := 28) (S := fun w' => w'.cell? ⟨gb294, 0, none⟩ = some (.int .i64 t289) ∧ w'.cell? ⟨gb294, 1, none⟩ = some (.int .i64 t290) ∧ w'.cell? ⟨gb294, 2, none⟩ = some (.slice Ao22 t291.length co22) ∧ w'.cell? ⟨gb308, 0, none⟩ = some (.int .i64 t303) ∧ w'.cell? ⟨gb308, 1, none⟩ = some (.int .i64 t304) ∧ w'.cell? ⟨gb308, 2, none⟩ = some (.slice Ao102 t305.length co102) ∧ w'.cell? ⟨gb288, 0, none⟩ = some (.int .i64 t283) ∧ w'.cell? ⟨gb288, 1, none⟩ = some (.int .i64 t284) ∧ w'.cell? ⟨gb288, 2, none⟩ = some (.slice Ao15 t285.length co15) ∧ w'.cell? ⟨gb282, 0, none⟩ = some (.int .i64 t277) ∧ w'.cell? ⟨gb282, 1, none⟩ = some (.int .i64 t278) ∧ w'.cell? ⟨gb282, 2, none⟩ = some (.slice Ao10 t279.length co10)) (ds := []) #[false, false, false, false, false, false, false, false, false, false, false, false, false, false, false, false, false, false, false, false, false, false, false, false, false, false, false, false] (by kernel_rfl) rfl rfl ⟨(x3 BK294.out 0).trans rfl, (x3 BK294.out 1).trans rfl, (x3 BK294.out 2).trans rfl, (x3 BK308.out 0).trans rfl, (x3 BK308.out 1).trans rfl, (x3 BK308.out 2).trans rfl, (x3 BK288.out 0).trans rfl, (x3 BK288.out 1).trans rfl, (x3 BK288.out 2).trans rfl, (x3 BK282.out 0).trans rfl, (x3 BK282.out 1).trans rfl, (x3 BK282.out 2).trans rfl⟩ (fun hHeld => ?_); refine with_tabW laws_FnGrown.tab10 laws_FnGrown.bits10 (fun HT_ HW_ => ?_)
       generalize w104.drew = w105 at Ha_ Hb_ Hc_ HO307 BK282 BK288 BK294 BK308 HB hHeld ⊢
       refine take_ (i := 0) (N := some 38) (v := ?_) (a' := ?_) #[true, false, false, false, false, false, false, false, false, false, false, false, false, false, false, false, false, false, false, false, false, false, false, false, false, false, false, false] rfl rfl (take_ofW HT_.out HW_.out (by kernel_rfl)) (fun _ _ _ h => h) (Or.inl ⟨by rfl, ?_⟩) hHeld ?_ ?_
       rotate_left
       ·rintro w' ⟨s0, s1, s2, s3, s4, s5, s6, s7, s8, s9, s10, s11⟩
        go_simp
        with_reducible rfl
       rotate_left
       ·simp only [Act.put, List.setIfInBounds_toArray, List.set_cons_zero, List.set_cons_succ, i64_w, i32_w]
        rfl
       refine take_ (i := 2) (N := some 40) (v := ?_) (a' := ?_) #[true, false, true, false, false, false, false, false, false, false, false, false, false, false, false, false, false, false, false, false, false, false, false, false, false, false, false, false] rfl rfl (take_ofW HT_.out HW_.out (by kernel_rfl)) (fun _ _ _ h => h) (Or.inl ⟨by rfl, ?_⟩) hHeld ?_ ?_
       rotate_left
       ·rintro w' ⟨s0, s1, s2, s3, s4, s5, s6, s7, s8, s9, s10, s11⟩
        go_simp
        with_reducible rfl
       rotate_left
       ·simp only [Act.put, List.setIfInBounds_toArray, List.set_cons_zero, List.set_cons_succ, i64_w, i32_w]
        rfl
       refine one_ (i := 1) (N := some 39) #[true, true, true, false, false, false, false, false, false, false, false, false, false, false, false, false, false, false, false, false, false, false, false, false, false, false, false, false] rfl rfl (one_of HT_.out (by kernel_rfl)) (by decide) (fun K hK => ?_)
       refine goes_ Try.func47 (by kernel_rfl) rfl #[.agg #[.int .i64 t289, .int .i64 t290, .slice Ao22 t291.length co22]] (by rfl) rfl rfl (by (try simp only [List.map_toArray, List.map_cons, List.map_nil]); first | done | rfl) ?_
       with_reducible refine (spec_NegativePicture.calls kj5 t289 t290 _ _ t291 t310 t311 t312 _ ?side1 ?side2 A46.out).mono ?_
       (case side1 => repeat (first | exact (x5 Hc_.out).2.2 | (with_reducible refine y3 ?_ _) | (with_reducible refine y4 ?_)))
       (case side2 => exact (x5 Hc_.out).2.1)
       rintro e w106 ⟨v313, rfl, ho0, hb⟩
       refine ⟨_, rfl, ?_⟩
       have n0_ := z0 (y8 (by (with_reducible repeat (first | apply z9 | apply y1)); exact Ha_.out) (w2_ ho0) hb)
       have n1_ := z0 (y8 (by (with_reducible repeat (first | apply z9 | apply y1)); exact Hb_.out) (w2_ ho0) hb)
       have n2_ := z0 (y8 (by (with_reducible repeat (first | apply z9 | apply y1)); exact Hc_.out) (w2_ ho0) hb)
       have n3_ := z0 (y8 (by (with_reducible repeat (first | apply z9 | apply y1)); exact HO307.out) (w2_ ho0) hb)
       have n4_ := z0 (Kd.R_lower (Kd.R_new' (Kd.R_new' (Kd.R_new' (Kd.R_new' ho0 (Kd.R_lt (by (with_reducible repeat (first | apply z9 | apply y1)); exact Ha_.out))) (Kd.R_lt (by (with_reducible repeat (first | apply z9 | apply y1)); exact Hb_.out))) (Kd.R_lt (by (with_reducible repeat (first | apply z9 | apply y1)); exact Hc_.out))) (Kd.R_lt (by (with_reducible repeat (first | apply z9 | apply y1)); exact HO307.out))) (y7 (by repeat (first | (with_reducible first | exact HB.out | apply z5 | apply z6 | refine z7 ?_ GE282.out | refine z7 ?_ GE288.out | refine z7 ?_ GE294.out | refine z7 ?_ GE308.out) | exact HB.out))))
       have n5_ := z0 (y5 (g := gb282) (o := .cells #[.int .i64 t277, .int .i64 t278, .slice Ao10 t279.length co10] 25 (0, 0)) (by (with_reducible repeat (first | refine z1 ?_ _ | refine z3 ?_)); exact BK282.out) hb)
       have n6_ := z0 (y5 (g := gb288) (o := .cells #[.int .i64 t283, .int .i64 t284, .slice Ao15 t285.length co15] 25 (0, 0)) (by (with_reducible repeat (first | refine z1 ?_ _ | refine z3 ?_)); exact BK288.out) hb)
       have n7_ := z0 (y5 (g := gb294) (o := .cells #[.int .i64 t289, .int .i64 t290, .slice Ao22 t291.length co22] 25 (0, 0)) (by (with_reducible repeat (first | refine z1 ?_ _ | refine z3 ?_)); exact BK294.out) hb)
       have n8_ := z0 (y5 (g := gb308) (o := .cells #[.int .i64 t303, .int .i64 t304, .slice Ao102 t305.length co102] 25 (0, 0)) (by (with_reducible repeat (first | refine z1 ?_ _ | refine z3 ?_)); exact BK308.out) hb)
       have n9_ := z0 (y6 (by repeat (first | (with_reducible first | exact HB.out | apply z5 | apply z6 | refine z7 ?_ GE282.out | refine z7 ?_ GE288.out | refine z7 ?_ GE294.out | refine z7 ?_ GE308.out) | exact HB.out)) hb)
       clear Ha_
       clear Hb_
       clear Hc_
       clear HO307
       clear BK282
       clear BK288
       clear BK294
       clear BK308
       clear HB
       have Ha_ := n0_
       have Hb_ := n1_
       have Hc_ := n2_
       have HO307 := n3_
       have HO314 := n4_
       have BK282 := n5_
       have BK288 := n6_
       have BK294 := n7_
       have BK308 := n8_
       have HB := n9_
       clear n0_ n1_ n2_ n3_ n4_ n5_ n6_ n7_ n8_ n9_
       (try clear hb)
       (try clear hb2)
       (try clear hk)
       (try clear hi)
       (try clear ho0)
       refine hK.out _ _ ⟨(x3 BK294.out 0).trans rfl, (x3 BK294.out 1).trans rfl, (x3 BK294.out 2).trans rfl, (x3 BK308.out 0).trans rfl, (x3 BK308.out 1).trans rfl, (x3 BK308.out 2).trans rfl, (x3 BK288.out 0).trans rfl, (x3 BK288.out 1).trans rfl, (x3 BK288.out 2).trans rfl, (x3 BK282.out 0).trans rfl, (x3 BK282.out 1).trans rfl, (x3 BK282.out 2).trans rfl⟩ (fun hHeld => ?_)
       clear hK K
       refine norm_ (a' := ?_) ?_ ?_
       rotate_left
       ·show Act.put _ (some 39) _ = _
        simp only [Act.put, List.setIfInBounds_toArray, List.set_cons_zero, List.set_cons_succ, i64_w, i32_w]
        rfl
       refine one_ (i := 3) (N := some 41) #[true, true, true, true, false, false, false, false, false, false, false, false, false, false, false, false, false, false, false, false, false, false, false, false, false, false, false, false] rfl rfl (one_of HT_.out (by kernel_rfl)) (by decide) (fun K hK => ?_)
       refine goes_ Try.func44 (by kernel_rfl) rfl #[.agg #[.int .i64 t303, .int .i64 t304, .slice Ao102 t305.length co102]] (by rfl) rfl rfl (by (try simp only [List.map_toArray, List.map_cons, List.map_nil]); first | done | rfl) ?_
       with_reducible refine (impl_GrowPlate.calls t303 t304 _ _ t305 t315 t316 t317 _ ?side1 ?side2 A47.out).mono ?_
       (case side1 => repeat (first | exact (x5 HO307.out).2.2 | (with_reducible refine y3 ?_ _) | (with_reducible refine y4 ?_)))
       (case side2 => exact (x5 HO307.out).2.1)
       rintro e w107 ⟨v318, rfl, ho0, hb⟩
       refine ⟨_, rfl, ?_⟩
       have n0_ := z0 (y8 (by (with_reducible repeat (first | apply z9 | apply y1)); exact Ha_.out) (w2_ ho0) hb)
       have n1_ := z0 (y8 (by (with_reducible repeat (first | apply z9 | apply y1)); exact Hb_.out) (w2_ ho0) hb)
       have n2_ := z0 (y8 (by (with_reducible repeat (first | apply z9 | apply y1)); exact Hc_.out) (w2_ ho0) hb)
       have n3_ := z0 (y8 (by (with_reducible repeat (first | apply z9 | apply y1)); exact HO307.out) (w2_ ho0) hb)
       have n4_ := z0 (y8 (by (with_reducible repeat (first | apply z9 | apply y1)); exact HO314.out) (w2_ ho0) hb)
       have n5_ := z0 (Kd.R_lower (Kd.R_new' (Kd.R_new' (Kd.R_new' (Kd.R_new' (Kd.R_new' ho0 (Kd.R_lt (by (with_reducible repeat (first | apply z9 | apply y1)); exact Ha_.out))) (Kd.R_lt (by (with_reducible repeat (first | apply z9 | apply y1)); exact Hb_.out))) (Kd.R_lt (by (with_reducible repeat (first | apply z9 | apply y1)); exact Hc_.out))) (Kd.R_lt (by (with_reducible repeat (first | apply z9 | apply y1)); exact HO307.out))) (Kd.R_lt (by (with_reducible repeat (first | apply z9 | apply y1)); exact HO314.out))) (y7 (by repeat (first | (with_reducible first | exact HB.out | apply z5 | apply z6 | refine z7 ?_ GE282.out | refine z7 ?_ GE288.out | refine z7 ?_ GE294.out | refine z7 ?_ GE308.out) | exact HB.out))))
       have n6_ := z0 (y5 (g := gb282) (o := .cells #[.int .i64 t277, .int .i64 t278, .slice Ao10 t279.length co10] 25 (0, 0)) (by (with_reducible repeat (first | refine z1 ?_ _ | refine z3 ?_)); exact BK282.out) hb)
       have n7_ := z0 (y5 (g := gb288) (o := .cells #[.int .i64 t283, .int .i64 t284, .slice Ao15 t285.length co15] 25 (0, 0)) (by (with_reducible repeat (first | refine z1 ?_ _ | refine z3 ?_)); exact BK288.out) hb)
       have n8_ := z0 (y5 (g := gb294) (o := .cells #[.int .i64 t289, .int .i64 t290, .slice Ao22 t291.length co22] 25 (0, 0)) (by (with_reducible repeat (first | refine z1 ?_ _ | refine z3 ?_)); exact BK294.out) hb)
       have n9_ := z0 (y5 (g := gb308) (o := .cells #[.int .i64 t303, .int .i64 t304, .slice Ao102 t305.length co102] 25 (0, 0)) (by (with_reducible repeat (first | refine z1 ?_ _ | refine z3 ?_)); exact BK308.out) hb)
       have n10_ := z0 (y6 (by repeat (first | (with_reducible first | exact HB.out | apply z5 | apply z6 | refine z7 ?_ GE282.out | refine z7 ?_ GE288.out | refine z7 ?_ GE294.out | refine z7 ?_ GE308.out) | exact HB.out)) hb)
       clear Ha_
       clear Hb_
       clear Hc_
       clear HO307
       clear HO314
       clear BK282
       clear BK288
       clear BK294
       clear BK308
       clear HB
       have Ha_ := n0_
       have Hb_ := n1_
       have Hc_ := n2_
       have HO307 := n3_
       have HO314 := n4_
       have HO319 := n5_
       have BK282 := n6_
       have BK288 := n7_
       have BK294 := n8_
       have BK308 := n9_
       have HB := n10_
       clear n0_ n1_ n2_ n3_ n4_ n5_ n6_ n7_ n8_ n9_ n10_
       (try clear hb)
       (try clear hb2)
       (try clear hk)
       (try clear hi)
       (try clear ho0)
       obtain ⟨Ao108, co108, eo108⟩ := Kd.R_slice HO314.out
       (first | subst eo108 | (injection eo108 with f1_ f2_ f3_; have f4_ := f1_.symm; have f5_ := f3_.symm; clear f1_ f2_ f3_; subst f4_; subst f5_))
       obtain ⟨Ao109, co109, eo109⟩ := Kd.R_slice HO319.out
       (first | subst eo109 | (injection eo109 with f1_ f2_ f3_; have f4_ := f1_.symm; have f5_ := f3_.symm; clear f1_ f2_ f3_; subst f4_; subst f5_))
       refine hK.out _ _ ⟨(x3 BK294.out 0).trans rfl, (x3 BK294.out 1).trans rfl, (x3 BK294.out 2).trans rfl, (x3 BK308.out 0).trans rfl, (x3 BK308.out 1).trans rfl, (x3 BK308.out 2).trans rfl, (x3 BK288.out 0).trans rfl, (x3 BK288.out 1).trans rfl, (x3 BK288.out 2).trans rfl, (x3 BK282.out 0).trans rfl, (x3 BK282.out 1).trans rfl, (x3 BK282.out 2).trans rfl⟩ (fun hHeld => ?_)
       clear hK K
       refine norm_ (a' := ?_) ?_ ?_
       rotate_left
       ·show Act.put _ (some 41) _ = _
        simp only [Act.put, List.setIfInBounds_toArray, List.set_cons_zero, List.set_cons_succ, i64_w, i32_w]
        rfl
       refine one_ (i := 4) (N := some 42) #[true, true, true, true, true, false, false, false, false, false, false, false, false, false, false, false, false, false, false, false, false, false, false, false, false, false, false, false] rfl rfl (one_of HT_.out (by kernel_rfl)) (by decide) (fun K hK => ?_)
       refine goes_ Try.func24 (by kernel_rfl) rfl #[.agg #[.int .i64 t310, .int .i64 t311, .slice Ao108 t312.length co108], .agg #[.int .i64 t315, .int .i64 t316, .slice Ao109 t317.length co109]] (by rfl) rfl rfl (by (try simp only [List.map_toArray, List.map_cons, List.map_nil]); first | done | rfl) ?_
       with_reducible refine (laws_same.calls kj5 t310 t311 _ _ t312 t315 t316 _ _ t317 true _ ?side1 ?side2 ?side3 ?side4 A48.out).mono ?_
       (case side1 => repeat (first | exact (x5 HO314.out).2.2 | (with_reducible refine y3 ?_ _) | (with_reducible refine y4 ?_)))
       (case side2 => exact (x5 HO314.out).2.1)
       (case side3 => repeat (first | exact (x5 HO319.out).2.2 | (with_reducible refine y3 ?_ _) | (with_reducible refine y4 ?_)))
       (case side4 => exact (x5 HO319.out).2.1)
       rintro e w110 ⟨rfl, hb⟩
       refine ⟨_, rfl, ?_⟩
       have n0_ := z0 (x4 (by (with_reducible repeat (first | apply z9 | apply y1)); exact Ha_.out) hb)
       have n1_ := z0 (x4 (by (with_reducible repeat (first | apply z9 | apply y1)); exact Hb_.out) hb)
       have n2_ := z0 (x4 (by (with_reducible repeat (first | apply z9 | apply y1)); exact Hc_.out) hb)
       have n3_ := z0 (x4 (by (with_reducible repeat (first | apply z9 | apply y1)); exact HO307.out) hb)
       have n4_ := z0 (x4 (by (with_reducible repeat (first | apply z9 | apply y1)); exact HO314.out) hb)
       have n5_ := z0 (x4 (by (with_reducible repeat (first | apply z9 | apply y1)); exact HO319.out) hb)
       have n6_ := z0 (y5 (g := gb282) (o := .cells #[.int .i64 t277, .int .i64 t278, .slice Ao10 t279.length co10] 25 (0, 0)) (by (with_reducible repeat (first | refine z1 ?_ _ | refine z3 ?_)); exact BK282.out) hb)
       have n7_ := z0 (y5 (g := gb288) (o := .cells #[.int .i64 t283, .int .i64 t284, .slice Ao15 t285.length co15] 25 (0, 0)) (by (with_reducible repeat (first | refine z1 ?_ _ | refine z3 ?_)); exact BK288.out) hb)
       have n8_ := z0 (y5 (g := gb294) (o := .cells #[.int .i64 t289, .int .i64 t290, .slice Ao22 t291.length co22] 25 (0, 0)) (by (with_reducible repeat (first | refine z1 ?_ _ | refine z3 ?_)); exact BK294.out) hb)
       have n9_ := z0 (y5 (g := gb308) (o := .cells #[.int .i64 t303, .int .i64 t304, .slice Ao102 t305.length co102] 25 (0, 0)) (by (with_reducible repeat (first | refine z1 ?_ _ | refine z3 ?_)); exact BK308.out) hb)
       have n10_ := z0 (y6 (by repeat (first | (with_reducible first | exact HB.out | apply z5 | apply z6 | refine z7 ?_ GE282.out | refine z7 ?_ GE288.out | refine z7 ?_ GE294.out | refine z7 ?_ GE308.out) | exact HB.out)) hb)
       clear Ha_
       clear Hb_
       clear Hc_
       clear HO307
       clear HO314
       clear HO319
       clear BK282
       clear BK288
       clear BK294
       clear BK308
       clear HB
       have Ha_ := n0_
       have Hb_ := n1_
       have Hc_ := n2_
       have HO307 := n3_
       have HO314 := n4_
       have HO319 := n5_
       have BK282 := n6_
       have BK288 := n7_
       have BK294 := n8_
       have BK308 := n9_
       have HB := n10_
       clear n0_ n1_ n2_ n3_ n4_ n5_ n6_ n7_ n8_ n9_ n10_
       (try clear hb)
       (try clear hb2)
       (try clear hk)
       (try clear hi)
       refine hK.out _ _ ⟨(x3 BK294.out 0).trans rfl, (x3 BK294.out 1).trans rfl, (x3 BK294.out 2).trans rfl, (x3 BK308.out 0).trans rfl, (x3 BK308.out 1).trans rfl, (x3 BK308.out 2).trans rfl, (x3 BK288.out 0).trans rfl, (x3 BK288.out 1).trans rfl, (x3 BK288.out 2).trans rfl, (x3 BK282.out 0).trans rfl, (x3 BK282.out 1).trans rfl, (x3 BK282.out 2).trans rfl⟩ (fun hHeld => ?_)
       clear hK K
       refine norm_ (a' := ?_) ?_ ?_
       rotate_left
       ·show Act.put _ (some 42) _ = _
        simp only [Act.put, List.setIfInBounds_toArray, List.set_cons_zero, List.set_cons_succ, i64_w, i32_w]
        rfl
       refine pure_ (i := 5) (N := some 43) (v := ?_) (a' := ?_) #[true, true, true, true, true, true, false, false, false, false, false, false, false, false, false, false, false, false, false, false, false, false, false, false, false, false, false, false] rfl rfl (any_of HT_.out (by kernel_rfl)) (fun _ _ _ h => h) (Or.inl ⟨by rfl, ?_⟩) ?_ ?_
       rotate_left
       ·intro w'
        go_simp
        with_reducible rfl
       rotate_left
       ·simp only [Act.put, List.setIfInBounds_toArray, List.set_cons_zero, List.set_cons_succ, i64_w, i32_w]
        rfl
       refine pure_ (i := 6) (N := some 44) (v := ?_) (a' := ?_) #[true, true, true, true, true, true, true, false, false, false, false, false, false, false, false, false, false, false, false, false, false, false, false, false, false, false, false, false] rfl rfl (any_of HT_.out (by kernel_rfl)) (fun _ _ _ h => h) (Or.inl ⟨by rfl, ?_⟩) ?_ ?_
       rotate_left
       ·intro w'
        go_simp
        with_reducible rfl
       rotate_left
       ·simp only [Act.put, List.setIfInBounds_toArray, List.set_cons_zero, List.set_cons_succ, i64_w, i32_w]
        rfl
       refine pure_ (i := 9) (N := some 47) (v := ?_) (a' := ?_) #[true, true, true, true, true, true, true, false, false, true, false, false, false, false, false, false, false, false, false, false, false, false, false, false, false, false, false, false] rfl rfl (any_of HT_.out (by kernel_rfl)) (fun _ _ _ h => h) (Or.inl ⟨by rfl, ?_⟩) ?_ ?_
       rotate_left
       ·intro w'
        go_simp
        with_reducible rfl
       rotate_left
       ·simp only [Act.put, List.setIfInBounds_toArray, List.set_cons_zero, List.set_cons_succ, i64_w, i32_w]
        rfl
       refine take_ (i := 7) (N := some 45) (v := ?_) (a' := ?_) #[true, true, true, true, true, true, true, true, false, true, false, false, false, false, false, false, false, false, false, false, false, false, false, false, false, false, false, false] rfl rfl (take_ofW HT_.out HW_.out (by kernel_rfl)) (fun _ _ _ h => h) (Or.inl ⟨by rfl, ?_⟩) hHeld ?_ ?_
       rotate_left
       ·rintro w' ⟨s0, s1, s2, s3, s4, s5, s6, s7, s8, s9, s10, s11⟩
        go_simp
        with_reducible rfl
       rotate_left
       ·simp only [Act.put, List.setIfInBounds_toArray, List.set_cons_zero, List.set_cons_succ, i64_w, i32_w]
        rfl
       refine take_ (i := 10) (N := some 48) (v := ?_) (a' := ?_) #[true, true, true, true, true, true, true, true, false, true, true, false, false, false, false, false, false, false, false, false, false, false, false, false, false, false, false, false] rfl rfl (take_ofW HT_.out HW_.out (by kernel_rfl)) (fun _ _ _ h => h) (Or.inl ⟨by rfl, ?_⟩) hHeld ?_ ?_
       rotate_left
       ·rintro w' ⟨s0, s1, s2, s3, s4, s5, s6, s7, s8, s9, s10, s11⟩
        go_simp
        with_reducible rfl
       rotate_left
       ·simp only [Act.put, List.setIfInBounds_toArray, List.set_cons_zero, List.set_cons_succ, i64_w, i32_w]
        rfl
       refine one_ (i := 8) (N := some 46) #[true, true, true, true, true, true, true, true, true, true, true, false, false, false, false, false, false, false, false, false, false, false, false, false, false, false, false, false] rfl rfl (one_of HT_.out (by kernel_rfl)) (by decide) (fun K hK => ?_)
       refine goes_ Try.func49 (by kernel_rfl) rfl #[.agg #[.int .i64 t283, .int .i64 t284, .slice Ao15 t285.length co15]] (by rfl) rfl rfl (by (try simp only [List.map_toArray, List.map_cons, List.map_nil]); first | done | rfl) ?_
       with_reducible refine (impl_SumInk.calls kj5 t283 t284 _ _ t285 t321 _ ?side1 ?side2 A50.out).mono ?_
       (case side1 => repeat (first | exact (x5 Hb_.out).2.2 | (with_reducible refine y3 ?_ _) | (with_reducible refine y4 ?_)))
       (case side2 => exact (x5 Hb_.out).2.1)
       rintro e w111 ⟨rfl, hb⟩
       refine ⟨_, rfl, ?_⟩
       have n0_ := z0 (x4 (by (with_reducible repeat (first | apply z9 | apply y1)); exact Ha_.out) hb)
       have n1_ := z0 (x4 (by (with_reducible repeat (first | apply z9 | apply y1)); exact Hb_.out) hb)
       have n2_ := z0 (x4 (by (with_reducible repeat (first | apply z9 | apply y1)); exact Hc_.out) hb)
       have n3_ := z0 (x4 (by (with_reducible repeat (first | apply z9 | apply y1)); exact HO307.out) hb)
       have n4_ := z0 (x4 (by (with_reducible repeat (first | apply z9 | apply y1)); exact HO314.out) hb)
       have n5_ := z0 (x4 (by (with_reducible repeat (first | apply z9 | apply y1)); exact HO319.out) hb)
       have n6_ := z0 (y5 (g := gb282) (o := .cells #[.int .i64 t277, .int .i64 t278, .slice Ao10 t279.length co10] 25 (0, 0)) (by (with_reducible repeat (first | refine z1 ?_ _ | refine z3 ?_)); exact BK282.out) hb)
       have n7_ := z0 (y5 (g := gb288) (o := .cells #[.int .i64 t283, .int .i64 t284, .slice Ao15 t285.length co15] 25 (0, 0)) (by (with_reducible repeat (first | refine z1 ?_ _ | refine z3 ?_)); exact BK288.out) hb)
       have n8_ := z0 (y5 (g := gb294) (o := .cells #[.int .i64 t289, .int .i64 t290, .slice Ao22 t291.length co22] 25 (0, 0)) (by (with_reducible repeat (first | refine z1 ?_ _ | refine z3 ?_)); exact BK294.out) hb)
       have n9_ := z0 (y5 (g := gb308) (o := .cells #[.int .i64 t303, .int .i64 t304, .slice Ao102 t305.length co102] 25 (0, 0)) (by (with_reducible repeat (first | refine z1 ?_ _ | refine z3 ?_)); exact BK308.out) hb)
       have n10_ := z0 (y6 (by repeat (first | (with_reducible first | exact HB.out | apply z5 | apply z6 | refine z7 ?_ GE282.out | refine z7 ?_ GE288.out | refine z7 ?_ GE294.out | refine z7 ?_ GE308.out) | exact HB.out)) hb)
       clear Ha_
       clear Hb_
       clear Hc_
       clear HO307
       clear HO314
       clear HO319
       clear BK282
       clear BK288
       clear BK294
       clear BK308
       clear HB
       have Ha_ := n0_
       have Hb_ := n1_
       have Hc_ := n2_
       have HO307 := n3_
       have HO314 := n4_
       have HO319 := n5_
       have BK282 := n6_
       have BK288 := n7_
       have BK294 := n8_
       have BK308 := n9_
       have HB := n10_
       clear n0_ n1_ n2_ n3_ n4_ n5_ n6_ n7_ n8_ n9_ n10_
       (try clear hb)
       (try clear hb2)
       (try clear hk)
       (try clear hi)
       refine hK.out _ _ ⟨(x3 BK294.out 0).trans rfl, (x3 BK294.out 1).trans rfl, (x3 BK294.out 2).trans rfl, (x3 BK308.out 0).trans rfl, (x3 BK308.out 1).trans rfl, (x3 BK308.out 2).trans rfl, (x3 BK288.out 0).trans rfl, (x3 BK288.out 1).trans rfl, (x3 BK288.out 2).trans rfl, (x3 BK282.out 0).trans rfl, (x3 BK282.out 1).trans rfl, (x3 BK282.out 2).trans rfl⟩ (fun hHeld => ?_)
       clear hK K
       refine norm_ (a' := ?_) ?_ ?_
       rotate_left
       ·show Act.put _ (some 46) _ = _
        simp only [Act.put, List.setIfInBounds_toArray, List.set_cons_zero, List.set_cons_succ, i64_w, i32_w]
        rfl
       refine one_ (i := 11) (N := some 49) #[true, true, true, true, true, true, true, true, true, true, true, true, false, false, false, false, false, false, false, false, false, false, false, false, false, false, false, false] rfl rfl (one_of HT_.out (by kernel_rfl)) (by decide) (fun K hK => ?_)
       refine goes_ Try.func19 (by kernel_rfl) rfl #[.slice Ao10 t279.length co10] (by rfl) rfl rfl (by (try simp only [List.map_toArray, List.map_cons, List.map_nil]); first | done | rfl) ?_
       with_reducible refine (laws_total.calls kj5 _ _ t279 t322 _ ?side1 ?side2 A51.out).mono ?_
       (case side1 => repeat (first | exact (x5 Ha_.out).2.2 | (with_reducible refine y3 ?_ _) | (with_reducible refine y4 ?_)))
       (case side2 => exact (x5 Ha_.out).2.1)
       rintro e w' ⟨rfl, ⟨nd, rfl⟩⟩
       refine ⟨_, rfl, ?_⟩
       refine hK.out _ _ ⟨(x3 BK294.out 0).trans rfl, (x3 BK294.out 1).trans rfl, (x3 BK294.out 2).trans rfl, (x3 BK308.out 0).trans rfl, (x3 BK308.out 1).trans rfl, (x3 BK308.out 2).trans rfl, (x3 BK288.out 0).trans rfl, (x3 BK288.out 1).trans rfl, (x3 BK288.out 2).trans rfl, (x3 BK282.out 0).trans rfl, (x3 BK282.out 1).trans rfl, (x3 BK282.out 2).trans rfl⟩ (fun hHeld => ?_)
       clear hK K
       refine norm_ (a' := ?_) ?_ ?_
       rotate_left
       ·show Act.put _ (some 49) _ = _
        simp only [Act.put, List.setIfInBounds_toArray, List.set_cons_zero, List.set_cons_succ, i64_w, i32_w]
        rfl
       refine pure_ (i := 12) (N := some 50) (v := ?_) (a' := ?_) #[true, true, true, true, true, true, true, true, true, true, true, true, true, false, false, false, false, false, false, false, false, false, false, false, false, false, false, false] rfl rfl (any_of HT_.out (by kernel_rfl)) (fun _ _ _ h => h) (Or.inl ⟨by rfl, ?_⟩) ?_ ?_
       rotate_left
       ·intro w'
        go_simp
        with_reducible rfl
       rotate_left
       ·simp only [Act.put, List.setIfInBounds_toArray, List.set_cons_zero, List.set_cons_succ, i64_w, i32_w]
        rfl
       refine pure_ (i := 13) (N := some 51) (v := ?_) (a' := ?_) #[true, true, true, true, true, true, true, true, true, true, true, true, true, true, false, false, false, false, false, false, false, false, false, false, false, false, false, false] rfl rfl (any_of HT_.out (by kernel_rfl)) (fun _ _ _ h => h) (Or.inl ⟨by rfl, ?_⟩) ?_ ?_
       rotate_left
       ·intro w'
        go_simp
        with_reducible rfl
       rotate_left
       ·simp only [Act.put, List.setIfInBounds_toArray, List.set_cons_zero, List.set_cons_succ, i64_w, i32_w]
        rfl
       refine pure_ (i := 14) (N := some 52) (v := ?_) (a' := ?_) #[true, true, true, true, true, true, true, true, true, true, true, true, true, true, true, false, false, false, false, false, false, false, false, false, false, false, false, false] rfl rfl (any_of HT_.out (by kernel_rfl)) (fun _ _ _ h => h) (Or.inl ⟨by rfl, ?_⟩) ?_ ?_
       rotate_left
       ·intro w'
        go_simp
        with_reducible rfl
       rotate_left
       ·simp only [Act.put, List.setIfInBounds_toArray, List.set_cons_zero, List.set_cons_succ, i64_w, i32_w]
        rfl
       refine pure_ (i := 15) (N := some 53) (v := ?_) (a' := ?_) #[true, true, true, true, true, true, true, true, true, true, true, true, true, true, true, true, false, false, false, false, false, false, false, false, false, false, false, false] rfl rfl (any_of HT_.out (by kernel_rfl)) (fun _ _ _ h => h) (Or.inl ⟨by rfl, ?_⟩) ?_ ?_
       rotate_left
       ·intro w'
        go_simp
        with_reducible rfl
       rotate_left
       ·simp only [Act.put, List.setIfInBounds_toArray, List.set_cons_zero, List.set_cons_succ, i64_w, i32_w]
        rfl
       refine pure_ (i := 16) (N := some 54) (v := undef) (a' := ?_) #[true, true, true, true, true, true, true, true, true, true, true, true, true, true, true, true, true, false, false, false, false, false, false, false, false, false, false, false] rfl rfl (any_of HT_.out (by kernel_rfl)) (fun _ _ _ h => h) (Or.inr ⟨by rfl, rfl⟩) ?_ ?_
       rotate_left
       ·simp only [Act.put, List.setIfInBounds_toArray, List.set_cons_zero, List.set_cons_succ, i64_w, i32_w]
        rfl
       refine pure_ (i := 17) (N := some 55) (v := undef) (a' := ?_) #[true, true, true, true, true, true, true, true, true, true, true, true, true, true, true, true, true, true, false, false, false, false, false, false, false, false, false, false] rfl rfl (any_of HT_.out (by kernel_rfl)) (fun _ _ _ h => h) (Or.inr ⟨by rfl, rfl⟩) ?_ ?_
       rotate_left
       ·simp only [Act.put, List.setIfInBounds_toArray, List.set_cons_zero, List.set_cons_succ, i64_w, i32_w]
        rfl
       refine pure_ (i := 18) (N := some 56) (v := ?_) (a' := ?_) #[true, true, true, true, true, true, true, true, true, true, true, true, true, true, true, true, true, true, true, false, false, false, false, false, false, false, false, false] rfl rfl (any_of HT_.out (by kernel_rfl)) (fun _ _ _ h => h) (Or.inl ⟨by rfl, ?_⟩) ?_ ?_
       rotate_left
       ·intro w'
        go_simp
        with_reducible rfl
       rotate_left
       ·simp only [Act.put, List.setIfInBounds_toArray, List.set_cons_zero, List.set_cons_succ, i64_w, i32_w]
        rfl
       refine pure_ (i := 19) (N := some 57) (v := ?_) (a' := ?_) #[true, true, true, true, true, true, true, true, true, true, true, true, true, true, true, true, true, true, true, true, false, false, false, false, false, false, false, false] rfl rfl (any_of HT_.out (by kernel_rfl)) (fun _ _ _ h => h) (Or.inl ⟨by rfl, ?_⟩) ?_ ?_
       rotate_left
       ·intro w'
        go_simp
        with_reducible rfl
       rotate_left
       ·simp only [Act.put, List.setIfInBounds_toArray, List.set_cons_zero, List.set_cons_succ, i64_w, i32_w]
        rfl
       refine pure_ (i := 20) (N := some 58) (v := undef) (a' := ?_) #[true, true, true, true, true, true, true, true, true, true, true, true, true, true, true, true, true, true, true, true, true, false, false, false, false, false, false, false] rfl rfl (any_of HT_.out (by kernel_rfl)) (fun _ _ _ h => h) (Or.inr ⟨by rfl, rfl⟩) ?_ ?_
       rotate_left
       ·simp only [Act.put, List.setIfInBounds_toArray, List.set_cons_zero, List.set_cons_succ, i64_w, i32_w]
        rfl
       refine pure_ (i := 21) (N := some 59) (v := undef) (a' := ?_) #[true, true, true, true, true, true, true, true, true, true, true, true, true, true, true, true, true, true, true, true, true, true, false, false, false, false, false, false] rfl rfl (any_of HT_.out (by kernel_rfl)) (fun _ _ _ h => h) (Or.inr ⟨by rfl, rfl⟩) ?_ ?_
       rotate_left
       ·simp only [Act.put, List.setIfInBounds_toArray, List.set_cons_zero, List.set_cons_succ, i64_w, i32_w]
        rfl
       refine pure_ (i := 22) (N := some 60) (v := undef) (a' := ?_) #[true, true, true, true, true, true, true, true, true, true, true, true, true, true, true, true, true, true, true, true, true, true, true, false, false, false, false, false] rfl rfl (any_of HT_.out (by kernel_rfl)) (fun _ _ _ h => h) (Or.inr ⟨by rfl, rfl⟩) ?_ ?_
       rotate_left
       ·simp only [Act.put, List.setIfInBounds_toArray, List.set_cons_zero, List.set_cons_succ, i64_w, i32_w]
        rfl
       refine pure_ (i := 23) (N := some 61) (v := undef) (a' := ?_) #[true, true, true, true, true, true, true, true, true, true, true, true, true, true, true, true, true, true, true, true, true, true, true, true, false, false, false, false] rfl rfl (any_of HT_.out (by kernel_rfl)) (fun _ _ _ h => h) (Or.inr ⟨by rfl, rfl⟩) ?_ ?_
       rotate_left
       ·simp only [Act.put, List.setIfInBounds_toArray, List.set_cons_zero, List.set_cons_succ, i64_w, i32_w]
        rfl
       refine pure_ (i := 24) (N := some 62) (v := undef) (a' := ?_) #[true, true, true, true, true, true, true, true, true, true, true, true, true, true, true, true, true, true, true, true, true, true, true, true, true, false, false, false] rfl rfl (any_of HT_.out (by kernel_rfl)) (fun _ _ _ h => h) (Or.inr ⟨by rfl, rfl⟩) ?_ ?_
       rotate_left
       ·simp only [Act.put, List.setIfInBounds_toArray, List.set_cons_zero, List.set_cons_succ, i64_w, i32_w]
        rfl
       refine pure_ (i := 25) (N := some 63) (v := undef) (a' := ?_) #[true, true, true, true, true, true, true, true, true, true, true, true, true, true, true, true, true, true, true, true, true, true, true, true, true, true, false, false] rfl rfl (any_of HT_.out (by kernel_rfl)) (fun _ _ _ h => h) (Or.inr ⟨by rfl, rfl⟩) ?_ ?_
       rotate_left
       ·simp only [Act.put, List.setIfInBounds_toArray, List.set_cons_zero, List.set_cons_succ, i64_w, i32_w]
        rfl
       refine pure_ (i := 26) (N := some 64) (v := ?_) (a' := ?_) #[true, true, true, true, true, true, true, true, true, true, true, true, true, true, true, true, true, true, true, true, true, true, true, true, true, true, true, false] rfl rfl (any_of HT_.out (by kernel_rfl)) (fun _ _ _ h => h) (Or.inl ⟨by rfl, ?_⟩) ?_ ?_
       rotate_left
       ·intro w'
        go_simp
        with_reducible rfl
       rotate_left
       ·simp only [Act.put, List.setIfInBounds_toArray, List.set_cons_zero, List.set_cons_succ, i64_w, i32_w]
        rfl
       refine pure_ (i := 27) (N := some 2) (v := ?_) (a' := ?_) #[true, true, true, true, true, true, true, true, true, true, true, true, true, true, true, true, true, true, true, true, true, true, true, true, true, true, true, true] rfl rfl (any_of HT_.out (by kernel_rfl)) (fun _ _ _ h => h) (Or.inl ⟨by rfl, ?_⟩) ?_ ?_
       rotate_left
       ·intro w'
        go_simp
        with_reducible rfl
       rotate_left
       ·simp only [Act.put, List.setIfInBounds_toArray, List.set_cons_zero, List.set_cons_succ, i64_w, i32_w]
        rfl
       refine done_ (done_of HT_.out (by kernel_rfl)) ?_
       try go_wp2
       go_ret
       exact ⟨by first | rfl | (simp [errW_none, errW_some] <;> rfl) | (simp [*, errW_none, errW_some] <;> rfl), by repeat (first | (with_reducible first | exact HB.out | apply z5 | apply z6 | refine z7 ?_ GE282.out | refine z7 ?_ GE288.out | refine z7 ?_ GE294.out | refine z7 ?_ GE308.out) | exact HB.out)⟩
     ·replace c49 := Bool.eq_false_iff.mpr c49
      subst c49
      have H1 : (some false) = some r := by rw [if_neg (show ¬ (false = true) by decide)] at H; first | exact H | (simp only [if_true] at H ⊢; exact H)
      clear H
      have H := H1
      clear H1
      obtain rfl := Option.some.inj H
      have hnb112 := NB282_288.out
      have hnc112 := NB288_282.out
      have hnb113 := NB282_294.out
      have hnc113 := NB294_282.out
      have hcz114_0 : wc.cell? ⟨gb282, 0, none⟩ = some (.int .i64 t277) := (x3 BK282.out 0).trans rfl
      have hcz114_1 : wc.cell? ⟨gb282, 1, none⟩ = some (.int .i64 t278) := (x3 BK282.out 1).trans rfl
      have hcz114_2 : wc.cell? ⟨gb282, 2, none⟩ = some (.slice Ao10 t279.length co10) := (x3 BK282.out 2).trans rfl
      have hfz114_0 := x2 BK282.out 0
      have hfz114_1 := x2 BK282.out 1
      have hfz114_2 := x2 BK282.out 2
      try go_wp2_with (first | ((with_reducible refine gate_callee (f := 47) rfl ?_); refine goesL_ (some 35) rfl rfl Try.func47 (by kernel_rfl) rfl #[.agg #[.int .i64 t277, .int .i64 t278, .slice Ao10 t279.length co10]] rfl (by (try simp only [List.map_toArray, List.map_cons, List.map_nil]); first | done | rfl) ?_; (with_reducible refine (spec_NegativePicture.calls kj5 t277 t278 _ _ t279 t303 t304 t305 _ ?side1 ?side2 A44.out).mono ?_); (case side1 => repeat (first | exact (x5 Ha_.out).2.2 | (with_reducible refine y3 ?_ _) | (with_reducible refine y4 ?_))); (case side2 => exact (x5 Ha_.out).2.1); rintro e w115 ⟨v306, rfl, ho0, hb⟩; refine ⟨_, rfl, ?_⟩; have n0_ := z0 (y8 (by (with_reducible repeat (first | apply z9 | apply y1)); exact Ha_.out) (w2_ ho0) hb); have n1_ := z0 (y8 (by (with_reducible repeat (first | apply z9 | apply y1)); exact Hb_.out) (w2_ ho0) hb); have n2_ := z0 (y8 (by (with_reducible repeat (first | apply z9 | apply y1)); exact Hc_.out) (w2_ ho0) hb); have n3_ := z0 (Kd.R_lower (Kd.R_new' (Kd.R_new' (Kd.R_new' ho0 (Kd.R_lt (by (with_reducible repeat (first | apply z9 | apply y1)); exact Ha_.out))) (Kd.R_lt (by (with_reducible repeat (first | apply z9 | apply y1)); exact Hb_.out))) (Kd.R_lt (by (with_reducible repeat (first | apply z9 | apply y1)); exact Hc_.out))) (y7 (by repeat (first | (with_reducible first | exact HB.out | apply z5 | apply z6 | refine z7 ?_ GE282.out | refine z7 ?_ GE288.out | refine z7 ?_ GE294.out) | exact HB.out)))); have n4_ := z0 (y5 (g := gb282) (o := .cells #[.int .i64 t277, .int .i64 t278, .slice Ao10 t279.length co10] 25 (0, 0)) (by (with_reducible repeat (first | refine z1 ?_ _ | refine z3 ?_)); exact BK282.out) hb); have n5_ := z0 (y5 (g := gb288) (o := .cells #[.int .i64 t283, .int .i64 t284, .slice Ao15 t285.length co15] 25 (0, 0)) (by (with_reducible repeat (first | refine z1 ?_ _ | refine z3 ?_)); exact BK288.out) hb); have n6_ := z0 (y5 (g := gb294) (o := .cells #[.int .i64 t289, .int .i64 t290, .slice Ao22 t291.length co22] 25 (0, 0)) (by (with_reducible repeat (first | refine z1 ?_ _ | refine z3 ?_)); exact BK294.out) hb); have n7_ := z0 (y6 (by repeat (first | (with_reducible first | exact HB.out | apply z5 | apply z6 | refine z7 ?_ GE282.out | refine z7 ?_ GE288.out | refine z7 ?_ GE294.out) | exact HB.out)) hb); clear Ha_; clear Hb_; clear Hc_; clear BK282; clear BK288; clear BK294; clear HB; have Ha_ := n0_; have Hb_ := n1_; have Hc_ := n2_; have HO307 := n3_; have BK282 := n4_; have BK288 := n5_; have BK294 := n6_; have HB := n7_; clear n0_ n1_ n2_ n3_ n4_ n5_ n6_ n7_; (try clear hb); (try clear ho0)) | ((with_reducible refine gate_dst (N := 6) rfl ?_); refine box_event ?hg (N := 6) ?hd (cs := #[.int .i64 0, .int .i64 0, .slice none 0 0]) (t := 25) ?hr ?_; (case hd => rfl); (case hg => rfl); (case hr => first | (go_simp; done) | (go_simp; rfl)); intro gb308 hg w116 hbox hb; have n0_ := z0 (x4 (by (with_reducible repeat (first | apply z9 | apply y1)); exact Ha_.out) hb); have n1_ := z0 (x4 (by (with_reducible repeat (first | apply z9 | apply y1)); exact Hb_.out) hb); have n2_ := z0 (x4 (by (with_reducible repeat (first | apply z9 | apply y1)); exact Hc_.out) hb); have n3_ := z0 (x4 (by (with_reducible repeat (first | apply z9 | apply y1)); exact HO307.out) hb); have n4_ := z0 (y5 (g := gb282) (o := .cells #[.int .i64 t277, .int .i64 t278, .slice Ao10 t279.length co10] 25 (0, 0)) (by (with_reducible repeat (first | refine z1 ?_ _ | refine z3 ?_)); exact BK282.out) hb); have n5_ := z0 (y5 (g := gb288) (o := .cells #[.int .i64 t283, .int .i64 t284, .slice Ao15 t285.length co15] 25 (0, 0)) (by (with_reducible repeat (first | refine z1 ?_ _ | refine z3 ?_)); exact BK288.out) hb); have n6_ := z0 (y5 (g := gb294) (o := .cells #[.int .i64 t289, .int .i64 t290, .slice Ao22 t291.length co22] 25 (0, 0)) (by (with_reducible repeat (first | refine z1 ?_ _ | refine z3 ?_)); exact BK294.out) hb); have n7_ := z0 (y6 (by repeat (first | (with_reducible first | exact HB.out | apply z5 | apply z6 | refine z7 ?_ GE282.out | refine z7 ?_ GE288.out | refine z7 ?_ GE294.out) | exact HB.out)) hb); have n8_ := z0 (hbox); have n9_ := z0 ((by rw [hg]; exact (y7 (by repeat (first | (with_reducible first | exact HB.out | apply z5 | apply z6 | refine z7 ?_ GE282.out | refine z7 ?_ GE288.out | refine z7 ?_ GE294.out) | exact HB.out))) : w.heap.size ≤ gb308)); have n10_ := z0 ((by rw [hg]; exact (y7 (by repeat (first | (with_reducible first | exact HB.out | apply z5 | apply z6 | refine z7 ?_ GE282.out | refine z7 ?_ GE288.out | refine z7 ?_ GE294.out) | exact HB.out))) : w.heap.size ≤ gb308)); have n11_ := z0 ((by rw [hg]; exact Nat.ne_of_lt (blk_lt (g := gb282) (o := .cells #[.int .i64 t277, .int .i64 t278, .slice Ao10 t279.length co10] 25 (0, 0)) (by (with_reducible repeat (first | refine z1 ?_ _ | refine z3 ?_)); exact BK282.out)) : gb282 ≠ gb308)); have n12_ := z0 ((by rw [hg]; exact Nat.ne_of_gt (blk_lt (g := gb282) (o := .cells #[.int .i64 t277, .int .i64 t278, .slice Ao10 t279.length co10] 25 (0, 0)) (by (with_reducible repeat (first | refine z1 ?_ _ | refine z3 ?_)); exact BK282.out)) : gb308 ≠ gb282)); have n13_ := z0 ((by rw [hg]; exact Nat.ne_of_lt (blk_lt (g := gb288) (o := .cells #[.int .i64 t283, .int .i64 t284, .slice Ao15 t285.length co15] 25 (0, 0)) (by (with_reducible repeat (first | refine z1 ?_ _ | refine z3 ?_)); exact BK288.out)) : gb288 ≠ gb308)); have n14_ := z0 ((by rw [hg]; exact Nat.ne_of_gt (blk_lt (g := gb288) (o := .cells #[.int .i64 t283, .int .i64 t284, .slice Ao15 t285.length co15] 25 (0, 0)) (by (with_reducible repeat (first | refine z1 ?_ _ | refine z3 ?_)); exact BK288.out)) : gb308 ≠ gb288)); have n15_ := z0 ((by rw [hg]; exact Nat.ne_of_lt (blk_lt (g := gb294) (o := .cells #[.int .i64 t289, .int .i64 t290, .slice Ao22 t291.length co22] 25 (0, 0)) (by (with_reducible repeat (first | refine z1 ?_ _ | refine z3 ?_)); exact BK294.out)) : gb294 ≠ gb308)); have n16_ := z0 ((by rw [hg]; exact Nat.ne_of_gt (blk_lt (g := gb294) (o := .cells #[.int .i64 t289, .int .i64 t290, .slice Ao22 t291.length co22] 25 (0, 0)) (by (with_reducible repeat (first | refine z1 ?_ _ | refine z3 ?_)); exact BK294.out)) : gb308 ≠ gb294)); clear Ha_; clear Hb_; clear Hc_; clear HO307; clear BK282; clear BK288; clear BK294; clear HB; have Ha_ := n0_; have Hb_ := n1_; have Hc_ := n2_; have HO307 := n3_; have BK282 := n4_; have BK288 := n5_; have BK294 := n6_; have HB := n7_; have BK308 := n8_; have GW308 := n9_; have GE308 := n10_; have NB282_308 := n11_; have NB308_282 := n12_; have NB288_308 := n13_; have NB308_288 := n14_; have NB294_308 := n15_; have NB308_294 := n16_; clear n0_ n1_ n2_ n3_ n4_ n5_ n6_ n7_ n8_ n9_ n10_ n11_ n12_ n13_ n14_ n15_ n16_; clear hb hbox hg; have hnb117 := NB308_282.out; have hnc117 := NB282_308.out; have hnb118 := NB308_288.out; have hnc118 := NB288_308.out; have hnb119 := NB308_294.out; have hnc119 := NB294_308.out; have hcz120_0 : w116.cell? ⟨gb308, 0, none⟩ = some (.int .i64 0) := (x3 BK308.out 0).trans rfl; have hcz120_1 : w116.cell? ⟨gb308, 1, none⟩ = some (.int .i64 0) := (x3 BK308.out 1).trans rfl; have hcz120_2 : w116.cell? ⟨gb308, 2, none⟩ = some (.slice none 0 0) := (x3 BK308.out 2).trans rfl; have hfz120_0 := x2 BK308.out 0; have hfz120_1 := x2 BK308.out 1; have hfz120_2 := x2 BK308.out 2; obtain ⟨Ao121, co121, eo121⟩ := Kd.R_slice HO307.out; subst eo121; have hcz122_0 : w116.cell? ⟨gb282, 0, none⟩ = some (.int .i64 t277) := (x3 BK282.out 0).trans rfl; have hcz122_1 : w116.cell? ⟨gb282, 1, none⟩ = some (.int .i64 t278) := (x3 BK282.out 1).trans rfl; have hcz122_2 : w116.cell? ⟨gb282, 2, none⟩ = some (.slice Ao10 t279.length co10) := (x3 BK282.out 2).trans rfl; have hfz122_0 := x2 BK282.out 0; have hfz122_1 := x2 BK282.out 1; have hfz122_2 := x2 BK282.out 2) | ((with_reducible refine gate_callee (f := 48) rfl ?_); refine goesL_ (some 37) rfl rfl Try.func48 (by kernel_rfl) rfl #[.agg #[.int .i64 t277, .int .i64 t278, .slice Ao10 t279.length co10]] rfl (by (try simp only [List.map_toArray, List.map_cons, List.map_nil]); first | done | rfl) ?_; (with_reducible refine (impl_GainOf.calls kj5 t277 t278 _ _ t279 t309 _ ?side1 ?side2 A45.out).mono ?_); (case side1 => refine (x5 (e := 3) (base := w.heap.size) (ok := fun k_ => ((some k_ ≠ (.slice Ao15 t285.length co15 : Value).ownBlock ∧ some k_ ≠ (.slice Ao22 t291.length co22 : Value).ownBlock) ∧ some k_ ≠ (.slice Ao121 t305.length co121 : Value).ownBlock)) (n := t279.length) (c := co10) ?_).2.2; exact (by (with_reducible repeat (first | apply z9 | apply y1)); exact (x6 (x1 (p := ⟨gb308, 2, none⟩) (x1 (p := ⟨gb308, 1, none⟩) (x1 (p := ⟨gb308, 0, none⟩) (x7 Ha_.out BK308.out (by decide)) (fun _ hk => hk.2) (.int .i64 t303)) (fun _ hk => hk.2) (.int .i64 t304)) (fun _ hk => hk.2) (.slice Ao121 t305.length co121)) (fun _ h_ => h_.1)))); (case side2 => exact (x5 Ha_.out).2.1); rintro e w123 ⟨rfl, hb⟩; refine ⟨_, rfl, ?_⟩; have n0_ := z0 (x4 (by (with_reducible repeat (first | apply z9 | apply y1)); exact (x6 (x1 (p := ⟨gb308, 2, none⟩) (x1 (p := ⟨gb308, 1, none⟩) (x1 (p := ⟨gb308, 0, none⟩) (x7 Ha_.out BK308.out (by decide)) (fun _ hk => hk.2) (.int .i64 t303)) (fun _ hk => hk.2) (.int .i64 t304)) (fun _ hk => hk.2) (.slice Ao121 t305.length co121)) (fun _ h_ => h_.1))) hb); have n1_ := z0 (x4 (by (with_reducible repeat (first | apply z9 | apply y1)); exact (x6 (x1 (p := ⟨gb308, 2, none⟩) (x1 (p := ⟨gb308, 1, none⟩) (x1 (p := ⟨gb308, 0, none⟩) (x7 Hb_.out BK308.out (by decide)) (fun _ hk => hk.2) (.int .i64 t303)) (fun _ hk => hk.2) (.int .i64 t304)) (fun _ hk => hk.2) (.slice Ao121 t305.length co121)) (fun _ h_ => h_.1))) hb); have n2_ := z0 (x4 (by (with_reducible repeat (first | apply z9 | apply y1)); exact (x6 (x1 (p := ⟨gb308, 2, none⟩) (x1 (p := ⟨gb308, 1, none⟩) (x1 (p := ⟨gb308, 0, none⟩) (x7 Hc_.out BK308.out (by decide)) (fun _ hk => hk.2) (.int .i64 t303)) (fun _ hk => hk.2) (.int .i64 t304)) (fun _ hk => hk.2) (.slice Ao121 t305.length co121)) (fun _ h_ => h_.1))) hb); have n3_ := z0 (x4 (by (with_reducible repeat (first | apply z9 | apply y1)); exact (x6 (x1 (p := ⟨gb308, 2, none⟩) (x1 (p := ⟨gb308, 1, none⟩) (x1 (p := ⟨gb308, 0, none⟩) (x7 HO307.out BK308.out (by decide)) (fun _ hk => hk.2) (.int .i64 t303)) (fun _ hk => hk.2) (.int .i64 t304)) (fun _ hk => hk.2) (.slice Ao121 t305.length co121)) (fun _ h_ => h_.1))) hb); have n4_ := z0 (y5 (g := gb282) (o := .cells #[.int .i64 t277, .int .i64 t278, .slice Ao10 t279.length co10] 25 (0, 0)) (by (with_reducible repeat (first | refine z1 ?_ _ | refine z3 ?_)); refine x8 ?_ NB282_308.out _; (with_reducible repeat (first | refine z1 ?_ _ | refine z3 ?_)); refine x8 ?_ NB282_308.out _; (with_reducible repeat (first | refine z1 ?_ _ | refine z3 ?_)); refine x8 ?_ NB282_308.out _; (with_reducible repeat (first | refine z1 ?_ _ | refine z3 ?_)); exact BK282.out) hb); have n5_ := z0 (y5 (g := gb288) (o := .cells #[.int .i64 t283, .int .i64 t284, .slice Ao15 t285.length co15] 25 (0, 0)) (by (with_reducible repeat (first | refine z1 ?_ _ | refine z3 ?_)); refine x8 ?_ NB288_308.out _; (with_reducible repeat (first | refine z1 ?_ _ | refine z3 ?_)); refine x8 ?_ NB288_308.out _; (with_reducible repeat (first | refine z1 ?_ _ | refine z3 ?_)); refine x8 ?_ NB288_308.out _; (with_reducible repeat (first | refine z1 ?_ _ | refine z3 ?_)); exact BK288.out) hb); have n6_ := z0 (y5 (g := gb294) (o := .cells #[.int .i64 t289, .int .i64 t290, .slice Ao22 t291.length co22] 25 (0, 0)) (by (with_reducible repeat (first | refine z1 ?_ _ | refine z3 ?_)); refine x8 ?_ NB294_308.out _; (with_reducible repeat (first | refine z1 ?_ _ | refine z3 ?_)); refine x8 ?_ NB294_308.out _; (with_reducible repeat (first | refine z1 ?_ _ | refine z3 ?_)); refine x8 ?_ NB294_308.out _; (with_reducible repeat (first | refine z1 ?_ _ | refine z3 ?_)); exact BK294.out) hb); have n7_ := z0 (y5 (g := gb308) (o := .cells #[.int .i64 t303, .int .i64 t304, .slice Ao121 t305.length co121] 25 (0, 0)) (by (with_reducible repeat (first | refine z1 ?_ _ | refine z3 ?_)); refine blk_put (cs := #[.int .i64 t303, .int .i64 t304, .slice none 0 0]) ?_ 2 _ rfl; (with_reducible repeat (first | refine z1 ?_ _ | refine z3 ?_)); refine blk_put (cs := #[.int .i64 t303, .int .i64 0, .slice none 0 0]) ?_ 1 _ rfl; (with_reducible repeat (first | refine z1 ?_ _ | refine z3 ?_)); refine blk_put (cs := #[.int .i64 0, .int .i64 0, .slice none 0 0]) ?_ 0 _ rfl; (with_reducible repeat (first | refine z1 ?_ _ | refine z3 ?_)); exact BK308.out) hb); have n8_ := z0 (y6 (by repeat (first | (with_reducible first | exact HB.out | apply z5 | apply z6 | refine z7 ?_ GE282.out | refine z7 ?_ GE288.out | refine z7 ?_ GE294.out | refine z7 ?_ GE308.out) | exact HB.out)) hb); clear Ha_; clear Hb_; clear Hc_; clear HO307; clear BK282; clear BK288; clear BK294; clear BK308; clear HB; have Ha_ := n0_; have Hb_ := n1_; have Hc_ := n2_; have HO307 := n3_; have BK282 := n4_; have BK288 := n5_; have BK294 := n6_; have BK308 := n7_; have HB := n8_; clear n0_ n1_ n2_ n3_ n4_ n5_ n6_ n7_ n8_; (try clear hb)))
      have n0_ := z0 (y1 Ha_.out)
      have n1_ := z0 (y1 Hb_.out)
      have n2_ := z0 (y1 Hc_.out)
      have n3_ := z0 (y1 HO307.out)
      have n4_ := z0 (z3 BK282.out)
      have n5_ := z0 (z3 BK288.out)
      have n6_ := z0 (z3 BK294.out)
      have n7_ := z0 (z3 BK308.out)
      have n8_ := z0 (z6 HB.out)
      clear Ha_
      clear Hb_
      clear Hc_
      clear HO307
      clear BK282
      clear BK288
      clear BK294
      clear BK308
      clear HB
      have Ha_ := n0_
      have Hb_ := n1_
      have Hc_ := n2_
      have HO307 := n3_
      have BK282 := n4_
      have BK288 := n5_
      have BK294 := n6_
      have BK308 := n7_
      have HB := n8_
      clear n0_ n1_ n2_ n3_ n4_ n5_ n6_ n7_ n8_
      refine start_ (n := 28) (S := fun w' => w'.cell? ⟨gb294, 0, none⟩ = some (.int .i64 t289) ∧ w'.cell? ⟨gb294, 1, none⟩ = some (.int .i64 t290) ∧ w'.cell? ⟨gb294, 2, none⟩ = some (.slice Ao22 t291.length co22) ∧ w'.cell? ⟨gb308, 0, none⟩ = some (.int .i64 t303) ∧ w'.cell? ⟨gb308, 1, none⟩ = some (.int .i64 t304) ∧ w'.cell? ⟨gb308, 2, none⟩ = some (.slice Ao121 t305.length co121)) (ds := []) #[false, false, false, false, false, false, false, false, false, false, false, false, false, false, false, false, false, false, false, false, false, false, false, false, false, false, false, false] (by kernel_rfl) rfl rfl ⟨(x3 BK294.out 0).trans rfl, (x3 BK294.out 1).trans rfl, (x3 BK294.out 2).trans rfl, (x3 BK308.out 0).trans rfl, (x3 BK308.out 1).trans rfl, (x3 BK308.out 2).trans rfl⟩ (fun hHeld => ?_); refine with_tabW laws_FnGrown.tab10 laws_FnGrown.bits10 (fun HT_ HW_ => ?_)
      generalize w123.drew = w124 at Ha_ Hb_ Hc_ HO307 BK282 BK288 BK294 BK308 HB hHeld ⊢
      refine take_ (i := 0) (N := some 38) (v := ?_) (a' := ?_) #[true, false, false, false, false, false, false, false, false, false, false, false, false, false, false, false, false, false, false, false, false, false, false, false, false, false, false, false] rfl rfl (take_ofW HT_.out HW_.out (by kernel_rfl)) (fun _ _ _ h => h) (Or.inl ⟨by rfl, ?_⟩) hHeld ?_ ?_
      rotate_left
      ·rintro w' ⟨s0, s1, s2, s3, s4, s5⟩
       go_simp
       with_reducible rfl
      rotate_left
      ·simp only [Act.put, List.setIfInBounds_toArray, List.set_cons_zero, List.set_cons_succ, i64_w, i32_w]
       rfl
      refine take_ (i := 2) (N := some 40) (v := ?_) (a' := ?_) #[true, false, true, false, false, false, false, false, false, false, false, false, false, false, false, false, false, false, false, false, false, false, false, false, false, false, false, false] rfl rfl (take_ofW HT_.out HW_.out (by kernel_rfl)) (fun _ _ _ h => h) (Or.inl ⟨by rfl, ?_⟩) hHeld ?_ ?_
      rotate_left
      ·rintro w' ⟨s0, s1, s2, s3, s4, s5⟩
       go_simp
       with_reducible rfl
      rotate_left
      ·simp only [Act.put, List.setIfInBounds_toArray, List.set_cons_zero, List.set_cons_succ, i64_w, i32_w]
       rfl
      refine one_ (i := 1) (N := some 39) #[true, true, true, false, false, false, false, false, false, false, false, false, false, false, false, false, false, false, false, false, false, false, false, false, false, false, false, false] rfl rfl (one_of HT_.out (by kernel_rfl)) (by decide) (fun K hK => ?_)
      refine goes_ Try.func47 (by kernel_rfl) rfl #[.agg #[.int .i64 t289, .int .i64 t290, .slice Ao22 t291.length co22]] (by rfl) rfl rfl (by (try simp only [List.map_toArray, List.map_cons, List.map_nil]); first | done | rfl) ?_
      with_reducible refine (spec_NegativePicture.calls kj5 t289 t290 _ _ t291 t310 t311 t312 _ ?side1 ?side2 A46.out).mono ?_
      (case side1 => repeat (first | exact (x5 Hc_.out).2.2 | (with_reducible refine y3 ?_ _) | (with_reducible refine y4 ?_)))
      (case side2 => exact (x5 Hc_.out).2.1)
      rintro e w125 ⟨v313, rfl, ho0, hb⟩
      refine ⟨_, rfl, ?_⟩
      have n0_ := z0 (y8 (by (with_reducible repeat (first | apply z9 | apply y1)); exact Ha_.out) (w2_ ho0) hb)
      have n1_ := z0 (y8 (by (with_reducible repeat (first | apply z9 | apply y1)); exact Hb_.out) (w2_ ho0) hb)
      have n2_ := z0 (y8 (by (with_reducible repeat (first | apply z9 | apply y1)); exact Hc_.out) (w2_ ho0) hb)
      have n3_ := z0 (y8 (by (with_reducible repeat (first | apply z9 | apply y1)); exact HO307.out) (w2_ ho0) hb)
      have n4_ := z0 (Kd.R_lower (Kd.R_new' (Kd.R_new' (Kd.R_new' (Kd.R_new' ho0 (Kd.R_lt (by (with_reducible repeat (first | apply z9 | apply y1)); exact Ha_.out))) (Kd.R_lt (by (with_reducible repeat (first | apply z9 | apply y1)); exact Hb_.out))) (Kd.R_lt (by (with_reducible repeat (first | apply z9 | apply y1)); exact Hc_.out))) (Kd.R_lt (by (with_reducible repeat (first | apply z9 | apply y1)); exact HO307.out))) (y7 (by repeat (first | (with_reducible first | exact HB.out | apply z5 | apply z6 | refine z7 ?_ GE282.out | refine z7 ?_ GE288.out | refine z7 ?_ GE294.out | refine z7 ?_ GE308.out) | exact HB.out))))
      have n5_ := z0 (y5 (g := gb282) (o := .cells #[.int .i64 t277, .int .i64 t278, .slice Ao10 t279.length co10] 25 (0, 0)) (by (with_reducible repeat (first | refine z1 ?_ _ | refine z3 ?_)); exact BK282.out) hb)
      have n6_ := z0 (y5 (g := gb288) (o := .cells #[.int .i64 t283, .int .i64 t284, .slice Ao15 t285.length co15] 25 (0, 0)) (by (with_reducible repeat (first | refine z1 ?_ _ | refine z3 ?_)); exact BK288.out) hb)
      have n7_ := z0 (y5 (g := gb294) (o := .cells #[.int .i64 t289, .int .i64 t290, .slice Ao22 t291.length co22] 25 (0, 0)) (by (with_reducible repeat (first | refine z1 ?_ _ | refine z3 ?_)); exact BK294.out) hb)
      have n8_ := z0 (y5 (g := gb308) (o := .cells #[.int .i64 t303, .int .i64 t304, .slice Ao121 t305.length co121] 25 (0, 0)) (by (with_reducible repeat (first | refine z1 ?_ _ | refine z3 ?_)); exact BK308.out) hb)
      have n9_ := z0 (y6 (by repeat (first | (with_reducible first | exact HB.out | apply z5 | apply z6 | refine z7 ?_ GE282.out | refine z7 ?_ GE288.out | refine z7 ?_ GE294.out | refine z7 ?_ GE308.out) | exact HB.out)) hb)
      clear Ha_
      clear Hb_
      clear Hc_
      clear HO307
      clear BK282
      clear BK288
      clear BK294
      clear BK308
      clear HB
      have Ha_ := n0_
      have Hb_ := n1_
      have Hc_ := n2_
      have HO307 := n3_
      have HO314 := n4_
      have BK282 := n5_
      have BK288 := n6_
      have BK294 := n7_
      have BK308 := n8_
      have HB := n9_
      clear n0_ n1_ n2_ n3_ n4_ n5_ n6_ n7_ n8_ n9_
      (try clear hb)
      (try clear hb2)
      (try clear hk)
      (try clear hi)
      (try clear ho0)
      refine hK.out _ _ ⟨(x3 BK294.out 0).trans rfl, (x3 BK294.out 1).trans rfl, (x3 BK294.out 2).trans rfl, (x3 BK308.out 0).trans rfl, (x3 BK308.out 1).trans rfl, (x3 BK308.out 2).trans rfl⟩ (fun hHeld => ?_)
      clear hK K
      refine norm_ (a' := ?_) ?_ ?_
      rotate_left
      ·show Act.put _ (some 39) _ = _
       simp only [Act.put, List.setIfInBounds_toArray, List.set_cons_zero, List.set_cons_succ, i64_w, i32_w]
       rfl
      refine one_ (i := 3) (N := some 41) #[true, true, true, true, false, false, false, false, false, false, false, false, false, false, false, false, false, false, false, false, false, false, false, false, false, false, false, false] rfl rfl (one_of HT_.out (by kernel_rfl)) (by decide) (fun K hK => ?_)
      refine goes_ Try.func44 (by kernel_rfl) rfl #[.agg #[.int .i64 t303, .int .i64 t304, .slice Ao121 t305.length co121]] (by rfl) rfl rfl (by (try simp only [List.map_toArray, List.map_cons, List.map_nil]); first | done | rfl) ?_
      with_reducible refine (impl_GrowPlate.calls t303 t304 _ _ t305 t315 t316 t317 _ ?side1 ?side2 A47.out).mono ?_
      (case side1 => repeat (first | exact (x5 HO307.out).2.2 | (with_reducible refine y3 ?_ _) | (with_reducible refine y4 ?_)))
      (case side2 => exact (x5 HO307.out).2.1)
      rintro e w126 ⟨v318, rfl, ho0, hb⟩
      refine ⟨_, rfl, ?_⟩
      have n0_ := z0 (y8 (by (with_reducible repeat (first | apply z9 | apply y1)); exact Ha_.out) (w2_ ho0) hb)
      have n1_ := z0 (y8 (by (with_reducible repeat (first | apply z9 | apply y1)); exact Hb_.out) (w2_ ho0) hb)
      have n2_ := z0 (y8 (by (with_reducible repeat (first | apply z9 | apply y1)); exact Hc_.out) (w2_ ho0) hb)
      have n3_ := z0 (y8 (by (with_reducible repeat (first | apply z9 | apply y1)); exact HO307.out) (w2_ ho0) hb)
      have n4_ := z0 (y8 (by (with_reducible repeat (first | apply z9 | apply y1)); exact HO314.out) (w2_ ho0) hb)
      have n5_ := z0 (Kd.R_lower (Kd.R_new' (Kd.R_new' (Kd.R_new' (Kd.R_new' (Kd.R_new' ho0 (Kd.R_lt (by (with_reducible repeat (first | apply z9 | apply y1)); exact Ha_.out))) (Kd.R_lt (by (with_reducible repeat (first | apply z9 | apply y1)); exact Hb_.out))) (Kd.R_lt (by (with_reducible repeat (first | apply z9 | apply y1)); exact Hc_.out))) (Kd.R_lt (by (with_reducible repeat (first | apply z9 | apply y1)); exact HO307.out))) (Kd.R_lt (by (with_reducible repeat (first | apply z9 | apply y1)); exact HO314.out))) (y7 (by repeat (first | (with_reducible first | exact HB.out | apply z5 | apply z6 | refine z7 ?_ GE282.out | refine z7 ?_ GE288.out | refine z7 ?_ GE294.out | refine z7 ?_ GE308.out) | exact HB.out))))
      have n6_ := z0 (y5 (g := gb282) (o := .cells #[.int .i64 t277, .int .i64 t278, .slice Ao10 t279.length co10] 25 (0, 0)) (by (with_reducible repeat (first | refine z1 ?_ _ | refine z3 ?_)); exact BK282.out) hb)
      have n7_ := z0 (y5 (g := gb288) (o := .cells #[.int .i64 t283, .int .i64 t284, .slice Ao15 t285.length co15] 25 (0, 0)) (by (with_reducible repeat (first | refine z1 ?_ _ | refine z3 ?_)); exact BK288.out) hb)
      have n8_ := z0 (y5 (g := gb294) (o := .cells #[.int .i64 t289, .int .i64 t290, .slice Ao22 t291.length co22] 25 (0, 0)) (by (with_reducible repeat (first | refine z1 ?_ _ | refine z3 ?_)); exact BK294.out) hb)
      have n9_ := z0 (y5 (g := gb308) (o := .cells #[.int .i64 t303, .int .i64 t304, .slice Ao121 t305.length co121] 25 (0, 0)) (by (with_reducible repeat (first | refine z1 ?_ _ | refine z3 ?_)); exact BK308.out) hb)
      have n10_ := z0 (y6 (by repeat (first | (with_reducible first | exact HB.out | apply z5 | apply z6 | refine z7 ?_ GE282.out | refine z7 ?_ GE288.out | refine z7 ?_ GE294.out | refine z7 ?_ GE308.out) | exact HB.out)) hb)
      clear Ha_
      clear Hb_
      clear Hc_
      clear HO307
      clear HO314
      clear BK282
      clear BK288
      clear BK294
      clear BK308
      clear HB
      have Ha_ := n0_
      have Hb_ := n1_
      have Hc_ := n2_
      have HO307 := n3_
      have HO314 := n4_
      have HO319 := n5_
      have BK282 := n6_
      have BK288 := n7_
      have BK294 := n8_
      have BK308 := n9_
      have HB := n10_
      clear n0_ n1_ n2_ n3_ n4_ n5_ n6_ n7_ n8_ n9_ n10_
      (try clear hb)
      (try clear hb2)
      (try clear hk)
      (try clear hi)
      (try clear ho0)
      obtain ⟨Ao127, co127, eo127⟩ := Kd.R_slice HO314.out
      (first | subst eo127 | (injection eo127 with f1_ f2_ f3_; have f4_ := f1_.symm; have f5_ := f3_.symm; clear f1_ f2_ f3_; subst f4_; subst f5_))
      obtain ⟨Ao128, co128, eo128⟩ := Kd.R_slice HO319.out
      (first | subst eo128 | (injection eo128 with f1_ f2_ f3_; have f4_ := f1_.symm; have f5_ := f3_.symm; clear f1_ f2_ f3_; subst f4_; subst f5_))
      refine hK.out _ _ ⟨(x3 BK294.out 0).trans rfl, (x3 BK294.out 1).trans rfl, (x3 BK294.out 2).trans rfl, (x3 BK308.out 0).trans rfl, (x3 BK308.out 1).trans rfl, (x3 BK308.out 2).trans rfl⟩ (fun hHeld => ?_)
      clear hK K
      refine norm_ (a' := ?_) ?_ ?_
      rotate_left
      ·show Act.put _ (some 41) _ = _
       simp only [Act.put, List.setIfInBounds_toArray, List.set_cons_zero, List.set_cons_succ, i64_w, i32_w]
       rfl
      refine one_ (i := 4) (N := some 42) #[true, true, true, true, true, false, false, false, false, false, false, false, false, false, false, false, false, false, false, false, false, false, false, false, false, false, false, false] rfl rfl (one_of HT_.out (by kernel_rfl)) (by decide) (fun K hK => ?_)
      refine goes_ Try.func24 (by kernel_rfl) rfl #[.agg #[.int .i64 t310, .int .i64 t311, .slice Ao127 t312.length co127], .agg #[.int .i64 t315, .int .i64 t316, .slice Ao128 t317.length co128]] (by rfl) rfl rfl (by (try simp only [List.map_toArray, List.map_cons, List.map_nil]); first | done | rfl) ?_
      with_reducible refine (laws_same.calls kj5 t310 t311 _ _ t312 t315 t316 _ _ t317 false _ ?side1 ?side2 ?side3 ?side4 A48.out).mono ?_
      (case side1 => repeat (first | exact (x5 HO314.out).2.2 | (with_reducible refine y3 ?_ _) | (with_reducible refine y4 ?_)))
      (case side2 => exact (x5 HO314.out).2.1)
      (case side3 => repeat (first | exact (x5 HO319.out).2.2 | (with_reducible refine y3 ?_ _) | (with_reducible refine y4 ?_)))
      (case side4 => exact (x5 HO319.out).2.1)
      rintro e w129 ⟨rfl, hb⟩
      refine ⟨_, rfl, ?_⟩
      have n0_ := z0 (x4 (by (with_reducible repeat (first | apply z9 | apply y1)); exact Ha_.out) hb)
      have n1_ := z0 (x4 (by (with_reducible repeat (first | apply z9 | apply y1)); exact Hb_.out) hb)
      have n2_ := z0 (x4 (by (with_reducible repeat (first | apply z9 | apply y1)); exact Hc_.out) hb)
      have n3_ := z0 (x4 (by (with_reducible repeat (first | apply z9 | apply y1)); exact HO307.out) hb)
      have n4_ := z0 (x4 (by (with_reducible repeat (first | apply z9 | apply y1)); exact HO314.out) hb)
      have n5_ := z0 (x4 (by (with_reducible repeat (first | apply z9 | apply y1)); exact HO319.out) hb)
      have n6_ := z0 (y5 (g := gb282) (o := .cells #[.int .i64 t277, .int .i64 t278, .slice Ao10 t279.length co10] 25 (0, 0)) (by (with_reducible repeat (first | refine z1 ?_ _ | refine z3 ?_)); exact BK282.out) hb)
      have n7_ := z0 (y5 (g := gb288) (o := .cells #[.int .i64 t283, .int .i64 t284, .slice Ao15 t285.length co15] 25 (0, 0)) (by (with_reducible repeat (first | refine z1 ?_ _ | refine z3 ?_)); exact BK288.out) hb)
      have n8_ := z0 (y5 (g := gb294) (o := .cells #[.int .i64 t289, .int .i64 t290, .slice Ao22 t291.length co22] 25 (0, 0)) (by (with_reducible repeat (first | refine z1 ?_ _ | refine z3 ?_)); exact BK294.out) hb)
      have n9_ := z0 (y5 (g := gb308) (o := .cells #[.int .i64 t303, .int .i64 t304, .slice Ao121 t305.length co121] 25 (0, 0)) (by (with_reducible repeat (first | refine z1 ?_ _ | refine z3 ?_)); exact BK308.out) hb)
      have n10_ := z0 (y6 (by repeat (first | (with_reducible first | exact HB.out | apply z5 | apply z6 | refine z7 ?_ GE282.out | refine z7 ?_ GE288.out | refine z7 ?_ GE294.out | refine z7 ?_ GE308.out) | exact HB.out)) hb)
      clear Ha_
      clear Hb_
      clear Hc_
      clear HO307
      clear HO314
      clear HO319
      clear BK282
      clear BK288
      clear BK294
      clear BK308
      clear HB
      have Ha_ := n0_
      have Hb_ := n1_
      have Hc_ := n2_
      have HO307 := n3_
      have HO314 := n4_
      have HO319 := n5_
      have BK282 := n6_
      have BK288 := n7_
      have BK294 := n8_
      have BK308 := n9_
      have HB := n10_
      clear n0_ n1_ n2_ n3_ n4_ n5_ n6_ n7_ n8_ n9_ n10_
      (try clear hb)
      (try clear hb2)
      (try clear hk)
      (try clear hi)
      refine hK.out _ _ ⟨(x3 BK294.out 0).trans rfl, (x3 BK294.out 1).trans rfl, (x3 BK294.out 2).trans rfl, (x3 BK308.out 0).trans rfl, (x3 BK308.out 1).trans rfl, (x3 BK308.out 2).trans rfl⟩ (fun hHeld => ?_)
      clear hK K
      refine norm_ (a' := ?_) ?_ ?_
      rotate_left
      ·show Act.put _ (some 42) _ = _
       simp only [Act.put, List.setIfInBounds_toArray, List.set_cons_zero, List.set_cons_succ, i64_w, i32_w]
       rfl
      refine pure_ (i := 5) (N := some 43) (v := ?_) (a' := ?_) #[true, true, true, true, true, true, false, false, false, false, false, false, false, false, false, false, false, false, false, false, false, false, false, false, false, false, false, false] rfl rfl (any_of HT_.out (by kernel_rfl)) (fun _ _ _ h => h) (Or.inl ⟨by rfl, ?_⟩) ?_ ?_
      rotate_left
      ·intro w'
       go_simp
       with_reducible rfl
      rotate_left
      ·simp only [Act.put, List.setIfInBounds_toArray, List.set_cons_zero, List.set_cons_succ, i64_w, i32_w]
       rfl
      refine pure_ (i := 6) (N := some 44) (v := undef) (a' := ?_) #[true, true, true, true, true, true, true, false, false, false, false, false, false, false, false, false, false, false, false, false, false, false, false, false, false, false, false, false] rfl rfl (any_of HT_.out (by kernel_rfl)) (fun _ _ _ h => h) (Or.inr ⟨by rfl, rfl⟩) ?_ ?_
      rotate_left
      ·simp only [Act.put, List.setIfInBounds_toArray, List.set_cons_zero, List.set_cons_succ, i64_w, i32_w]
       rfl
      refine pure_ (i := 7) (N := some 45) (v := undef) (a' := ?_) #[true, true, true, true, true, true, true, true, false, false, false, false, false, false, false, false, false, false, false, false, false, false, false, false, false, false, false, false] rfl rfl (any_of HT_.out (by kernel_rfl)) (fun _ _ _ h => h) (Or.inr ⟨by rfl, rfl⟩) ?_ ?_
      rotate_left
      ·simp only [Act.put, List.setIfInBounds_toArray, List.set_cons_zero, List.set_cons_succ, i64_w, i32_w]
       rfl
      refine pure_ (i := 8) (N := some 46) (v := undef) (a' := ?_) #[true, true, true, true, true, true, true, true, true, false, false, false, false, false, false, false, false, false, false, false, false, false, false, false, false, false, false, false] rfl rfl (any_of HT_.out (by kernel_rfl)) (fun _ _ _ h => h) (Or.inr ⟨by rfl, rfl⟩) ?_ ?_
      rotate_left
      ·simp only [Act.put, List.setIfInBounds_toArray, List.set_cons_zero, List.set_cons_succ, i64_w, i32_w]
       rfl
      refine pure_ (i := 9) (N := some 47) (v := undef) (a' := ?_) #[true, true, true, true, true, true, true, true, true, true, false, false, false, false, false, false, false, false, false, false, false, false, false, false, false, false, false, false] rfl rfl (any_of HT_.out (by kernel_rfl)) (fun _ _ _ h => h) (Or.inr ⟨by rfl, rfl⟩) ?_ ?_
      rotate_left
      ·simp only [Act.put, List.setIfInBounds_toArray, List.set_cons_zero, List.set_cons_succ, i64_w, i32_w]
       rfl
      refine pure_ (i := 10) (N := some 48) (v := undef) (a' := ?_) #[true, true, true, true, true, true, true, true, true, true, true, false, false, false, false, false, false, false, false, false, false, false, false, false, false, false, false, false] rfl rfl (any_of HT_.out (by kernel_rfl)) (fun _ _ _ h => h) (Or.inr ⟨by rfl, rfl⟩) ?_ ?_
      rotate_left
      ·simp only [Act.put, List.setIfInBounds_toArray, List.set_cons_zero, List.set_cons_succ, i64_w, i32_w]
       rfl
      refine pure_ (i := 11) (N := some 49) (v := undef) (a' := ?_) #[true, true, true, true, true, true, true, true, true, true, true, true, false, false, false, false, false, false, false, false, false, false, false, false, false, false, false, false] rfl rfl (any_of HT_.out (by kernel_rfl)) (fun _ _ _ h => h) (Or.inr ⟨by rfl, rfl⟩) ?_ ?_
      rotate_left
      ·simp only [Act.put, List.setIfInBounds_toArray, List.set_cons_zero, List.set_cons_succ, i64_w, i32_w]
       rfl
      refine pure_ (i := 12) (N := some 50) (v := undef) (a' := ?_) #[true, true, true, true, true, true, true, true, true, true, true, true, true, false, false, false, false, false, false, false, false, false, false, false, false, false, false, false] rfl rfl (any_of HT_.out (by kernel_rfl)) (fun _ _ _ h => h) (Or.inr ⟨by rfl, rfl⟩) ?_ ?_
      rotate_left
      ·simp only [Act.put, List.setIfInBounds_toArray, List.set_cons_zero, List.set_cons_succ, i64_w, i32_w]
       rfl
      refine pure_ (i := 13) (N := some 51) (v := undef) (a' := ?_) #[true, true, true, true, true, true, true, true, true, true, true, true, true, true, false, false, false, false, false, false, false, false, false, false, false, false, false, false] rfl rfl (any_of HT_.out (by kernel_rfl)) (fun _ _ _ h => h) (Or.inr ⟨by rfl, rfl⟩) ?_ ?_
      rotate_left
      ·simp only [Act.put, List.setIfInBounds_toArray, List.set_cons_zero, List.set_cons_succ, i64_w, i32_w]
       rfl
      refine pure_ (i := 14) (N := some 52) (v := ?_) (a' := ?_) #[true, true, true, true, true, true, true, true, true, true, true, true, true, true, true, false, false, false, false, false, false, false, false, false, false, false, false, false] rfl rfl (any_of HT_.out (by kernel_rfl)) (fun _ _ _ h => h) (Or.inl ⟨by rfl, ?_⟩) ?_ ?_
      rotate_left
      ·intro w'
       go_simp
       with_reducible rfl
      rotate_left
      ·simp only [Act.put, List.setIfInBounds_toArray, List.set_cons_zero, List.set_cons_succ, i64_w, i32_w]
       rfl
      refine pure_ (i := 15) (N := some 53) (v := ?_) (a' := ?_) #[true, true, true, true, true, true, true, true, true, true, true, true, true, true, true, true, false, false, false, false, false, false, false, false, false, false, false, false] rfl rfl (any_of HT_.out (by kernel_rfl)) (fun _ _ _ h => h) (Or.inl ⟨by rfl, ?_⟩) ?_ ?_
      rotate_left
      ·intro w'
       go_simp
       with_reducible rfl
      rotate_left
      ·simp only [Act.put, List.setIfInBounds_toArray, List.set_cons_zero, List.set_cons_succ, i64_w, i32_w]
       rfl
      refine pure_ (i := 16) (N := some 54) (v := undef) (a' := ?_) #[true, true, true, true, true, true, true, true, true, true, true, true, true, true, true, true, true, false, false, false, false, false, false, false, false, false, false, false] rfl rfl (any_of HT_.out (by kernel_rfl)) (fun _ _ _ h => h) (Or.inr ⟨by rfl, rfl⟩) ?_ ?_
      rotate_left
      ·simp only [Act.put, List.setIfInBounds_toArray, List.set_cons_zero, List.set_cons_succ, i64_w, i32_w]
       rfl
      refine pure_ (i := 17) (N := some 55) (v := undef) (a' := ?_) #[true, true, true, true, true, true, true, true, true, true, true, true, true, true, true, true, true, true, false, false, false, false, false, false, false, false, false, false] rfl rfl (any_of HT_.out (by kernel_rfl)) (fun _ _ _ h => h) (Or.inr ⟨by rfl, rfl⟩) ?_ ?_
      rotate_left
      ·simp only [Act.put, List.setIfInBounds_toArray, List.set_cons_zero, List.set_cons_succ, i64_w, i32_w]
       rfl
      refine pure_ (i := 18) (N := some 56) (v := ?_) (a' := ?_) #[true, true, true, true, true, true, true, true, true, true, true, true, true, true, true, true, true, true, true, false, false, false, false, false, false, false, false, false] rfl rfl (any_of HT_.out (by kernel_rfl)) (fun _ _ _ h => h) (Or.inl ⟨by rfl, ?_⟩) ?_ ?_
      rotate_left
      ·intro w'
       go_simp
       with_reducible rfl
      rotate_left
      ·simp only [Act.put, List.setIfInBounds_toArray, List.set_cons_zero, List.set_cons_succ, i64_w, i32_w]
       rfl
      refine pure_ (i := 19) (N := some 57) (v := ?_) (a' := ?_) #[true, true, true, true, true, true, true, true, true, true, true, true, true, true, true, true, true, true, true, true, false, false, false, false, false, false, false, false] rfl rfl (any_of HT_.out (by kernel_rfl)) (fun _ _ _ h => h) (Or.inl ⟨by rfl, ?_⟩) ?_ ?_
      rotate_left
      ·intro w'
       go_simp
       with_reducible rfl
      rotate_left
      ·simp only [Act.put, List.setIfInBounds_toArray, List.set_cons_zero, List.set_cons_succ, i64_w, i32_w]
       rfl
      refine pure_ (i := 20) (N := some 58) (v := undef) (a' := ?_) #[true, true, true, true, true, true, true, true, true, true, true, true, true, true, true, true, true, true, true, true, true, false, false, false, false, false, false, false] rfl rfl (any_of HT_.out (by kernel_rfl)) (fun _ _ _ h => h) (Or.inr ⟨by rfl, rfl⟩) ?_ ?_
      rotate_left
      ·simp only [Act.put, List.setIfInBounds_toArray, List.set_cons_zero, List.set_cons_succ, i64_w, i32_w]
       rfl
      refine pure_ (i := 21) (N := some 59) (v := undef) (a' := ?_) #[true, true, true, true, true, true, true, true, true, true, true, true, true, true, true, true, true, true, true, true, true, true, false, false, false, false, false, false] rfl rfl (any_of HT_.out (by kernel_rfl)) (fun _ _ _ h => h) (Or.inr ⟨by rfl, rfl⟩) ?_ ?_
      rotate_left
      ·simp only [Act.put, List.setIfInBounds_toArray, List.set_cons_zero, List.set_cons_succ, i64_w, i32_w]
       rfl
      refine pure_ (i := 22) (N := some 60) (v := undef) (a' := ?_) #[true, true, true, true, true, true, true, true, true, true, true, true, true, true, true, true, true, true, true, true, true, true, true, false, false, false, false, false] rfl rfl (any_of HT_.out (by kernel_rfl)) (fun _ _ _ h => h) (Or.inr ⟨by rfl, rfl⟩) ?_ ?_
      rotate_left
      ·simp only [Act.put, List.setIfInBounds_toArray, List.set_cons_zero, List.set_cons_succ, i64_w, i32_w]
       rfl
      refine pure_ (i := 23) (N := some 61) (v := undef) (a' := ?_) #[true, true, true, true, true, true, true, true, true, true, true, true, true, true, true, true, true, true, true, true, true, true, true, true, false, false, false, false] rfl rfl (any_of HT_.out (by kernel_rfl)) (fun _ _ _ h => h) (Or.inr ⟨by rfl, rfl⟩) ?_ ?_
      rotate_left
      ·simp only [Act.put, List.setIfInBounds_toArray, List.set_cons_zero, List.set_cons_succ, i64_w, i32_w]
       rfl
      refine pure_ (i := 24) (N := some 62) (v := undef) (a' := ?_) #[true, true, true, true, true, true, true, true, true, true, true, true, true, true, true, true, true, true, true, true, true, true, true, true, true, false, false, false] rfl rfl (any_of HT_.out (by kernel_rfl)) (fun _ _ _ h => h) (Or.inr ⟨by rfl, rfl⟩) ?_ ?_
      rotate_left
      ·simp only [Act.put, List.setIfInBounds_toArray, List.set_cons_zero, List.set_cons_succ, i64_w, i32_w]
       rfl
      refine pure_ (i := 25) (N := some 63) (v := undef) (a' := ?_) #[true, true, true, true, true, true, true, true, true, true, true, true, true, true, true, true, true, true, true, true, true, true, true, true, true, true, false, false] rfl rfl (any_of HT_.out (by kernel_rfl)) (fun _ _ _ h => h) (Or.inr ⟨by rfl, rfl⟩) ?_ ?_
      rotate_left
      ·simp only [Act.put, List.setIfInBounds_toArray, List.set_cons_zero, List.set_cons_succ, i64_w, i32_w]
       rfl
      refine pure_ (i := 26) (N := some 64) (v := ?_) (a' := ?_) #[true, true, true, true, true, true, true, true, true, true, true, true, true, true, true, true, true, true, true, true, true, true, true, true, true, true, true, false] rfl rfl (any_of HT_.out (by kernel_rfl)) (fun _ _ _ h => h) (Or.inl ⟨by rfl, ?_⟩) ?_ ?_
      rotate_left
      ·intro w'
       go_simp
       with_reducible rfl
      rotate_left
      ·simp only [Act.put, List.setIfInBounds_toArray, List.set_cons_zero, List.set_cons_succ, i64_w, i32_w]
       rfl
      refine pure_ (i := 27) (N := some 2) (v := ?_) (a' := ?_) #[true, true, true, true, true, true, true, true, true, true, true, true, true, true, true, true, true, true, true, true, true, true, true, true, true, true, true, true] rfl rfl (any_of HT_.out (by kernel_rfl)) (fun _ _ _ h => h) (Or.inl ⟨by rfl, ?_⟩) ?_ ?_
      rotate_left
      ·intro w'
       go_simp
       with_reducible rfl
      rotate_left
      ·simp only [Act.put, List.setIfInBounds_toArray, List.set_cons_zero, List.set_cons_succ, i64_w, i32_w]
       rfl
      refine done_ (done_of HT_.out (by kernel_rfl)) ?_
      try go_wp2
      go_ret
      exact ⟨by first | rfl | (simp [errW_none, errW_some] <;> rfl) | (simp [*, errW_none, errW_some] <;> rfl), by repeat (first | (with_reducible first | exact HB.out | apply z5 | apply z6 | refine z7 ?_ GE282.out | refine z7 ?_ GE288.out | refine z7 ?_ GE294.out | refine z7 ?_ GE308.out) | exact HB.out)⟩

/-- THE ONE PURE STATEMENT of laws_FnGrown: yours. -/
def laws_FnGrown.Pure : Prop := ∀ (l0 : List Int), l0.length ≤ maxLen → l0.length * 1 ≤ 140737488351232 → (∀ x ∈ l0, (Lit.int .u8 x).wf = true) → ∃ k, laws_FnGrown.f k l0 = some true
theorem laws_FnGrown.walk (P : laws_FnGrown.Pure) (a0 : Option Addr) (len0 cap0 : Nat) (z0 : List Int) (w : World) (w0 : (a0 = none ∧ len0 = 0 ∧ cap0 = 0 ∧ z0 = []) ∨ ∃ x, a0 = some x ∧ len0 ≤ cap0 ∧ cap0 ≤ maxLen ∧ z0.length = cap0 ∧ (∀ i, i < z0.length → w.cell? (x.add i) = some (.int .u8 (z0.getD i 0))) ∧ ∀ n ∈ z0, (Lit.int .u8 n).wf = true) (y0 : len0 * 1 ≤ 140737488351232) :
  Calls Try.prog 12 #[.slice a0 len0 cap0] w fun e w' => e = .returned (.bool true) ∧ Below w.heap.size w w' := by
 obtain ⟨l0, rfl, hr0, hm0, hw0, hc0⟩ := ReadsInt.ofRowC w0
 obtain ⟨k, h⟩ := P l0 hm0 y0 hw0
 refine (laws_FnGrown.calls k _ _ l0 true w (Kd.C_of_reads (d := (0 : Int)) (h1 := fun _ => rfl) hr0) hc0 h).mono ?_
 rintro e w' ⟨rfl, hd⟩
 exact ⟨rfl, hd⟩

end Go.Proofs.Ytheihidfbalioaa.PFnGrown
