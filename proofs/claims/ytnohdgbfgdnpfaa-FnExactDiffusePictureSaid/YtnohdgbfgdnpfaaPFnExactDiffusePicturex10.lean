/- Machine side of laws FnExactDiffusePicture: written for this claim by the kit's print program under this session's wip/tools/mp_setup.py (with contracts of the session's own, wip/ext). -/
import Derived.Test.YtnohdgbfgdnpfaaPFnExactDiffusePicturex0
import Derived.Test.YtnohdgbfgdnpfaaPFnExactDiffusePicturex4
import Derived.Test.YtnohdgbfgdnpfaaPFnExactDiffusePicturex5
import Derived.Test.YtnohdgbfgdnpfaaPFnExactDiffusePicturex9
namespace Go.Proofs.Ytnohdgbfgdnpfaa.PFnExactDiffusePicture
open Go.RowKit Go.Proofs.YtnohdgbfgdnpfaaW.PrintWords Go.Proofs.YtnohdgbfgdnpfaaW.PrintLast Go.Proofs.YtnohdgbfgdnpfaaW.PrintMore
attribute [local go_sem] max2_int min2_int max_two min_two max_three min_three max_four min_four   -- for this text's walks alone
set_option linter.unusedVariables false
set_option linter.unusedSimpArgs false
-- squeezed: words under short names
set_option linter.defProp false in
def z0 := @Aside0.mk
set_option linter.defProp false in
def z1 := @blk_drewN
set_option linter.defProp false in
def z2 := @blk_alloc
set_option linter.defProp false in
def z3 := @blk_drew
set_option linter.defProp false in
def z4 := @below_alloc
set_option linter.defProp false in
def z5 := @pw_below_drewN
set_option linter.defProp false in
def z6 := @below_drew1
set_option linter.defProp false in
def z7 := @below_set
set_option linter.defProp false in
def z8 := @Kd.R_alloc
set_option linter.defProp false in
def z9 := @Kd.R_drewN
set_option linter.defProp false in
def y1 := @Kd.R_drew
set_option linter.defProp false in
def y2 := @Kd.C_alloc
set_option linter.defProp false in
def y3 := @Kd.C_drewN
set_option linter.defProp false in
def y4 := @Kd.C_drew
set_option linter.defProp false in
def y5 := @blk_below
set_option linter.defProp false in
def y6 := @below_step
set_option linter.defProp false in
def y7 := @below_size
set_option linter.defProp false in
def y8 := @Kd.R_elder'
set_option linter.defProp false in
def y9 := @Kd.C_below
set_option linter.defProp false in
def x1 := @Kd.R_far
set_option linter.defProp false in
def x2 := @blk_frozen
set_option linter.defProp false in
def x3 := @blk_cell
set_option linter.defProp false in
def x4 := @Kd.R_below
set_option linter.defProp false in
def x5 := @Kd.R_reads'
set_option linter.defProp false in
def x6 := @Kd.R_mono
set_option linter.defProp false in
def x7 := @Kd.R_types
set_option linter.defProp false in
def x8 := @blk_far
set_option linter.defProp false in
def x9 := @Kd.R_ne
set_option linter.defProp false in
def w1_ := @Kd.R_lower
set_option linter.defProp false in
def w2_ := @Kd.R_base
def bs_ (n m : Nat) : Array Bool := ((List.range n).map fun i => m.testBit i).toArray
theorem s1_ {α : Type} (l : List α) (i : Nat) (a : α) : l.toArray.setIfInBounds i a = (l.set i a).toArray := List.setIfInBounds_toArray l i a
theorem s2_ {α : Type} (a b : α) (l : List α) : (a :: l).set 0 b = b :: l := rfl
theorem s3_ {α : Type} (a b : α) (n : Nat) (l : List α) : (a :: l).set (n + 1) b = a :: l.set n b := rfl

/-! ### laws_FnExactDiffusePicture: function 6 -/
mutual
def laws_FnExactDiffusePicture.j0 : Nat → List (S74) → Bool → Int → Bool → List (S60) → Int → Bool → Bool → Int → Int → List Int → Int → Int → List Int → Int → Int → List Int → Int → Int → List Int → Option (Bool)
 | 0, _, _, _, _, _, _, _, _, _, _, _, _, _, _, _, _, _, _, _, _ => none
 | k + 1, x0, x2, x9, x10, x11, x14, x15, x67, x296000, x296001, x296002, x314000, x314001, x314002, x323000, x323001, x323002, x331000, x331001, x331002 => if x67 = true then (some false) else ((laws_toPartS.f k x0).bind fun t332 => ((laws_eqPartS.f k x11 t332).bind fun t335 => (if t335 = true then ((laws_toPicture.f k x296000 x296001 x296002).bind fun bt336 => ((laws_eqPicture.f k x323000 x323001 x323002 bt336.1 bt336.2.1 bt336.2.2).bind fun t341 => (if t341 = true then ((laws_markPartS.f k x11 1).bind fun bt342 => ((laws_markPicture.f k x323000 x323001 x323002 bt342.1).bind fun bt344 => (if bt344.1 < 0 then (laws_FnExactDiffusePicture.j1 k x0 x2 x9 x10 true x296000 x296001 x296002 x314000 x314001 x314002 x331000 x331001 x331002) else ((laws_eqPicture.f k x331000 x331001 x331002 x314000 x314001 x314002).bind fun t346 => (if t346 = true then (if x14 = x9 then (laws_FnExactDiffusePicture.j1 k x0 x2 x9 x10 (x15 != x10) x296000 x296001 x296002 x314000 x314001 x314002 x331000 x331001 x331002) else (laws_FnExactDiffusePicture.j1 k x0 x2 x9 x10 true x296000 x296001 x296002 x314000 x314001 x314002 x331000 x331001 x331002)) else (laws_FnExactDiffusePicture.j1 k x0 x2 x9 x10 true x296000 x296001 x296002 x314000 x314001 x314002 x331000 x331001 x331002)))))) else (some false)))) else (some false))))
def laws_FnExactDiffusePicture.j1 : Nat → List (S74) → Bool → Int → Bool → Bool → Int → Int → List Int → Int → Int → List Int → Int → Int → List Int → Option (Bool)
 | 0, _, _, _, _, _, _, _, _, _, _, _, _, _, _ => none
 | k + 1, x0, x2, x9, x10, x101, x296000, x296001, x296002, x314000, x314001, x314002, x331000, x331001, x331002 => if x101 = true then (some false) else ((laws_markPicture.f k x331000 x331001 x331002 1).bind fun bt347 => ((laws_heldPicture.f k x331000 x331001 bt347.2 1).bind fun t349 => (if t349 < 0 then (some false) else (if t349 = bt347.1 then ((laws_toPartS.f k x0).bind fun t350 => ((laws_toPicture.f k x296000 x296001 x296002).bind fun bt353 => ((impl_DiffusePicture.f k t350 bt353.1 bt353.2.1 bt353.2.2 x2).bind fun bt358 => ((laws_eqPicture.f k bt358.1 bt358.2.1 bt358.2.2.1 x314000 x314001 x314002).bind fun t366 => (if t366 = true then (if bt358.2.2.2.1 = x9 then (laws_FnExactDiffusePicture.j2 k bt347.1 (bt358.2.2.2.2 != x10) x331000 x331001 bt347.2) else (laws_FnExactDiffusePicture.j2 k bt347.1 true x331000 x331001 bt347.2)) else (laws_FnExactDiffusePicture.j2 k bt347.1 true x331000 x331001 bt347.2)))))) else (some false)))))
def laws_FnExactDiffusePicture.j2 : Nat → Int → Bool → Int → Int → List Int → Option (Bool)
 | 0, _, _, _, _, _ => none
 | k + 1, x17, x136, x331000, x331001, x331002 => if x136 = true then (some false) else ((laws_heldPicture.f k x331000 x331001 x331002 1).bind fun t367 => (if t367 < 0 then (some false) else (if t367 = x17 then (some true) else (some false))))
end
def laws_FnExactDiffusePicture.f (k : Nat) (l0 : List (S74)) (a1_0 : Int) (a1_1 : Int) (l1_2 : List Int) (a2 : Bool) : Option (Bool) := (laws_szPartS.f l0 1048576).bind fun t296 => (if t296 < 0 then (some true) else ((laws_szPicture.f a1_0 a1_1 l1_2 t296).bind fun t297 => (if t297 < 0 then (some true) else ((laws_toPartS.f k l0).bind fun t298 => ((laws_toPicture.f k a1_0 a1_1 l1_2).bind fun bt301 => ((spec_DiffusePicture.f k t298 bt301.1 bt301.2.1 bt301.2.2 a2).bind fun bt306 => ((laws_toPartS.f k l0).bind fun t314 => ((laws_toPicture.f k a1_0 a1_1 l1_2).bind fun bt317 => ((impl_DiffusePicture.f k t314 bt317.1 bt317.2.1 bt317.2.2 a2).bind fun bt323 => ((laws_eqPicture.f k bt323.1 bt323.2.1 bt323.2.2.1 bt306.1 bt306.2.1 bt306.2.2.1).bind fun t331 => (if t331 = true then (if bt323.2.2.2.1 = bt306.2.2.2.1 then (laws_FnExactDiffusePicture.j0 k l0 a2 bt306.2.2.2.1 bt306.2.2.2.2 t314 bt323.2.2.2.1 bt323.2.2.2.2 (bt323.2.2.2.2 != bt306.2.2.2.2) a1_0 a1_1 l1_2 bt306.1 bt306.2.1 bt306.2.2.1 bt317.1 bt317.2.1 bt317.2.2 bt323.1 bt323.2.1 bt323.2.2.1) else (laws_FnExactDiffusePicture.j0 k l0 a2 bt306.2.2.2.1 bt306.2.2.2.2 t314 bt323.2.2.2.1 bt323.2.2.2.2 true a1_0 a1_1 l1_2 bt306.1 bt306.2.1 bt306.2.2.1 bt317.1 bt317.2.1 bt317.2.2 bt323.1 bt323.2.1 bt323.2.2.1)) else (laws_FnExactDiffusePicture.j0 k l0 a2 bt306.2.2.2.1 bt306.2.2.2.2 t314 bt323.2.2.2.1 bt323.2.2.2.2 true a1_0 a1_1 l1_2 bt306.1 bt306.2.1 bt306.2.2.1 bt317.1 bt317.2.1 bt317.2.2 bt323.1 bt323.2.1 bt323.2.2.1))))))))))))
def laws_FnExactDiffusePicture.T8 : Bool × List (List Nat × List Nat) := (true, [([], []), ([0], [0]), ([], []), ([2, 1], [2]), ([], []), ([1, 3, 4, 3], [1, 3, 4]), ([5], [5]), ([6], [6]), ([6], [6]), ([6], [6]), ([], []), ([10, 7, 5, 0, 1, 2, 3, 4, 5, 6, 7, 10], [7, 10]), ([8, 11, 0, 1, 2, 3, 4, 5, 6, 7, 8, 10, 11], [8]), ([9, 12, 0, 1, 2, 3, 4, 5, 6, 7, 8, 9, 10, 11, 12], [9])])
def laws_FnExactDiffusePicture.B8 : List Nat := [0, 1, 0, 7, 0, 31, 63, 127, 127, 127, 0, 1279, 3583, 8191]
theorem laws_FnExactDiffusePicture.tab8 : rtab .any (opsOf Try.f6 8) = laws_FnExactDiffusePicture.T8 := by kernel_rfl
theorem laws_FnExactDiffusePicture.bits8 : waitsOk laws_FnExactDiffusePicture.T8.2 laws_FnExactDiffusePicture.B8 = true := by kernel_rfl
def laws_FnExactDiffusePicture.T31 : Bool × List (List Nat × List Nat) := (true, [([], []), ([0], [0]), ([], []), ([2, 1], [2]), ([], []), ([1, 3, 4, 3], [1, 3, 4]), ([5], [5]), ([6], [6]), ([6], [6]), ([6], [6]), ([], []), ([10, 7, 5, 0, 1, 2, 3, 4, 5, 6, 7, 10], [7, 10]), ([8, 11, 0, 1, 2, 3, 4, 5, 6, 7, 8, 10, 11], [8]), ([9, 12, 0, 1, 2, 3, 4, 5, 6, 7, 8, 9, 10, 11, 12], [9])])
def laws_FnExactDiffusePicture.B31 : List Nat := [0, 1, 0, 7, 0, 31, 63, 127, 127, 127, 0, 1279, 3583, 8191]
theorem laws_FnExactDiffusePicture.tab31 : rtab .any (opsOf Try.f6 31) = laws_FnExactDiffusePicture.T31 := by kernel_rfl
theorem laws_FnExactDiffusePicture.bits31 : waitsOk laws_FnExactDiffusePicture.T31.2 laws_FnExactDiffusePicture.B31 = true := by kernel_rfl
set_option maxHeartbeats 8000000 in
set_option maxRecDepth 100000 in
theorem laws_FnExactDiffusePicture.calls (k : Nat) (A0 : Option Addr) (c0 : Nat) (l0 : List (S74)) (a1_0 : Int) (a1_1 : Int) (A1_2 : Option Addr) (c1_2 : Nat) (l1_2 : List Int) (a2 : Bool) (r : Bool) (w : World) (hr0 : Kd.C k74 w A0 l0.length l0) (hc0 : l0.length ≤ c0) (hr1_2 : Kd.C (Kd.int .i64) w A1_2 l1_2.length l1_2) (hc1_2 : l1_2.length ≤ c1_2) (h : laws_FnExactDiffusePicture.f k l0 a1_0 a1_1 l1_2 a2 = some r) (hr_ : r = true := by rfl) :
  Calls Try.prog 6 #[.slice A0 l0.length c0, .agg #[.int .i64 a1_0, .int .i64 a1_1, .slice A1_2 l1_2.length c1_2], .bool a2] w fun e w' => e = .returned (.bool r) ∧ Below w.heap.size w w' := by
 have HRT_ := z0 hr_
 clear hr_
 have hu44 := Try.underlying44
 have hu31 := Try.underlying31
 have HR0 := z0 hr0
 have HC0 := z0 hc0
 clear hr0 hc0
 have HR1_2 := z0 hr1_2
 have HC1_2 := z0 hc1_2
 clear hr1_2 hc1_2
 have HB := z0 (Below.refl w.heap.size w)
 have H : ((laws_szPartS.f l0 1048576).bind fun t296 => (if t296 < 0 then (some true) else ((laws_szPicture.f a1_0 a1_1 l1_2 t296).bind fun t297 => (if t297 < 0 then (some true) else ((laws_toPartS.f k l0).bind fun t298 => ((laws_toPicture.f k a1_0 a1_1 l1_2).bind fun bt301 => ((spec_DiffusePicture.f k t298 bt301.1 bt301.2.1 bt301.2.2 a2).bind fun bt306 => ((laws_toPartS.f k l0).bind fun t314 => ((laws_toPicture.f k a1_0 a1_1 l1_2).bind fun bt317 => ((impl_DiffusePicture.f k t314 bt317.1 bt317.2.1 bt317.2.2 a2).bind fun bt323 => ((laws_eqPicture.f k bt323.1 bt323.2.1 bt323.2.2.1 bt306.1 bt306.2.1 bt306.2.2.1).bind fun t331 => (if t331 = true then (if bt323.2.2.2.1 = bt306.2.2.2.1 then (laws_FnExactDiffusePicture.j0 k l0 a2 bt306.2.2.2.1 bt306.2.2.2.2 t314 bt323.2.2.2.1 bt323.2.2.2.2 (bt323.2.2.2.2 != bt306.2.2.2.2) a1_0 a1_1 l1_2 bt306.1 bt306.2.1 bt306.2.2.1 bt317.1 bt317.2.1 bt317.2.2 bt323.1 bt323.2.1 bt323.2.2.1) else (laws_FnExactDiffusePicture.j0 k l0 a2 bt306.2.2.2.1 bt306.2.2.2.2 t314 bt323.2.2.2.1 bt323.2.2.2.2 true a1_0 a1_1 l1_2 bt306.1 bt306.2.1 bt306.2.2.1 bt317.1 bt317.2.1 bt317.2.2 bt323.1 bt323.2.1 bt323.2.2.1)) else (laws_FnExactDiffusePicture.j0 k l0 a2 bt306.2.2.2.1 bt306.2.2.2.2 t314 bt323.2.2.2.1 bt323.2.2.2.2 true a1_0 a1_1 l1_2 bt306.1 bt306.2.1 bt306.2.2.1 bt317.1 bt317.2.1 bt317.2.2 bt323.1 bt323.2.1 bt323.2.2.1))))))))))))) = some r := h
 clear h
 replace H := Option.bind_eq_some_iff.mp H
 obtain ⟨t296, A40, H⟩ := H
 replace H : (if t296 < 0 then (some true) else ((laws_szPicture.f a1_0 a1_1 l1_2 t296).bind fun t297 => (if t297 < 0 then (some true) else ((laws_toPartS.f k l0).bind fun t298 => ((laws_toPicture.f k a1_0 a1_1 l1_2).bind fun bt301 => ((spec_DiffusePicture.f k t298 bt301.1 bt301.2.1 bt301.2.2 a2).bind fun bt306 => ((laws_toPartS.f k l0).bind fun t314 => ((laws_toPicture.f k a1_0 a1_1 l1_2).bind fun bt317 => ((impl_DiffusePicture.f k t314 bt317.1 bt317.2.1 bt317.2.2 a2).bind fun bt323 => ((laws_eqPicture.f k bt323.1 bt323.2.1 bt323.2.2.1 bt306.1 bt306.2.1 bt306.2.2.1).bind fun t331 => (if t331 = true then (if bt323.2.2.2.1 = bt306.2.2.2.1 then (laws_FnExactDiffusePicture.j0 k l0 a2 bt306.2.2.2.1 bt306.2.2.2.2 t314 bt323.2.2.2.1 bt323.2.2.2.2 (bt323.2.2.2.2 != bt306.2.2.2.2) a1_0 a1_1 l1_2 bt306.1 bt306.2.1 bt306.2.2.1 bt317.1 bt317.2.1 bt317.2.2 bt323.1 bt323.2.1 bt323.2.2.1) else (laws_FnExactDiffusePicture.j0 k l0 a2 bt306.2.2.2.1 bt306.2.2.2.2 t314 bt323.2.2.2.1 bt323.2.2.2.2 true a1_0 a1_1 l1_2 bt306.1 bt306.2.1 bt306.2.2.1 bt317.1 bt317.2.1 bt317.2.2 bt323.1 bt323.2.1 bt323.2.2.1)) else (laws_FnExactDiffusePicture.j0 k l0 a2 bt306.2.2.2.1 bt306.2.2.2.2 t314 bt323.2.2.2.1 bt323.2.2.2.2 true a1_0 a1_1 l1_2 bt306.1 bt306.2.1 bt306.2.2.1 bt317.1 bt317.2.1 bt317.2.2 bt323.1 bt323.2.1 bt323.2.2.1)))))))))))) = some r := H
 have A4 := z0 A40
 clear A40
 by_cases c5 : t296 < 0
 ·rw [if_pos c5] at H
  have c5b0 : decide (t296 < 0) = true := decide_eq_true c5
  clear c5
  obtain rfl := Option.some.inj H
  go_enter Try.func6, Try.ntmps6
  go_wp2_with (first | ((with_reducible refine gate_dst (N := 4) rfl ?_);refine box_event ?hg (N := 4) ?hd (cs := #[.int .i64 a1_0, .int .i64 a1_1, .slice A1_2 l1_2.length c1_2]) (t := 44) ?hr ?_;(case hd => rfl);(case hg => rfl);(case hr => first | (go_simp;done) | (go_simp;rfl));intro gb295 hg w6 hbox hb;have n0_ := z0 (y6 (by repeat (first | (with_reducible first|exact HB.out|apply z5|apply z6)|exact HB.out)) hb);have n1_ := z0 (hbox);have n2_ := z0 ((by rw [hg];exact (y7 (by repeat (first | (with_reducible first|exact HB.out|apply z5|apply z6)|exact HB.out))) : w.heap.size ≤ gb295));have n3_ := z0 ((by rw [hg];exact (y7 (by repeat (first | (with_reducible first|exact HB.out|apply z5|apply z6)|exact HB.out))) : w.heap.size ≤ gb295));clear HB;have HB := n0_;have BK295 := n1_;have GW295 := n2_;have GE295 := n3_;clear n0_ n1_ n2_ n3_;clear hb hbox hg) | ((with_reducible refine gate_callee (f := 22) rfl ?_);refine goesL_ (some 24) rfl rfl Try.func22 (by kernel_rfl) rfl #[.slice A0 l0.length c0, .int .i64 1048576] rfl (by (try simp only [List.map_toArray, List.map_cons, List.map_nil]);first | done | rfl) ?_;(with_reducible refine (laws_szPartS.calls _ _ l0 1048576 t296 _ ?side1 ?side2 A4.out).mono ?_);(case side1 => repeat (first|exact (y9 HR0.out HB.out) | (with_reducible refine y3 ?_ _) | (with_reducible refine y4 ?_)));(case side2 => exact HC0.out);rintro e w' ⟨rfl, ⟨nd, rfl⟩⟩;refine ⟨_, rfl, ?_⟩))
  go_ret
  exact ⟨by first | rfl | (simp [errW_none, errW_some] <;> rfl) | (simp [*, errW_none, errW_some] <;> rfl), by repeat (first | (with_reducible first|exact HB.out|apply z5|apply z6|refine z7 ?_ GE295.out)|exact HB.out)⟩
 ·rw [if_neg c5] at H
  have c5b0 : decide (t296 < 0) = false := decide_eq_false c5
  clear c5
  replace H := Option.bind_eq_some_iff.mp H
  obtain ⟨t297, A70, H⟩ := H
  replace H : (if t297 < 0 then (some true) else ((laws_toPartS.f k l0).bind fun t298 => ((laws_toPicture.f k a1_0 a1_1 l1_2).bind fun bt301 => ((spec_DiffusePicture.f k t298 bt301.1 bt301.2.1 bt301.2.2 a2).bind fun bt306 => ((laws_toPartS.f k l0).bind fun t314 => ((laws_toPicture.f k a1_0 a1_1 l1_2).bind fun bt317 => ((impl_DiffusePicture.f k t314 bt317.1 bt317.2.1 bt317.2.2 a2).bind fun bt323 => ((laws_eqPicture.f k bt323.1 bt323.2.1 bt323.2.2.1 bt306.1 bt306.2.1 bt306.2.2.1).bind fun t331 => (if t331 = true then (if bt323.2.2.2.1 = bt306.2.2.2.1 then (laws_FnExactDiffusePicture.j0 k l0 a2 bt306.2.2.2.1 bt306.2.2.2.2 t314 bt323.2.2.2.1 bt323.2.2.2.2 (bt323.2.2.2.2 != bt306.2.2.2.2) a1_0 a1_1 l1_2 bt306.1 bt306.2.1 bt306.2.2.1 bt317.1 bt317.2.1 bt317.2.2 bt323.1 bt323.2.1 bt323.2.2.1) else (laws_FnExactDiffusePicture.j0 k l0 a2 bt306.2.2.2.1 bt306.2.2.2.2 t314 bt323.2.2.2.1 bt323.2.2.2.2 true a1_0 a1_1 l1_2 bt306.1 bt306.2.1 bt306.2.2.1 bt317.1 bt317.2.1 bt317.2.2 bt323.1 bt323.2.1 bt323.2.2.1)) else (laws_FnExactDiffusePicture.j0 k l0 a2 bt306.2.2.2.1 bt306.2.2.2.2 t314 bt323.2.2.2.1 bt323.2.2.2.2 true a1_0 a1_1 l1_2 bt306.1 bt306.2.1 bt306.2.2.1 bt317.1 bt317.2.1 bt317.2.2 bt323.1 bt323.2.1 bt323.2.2.1)))))))))) = some r := H
  have A7 := z0 A70
  clear A70
  by_cases c8 : t297 < 0
  ·rw [if_pos c8] at H
   have c8b0 : decide (t297 < 0) = true := decide_eq_true c8
   clear c8
   obtain rfl := Option.some.inj H
   go_enter Try.func6, Try.ntmps6
   go_wp2_with (first | ((with_reducible refine gate_dst (N := 4) rfl ?_);refine box_event ?hg (N := 4) ?hd (cs := #[.int .i64 a1_0, .int .i64 a1_1, .slice A1_2 l1_2.length c1_2]) (t := 44) ?hr ?_;(case hd => rfl);(case hg => rfl);(case hr => first | (go_simp;done) | (go_simp;rfl));intro gb295 hg w9 hbox hb;have n0_ := z0 (y6 (by repeat (first | (with_reducible first|exact HB.out|apply z5|apply z6)|exact HB.out)) hb);have n1_ := z0 (hbox);have n2_ := z0 ((by rw [hg];exact (y7 (by repeat (first | (with_reducible first|exact HB.out|apply z5|apply z6)|exact HB.out))) : w.heap.size ≤ gb295));have n3_ := z0 ((by rw [hg];exact (y7 (by repeat (first | (with_reducible first|exact HB.out|apply z5|apply z6)|exact HB.out))) : w.heap.size ≤ gb295));clear HB;have HB := n0_;have BK295 := n1_;have GW295 := n2_;have GE295 := n3_;clear n0_ n1_ n2_ n3_;clear hb hbox hg) | ((with_reducible refine gate_callee (f := 22) rfl ?_);refine goesL_ (some 24) rfl rfl Try.func22 (by kernel_rfl) rfl #[.slice A0 l0.length c0, .int .i64 1048576] rfl (by (try simp only [List.map_toArray, List.map_cons, List.map_nil]);first | done | rfl) ?_;(with_reducible refine (laws_szPartS.calls _ _ l0 1048576 t296 _ ?side1 ?side2 A4.out).mono ?_);(case side1 => repeat (first|exact (y9 HR0.out HB.out) | (with_reducible refine y3 ?_ _) | (with_reducible refine y4 ?_)));(case side2 => exact HC0.out);rintro e w' ⟨rfl, ⟨nd, rfl⟩⟩;refine ⟨_, rfl, ?_⟩;have hcz10_0 : w9.cell? ⟨gb295, 0, none⟩ = some (.int .i64 a1_0) := (x3 BK295.out 0).trans rfl;have hcz10_1 : w9.cell? ⟨gb295, 1, none⟩ = some (.int .i64 a1_1) := (x3 BK295.out 1).trans rfl;have hcz10_2 : w9.cell? ⟨gb295, 2, none⟩ = some (.slice A1_2 l1_2.length c1_2) := (x3 BK295.out 2).trans rfl;have hfz10_0 := x2 BK295.out 0;have hfz10_1 := x2 BK295.out 1;have hfz10_2 := x2 BK295.out 2) | ((with_reducible refine gate_callee (f := 23) rfl ?_);refine goesL_ (some 29) rfl rfl Try.func23 (by kernel_rfl) rfl #[.agg #[.int .i64 a1_0, .int .i64 a1_1, .slice A1_2 l1_2.length c1_2], .int .i64 t296] rfl (by (try simp only [List.map_toArray, List.map_cons, List.map_nil]);first | done | rfl) ?_;(with_reducible refine (laws_szPicture.calls a1_0 a1_1 _ _ l1_2 t296 t297 _ ?side1 ?side2 A7.out).mono ?_);(case side1 => repeat (first|exact (y9 HR1_2.out (by repeat (first | (with_reducible first|exact HB.out|apply z5|apply z6|refine z7 ?_ GE295.out)|exact HB.out))) | (with_reducible refine y3 ?_ _) | (with_reducible refine y4 ?_)));(case side2 => exact HC1_2.out);rintro e w11 ⟨rfl, hb⟩;refine ⟨_, rfl, ?_⟩;have n0_ := z0 (y5 (g := gb295) (o := .cells #[.int .i64 a1_0, .int .i64 a1_1, .slice A1_2 l1_2.length c1_2] 44 (0, 0)) (by (with_reducible repeat (first|refine z1 ?_ _|refine z3 ?_));exact BK295.out) hb);have n1_ := z0 (y6 (by repeat (first | (with_reducible first|exact HB.out|apply z5|apply z6|refine z7 ?_ GE295.out)|exact HB.out)) hb);clear BK295;clear HB;have BK295 := n0_;have HB := n1_;clear n0_ n1_;(try clear hb)))
   go_ret
   exact ⟨by first | rfl | (simp [errW_none, errW_some] <;> rfl) | (simp [*, errW_none, errW_some] <;> rfl), by repeat (first | (with_reducible first|exact HB.out|apply z5|apply z6|refine z7 ?_ GE295.out)|exact HB.out)⟩
  ·rw [if_neg c8] at H
   have c8b0 : decide (t297 < 0) = false := decide_eq_false c8
   clear c8
   replace H := Option.bind_eq_some_iff.mp H
   obtain ⟨t298, A120, H⟩ := H
   replace H : ((laws_toPicture.f k a1_0 a1_1 l1_2).bind fun bt301 => ((spec_DiffusePicture.f k t298 bt301.1 bt301.2.1 bt301.2.2 a2).bind fun bt306 => ((laws_toPartS.f k l0).bind fun t314 => ((laws_toPicture.f k a1_0 a1_1 l1_2).bind fun bt317 => ((impl_DiffusePicture.f k t314 bt317.1 bt317.2.1 bt317.2.2 a2).bind fun bt323 => ((laws_eqPicture.f k bt323.1 bt323.2.1 bt323.2.2.1 bt306.1 bt306.2.1 bt306.2.2.1).bind fun t331 => (if t331 = true then (if bt323.2.2.2.1 = bt306.2.2.2.1 then (laws_FnExactDiffusePicture.j0 k l0 a2 bt306.2.2.2.1 bt306.2.2.2.2 t314 bt323.2.2.2.1 bt323.2.2.2.2 (bt323.2.2.2.2 != bt306.2.2.2.2) a1_0 a1_1 l1_2 bt306.1 bt306.2.1 bt306.2.2.1 bt317.1 bt317.2.1 bt317.2.2 bt323.1 bt323.2.1 bt323.2.2.1) else (laws_FnExactDiffusePicture.j0 k l0 a2 bt306.2.2.2.1 bt306.2.2.2.2 t314 bt323.2.2.2.1 bt323.2.2.2.2 true a1_0 a1_1 l1_2 bt306.1 bt306.2.1 bt306.2.2.1 bt317.1 bt317.2.1 bt317.2.2 bt323.1 bt323.2.1 bt323.2.2.1)) else (laws_FnExactDiffusePicture.j0 k l0 a2 bt306.2.2.2.1 bt306.2.2.2.2 t314 bt323.2.2.2.1 bt323.2.2.2.2 true a1_0 a1_1 l1_2 bt306.1 bt306.2.1 bt306.2.2.1 bt317.1 bt317.2.1 bt317.2.2 bt323.1 bt323.2.1 bt323.2.2.1)))))))) = some r := H
   have A12 := z0 A120
   clear A120
   replace H := Option.bind_eq_some_iff.mp H
   obtain ⟨⟨t301, t302, t303⟩, A130, H⟩ := H
   replace H : ((spec_DiffusePicture.f k t298 t301 t302 t303 a2).bind fun bt306 => ((laws_toPartS.f k l0).bind fun t314 => ((laws_toPicture.f k a1_0 a1_1 l1_2).bind fun bt317 => ((impl_DiffusePicture.f k t314 bt317.1 bt317.2.1 bt317.2.2 a2).bind fun bt323 => ((laws_eqPicture.f k bt323.1 bt323.2.1 bt323.2.2.1 bt306.1 bt306.2.1 bt306.2.2.1).bind fun t331 => (if t331 = true then (if bt323.2.2.2.1 = bt306.2.2.2.1 then (laws_FnExactDiffusePicture.j0 k l0 a2 bt306.2.2.2.1 bt306.2.2.2.2 t314 bt323.2.2.2.1 bt323.2.2.2.2 (bt323.2.2.2.2 != bt306.2.2.2.2) a1_0 a1_1 l1_2 bt306.1 bt306.2.1 bt306.2.2.1 bt317.1 bt317.2.1 bt317.2.2 bt323.1 bt323.2.1 bt323.2.2.1) else (laws_FnExactDiffusePicture.j0 k l0 a2 bt306.2.2.2.1 bt306.2.2.2.2 t314 bt323.2.2.2.1 bt323.2.2.2.2 true a1_0 a1_1 l1_2 bt306.1 bt306.2.1 bt306.2.2.1 bt317.1 bt317.2.1 bt317.2.2 bt323.1 bt323.2.1 bt323.2.2.1)) else (laws_FnExactDiffusePicture.j0 k l0 a2 bt306.2.2.2.1 bt306.2.2.2.2 t314 bt323.2.2.2.1 bt323.2.2.2.2 true a1_0 a1_1 l1_2 bt306.1 bt306.2.1 bt306.2.2.1 bt317.1 bt317.2.1 bt317.2.2 bt323.1 bt323.2.1 bt323.2.2.1))))))) = some r := H
   have A13 := z0 A130
   clear A130
   replace H := Option.bind_eq_some_iff.mp H
   obtain ⟨⟨t306, t307, t308, t311, t312⟩, A140, H⟩ := H
   replace H : ((laws_toPartS.f k l0).bind fun t314 => ((laws_toPicture.f k a1_0 a1_1 l1_2).bind fun bt317 => ((impl_DiffusePicture.f k t314 bt317.1 bt317.2.1 bt317.2.2 a2).bind fun bt323 => ((laws_eqPicture.f k bt323.1 bt323.2.1 bt323.2.2.1 t306 t307 t308).bind fun t331 => (if t331 = true then (if bt323.2.2.2.1 = t311 then (laws_FnExactDiffusePicture.j0 k l0 a2 t311 t312 t314 bt323.2.2.2.1 bt323.2.2.2.2 (bt323.2.2.2.2 != t312) a1_0 a1_1 l1_2 t306 t307 t308 bt317.1 bt317.2.1 bt317.2.2 bt323.1 bt323.2.1 bt323.2.2.1) else (laws_FnExactDiffusePicture.j0 k l0 a2 t311 t312 t314 bt323.2.2.2.1 bt323.2.2.2.2 true a1_0 a1_1 l1_2 t306 t307 t308 bt317.1 bt317.2.1 bt317.2.2 bt323.1 bt323.2.1 bt323.2.2.1)) else (laws_FnExactDiffusePicture.j0 k l0 a2 t311 t312 t314 bt323.2.2.2.1 bt323.2.2.2.2 true a1_0 a1_1 l1_2 t306 t307 t308 bt317.1 bt317.2.1 bt317.2.2 bt323.1 bt323.2.1 bt323.2.2.1)))))) = some r := H
   have A14 := z0 A140
   clear A140
   replace H := Option.bind_eq_some_iff.mp H
   obtain ⟨t314, A150, H⟩ := H
   replace H : ((laws_toPicture.f k a1_0 a1_1 l1_2).bind fun bt317 => ((impl_DiffusePicture.f k t314 bt317.1 bt317.2.1 bt317.2.2 a2).bind fun bt323 => ((laws_eqPicture.f k bt323.1 bt323.2.1 bt323.2.2.1 t306 t307 t308).bind fun t331 => (if t331 = true then (if bt323.2.2.2.1 = t311 then (laws_FnExactDiffusePicture.j0 k l0 a2 t311 t312 t314 bt323.2.2.2.1 bt323.2.2.2.2 (bt323.2.2.2.2 != t312) a1_0 a1_1 l1_2 t306 t307 t308 bt317.1 bt317.2.1 bt317.2.2 bt323.1 bt323.2.1 bt323.2.2.1) else (laws_FnExactDiffusePicture.j0 k l0 a2 t311 t312 t314 bt323.2.2.2.1 bt323.2.2.2.2 true a1_0 a1_1 l1_2 t306 t307 t308 bt317.1 bt317.2.1 bt317.2.2 bt323.1 bt323.2.1 bt323.2.2.1)) else (laws_FnExactDiffusePicture.j0 k l0 a2 t311 t312 t314 bt323.2.2.2.1 bt323.2.2.2.2 true a1_0 a1_1 l1_2 t306 t307 t308 bt317.1 bt317.2.1 bt317.2.2 bt323.1 bt323.2.1 bt323.2.2.1))))) = some r := H
   have A15 := z0 A150
   clear A150
   replace H := Option.bind_eq_some_iff.mp H
   obtain ⟨⟨t317, t318, t319⟩, A160, H⟩ := H
   replace H : ((impl_DiffusePicture.f k t314 t317 t318 t319 a2).bind fun bt323 => ((laws_eqPicture.f k bt323.1 bt323.2.1 bt323.2.2.1 t306 t307 t308).bind fun t331 => (if t331 = true then (if bt323.2.2.2.1 = t311 then (laws_FnExactDiffusePicture.j0 k l0 a2 t311 t312 t314 bt323.2.2.2.1 bt323.2.2.2.2 (bt323.2.2.2.2 != t312) a1_0 a1_1 l1_2 t306 t307 t308 t317 t318 t319 bt323.1 bt323.2.1 bt323.2.2.1) else (laws_FnExactDiffusePicture.j0 k l0 a2 t311 t312 t314 bt323.2.2.2.1 bt323.2.2.2.2 true a1_0 a1_1 l1_2 t306 t307 t308 t317 t318 t319 bt323.1 bt323.2.1 bt323.2.2.1)) else (laws_FnExactDiffusePicture.j0 k l0 a2 t311 t312 t314 bt323.2.2.2.1 bt323.2.2.2.2 true a1_0 a1_1 l1_2 t306 t307 t308 t317 t318 t319 bt323.1 bt323.2.1 bt323.2.2.1)))) = some r := H
   have A16 := z0 A160
   clear A160
   replace H := Option.bind_eq_some_iff.mp H
   obtain ⟨⟨t323, t324, t325, t328, t329⟩, A170, H⟩ := H
   replace H : ((laws_eqPicture.f k t323 t324 t325 t306 t307 t308).bind fun t331 => (if t331 = true then (if t328 = t311 then (laws_FnExactDiffusePicture.j0 k l0 a2 t311 t312 t314 t328 t329 (t329 != t312) a1_0 a1_1 l1_2 t306 t307 t308 t317 t318 t319 t323 t324 t325) else (laws_FnExactDiffusePicture.j0 k l0 a2 t311 t312 t314 t328 t329 true a1_0 a1_1 l1_2 t306 t307 t308 t317 t318 t319 t323 t324 t325)) else (laws_FnExactDiffusePicture.j0 k l0 a2 t311 t312 t314 t328 t329 true a1_0 a1_1 l1_2 t306 t307 t308 t317 t318 t319 t323 t324 t325))) = some r := H
   have A17 := z0 A170
   clear A170
   have HC18 := z0 H
   clear H
   go_enter Try.func6, Try.ntmps6
   try go_wp2_with (first | ((with_reducible refine gate_dst (N := 4) rfl ?_);refine box_event ?hg (N := 4) ?hd (cs := #[.int .i64 a1_0, .int .i64 a1_1, .slice A1_2 l1_2.length c1_2]) (t := 44) ?hr ?_;(case hd => rfl);(case hg => rfl);(case hr => first | (go_simp;done) | (go_simp;rfl));intro gb295 hg w19 hbox hb;have n0_ := z0 (y6 (by repeat (first | (with_reducible first|exact HB.out|apply z5|apply z6)|exact HB.out)) hb);have n1_ := z0 (hbox);have n2_ := z0 ((by rw [hg];exact (y7 (by repeat (first | (with_reducible first|exact HB.out|apply z5|apply z6)|exact HB.out))) : w.heap.size ≤ gb295));have n3_ := z0 ((by rw [hg];exact (y7 (by repeat (first | (with_reducible first|exact HB.out|apply z5|apply z6)|exact HB.out))) : w.heap.size ≤ gb295));clear HB;have HB := n0_;have BK295 := n1_;have GW295 := n2_;have GE295 := n3_;clear n0_ n1_ n2_ n3_;clear hb hbox hg) | ((with_reducible refine gate_callee (f := 22) rfl ?_);refine goesL_ (some 24) rfl rfl Try.func22 (by kernel_rfl) rfl #[.slice A0 l0.length c0, .int .i64 1048576] rfl (by (try simp only [List.map_toArray, List.map_cons, List.map_nil]);first | done | rfl) ?_;(with_reducible refine (laws_szPartS.calls _ _ l0 1048576 t296 _ ?side1 ?side2 A4.out).mono ?_);(case side1 => repeat (first|exact (y9 HR0.out HB.out) | (with_reducible refine y3 ?_ _) | (with_reducible refine y4 ?_)));(case side2 => exact HC0.out);rintro e w' ⟨rfl, ⟨nd, rfl⟩⟩;refine ⟨_, rfl, ?_⟩;(try (rw [drewN_self w19];generalize hq_ : World.drewN w19 _ = w19;have n0_ : Aside0 (w19.heap[gb295]? = some (.cells #[.int .i64 a1_0, .int .i64 a1_1, .slice A1_2 l1_2.length c1_2] 44 (0, 0))) := ⟨by rw [← hq_];exact (by (with_reducible repeat (first|refine z1 ?_ _|refine z3 ?_));exact BK295.out)⟩;have n1_ : Aside0 (Below w.heap.size w w19) := ⟨by rw [← hq_];exact (by repeat (first | (with_reducible first|exact HB.out|apply z5|apply z6|refine z7 ?_ GE295.out)|exact HB.out))⟩;clear BK295 HB hq_;have BK295 := n0_;have HB := n1_;clear n0_ n1_));have hcz20_0 : w19.cell? ⟨gb295, 0, none⟩ = some (.int .i64 a1_0) := (x3 BK295.out 0).trans rfl;have hcz20_1 : w19.cell? ⟨gb295, 1, none⟩ = some (.int .i64 a1_1) := (x3 BK295.out 1).trans rfl;have hcz20_2 : w19.cell? ⟨gb295, 2, none⟩ = some (.slice A1_2 l1_2.length c1_2) := (x3 BK295.out 2).trans rfl;have hfz20_0 := x2 BK295.out 0;have hfz20_1 := x2 BK295.out 1;have hfz20_2 := x2 BK295.out 2) | ((with_reducible refine gate_callee (f := 23) rfl ?_);refine goesL_ (some 29) rfl rfl Try.func23 (by kernel_rfl) rfl #[.agg #[.int .i64 a1_0, .int .i64 a1_1, .slice A1_2 l1_2.length c1_2], .int .i64 t296] rfl (by (try simp only [List.map_toArray, List.map_cons, List.map_nil]);first | done | rfl) ?_;(with_reducible refine (laws_szPicture.calls a1_0 a1_1 _ _ l1_2 t296 t297 _ ?side1 ?side2 A7.out).mono ?_);(case side1 => repeat (first|exact HR1_2.out|exact (y9 HR1_2.out HB.out) | (with_reducible refine y3 ?_ _) | (with_reducible refine y4 ?_)));(case side2 => exact HC1_2.out);rintro e w21 ⟨rfl, hb⟩;refine ⟨_, rfl, ?_⟩;have n0_ := z0 (y5 (g := gb295) (o := .cells #[.int .i64 a1_0, .int .i64 a1_1, .slice A1_2 l1_2.length c1_2] 44 (0, 0)) (by (with_reducible repeat (first|refine z1 ?_ _|refine z3 ?_));exact BK295.out) hb);have n1_ := z0 (y6 (by repeat (first | (with_reducible first|exact HB.out|apply z5|apply z6|refine z7 ?_ GE295.out)|exact HB.out)) hb);clear BK295;clear HB;have BK295 := n0_;have HB := n1_;clear n0_ n1_;(try clear hb)))
   have n0_ := z0 (z3 BK295.out)
   have n1_ := z0 (z6 HB.out)
   clear BK295
   clear HB
   have BK295 := n0_
   have HB := n1_
   clear n0_ n1_
   refine start_ (n := 14) (S := fun w' => w'.cell? ⟨gb295, 0, none⟩ = some (.int .i64 a1_0) ∧ w'.cell? ⟨gb295, 1, none⟩ = some (.int .i64 a1_1) ∧ w'.cell? ⟨gb295, 2, none⟩ = some (.slice A1_2 l1_2.length c1_2)) (ds := []) (bs_ 14 0) (by kernel_rfl) rfl rfl ⟨(x3 BK295.out 0).trans rfl, (x3 BK295.out 1).trans rfl, (x3 BK295.out 2).trans rfl⟩ (fun hHeld => ?_);refine with_tabW laws_FnExactDiffusePicture.tab8 laws_FnExactDiffusePicture.bits8 (fun HT_ HW_ => ?_)
   generalize w21.drew = w22 at BK295 HB hHeld ⊢
   refine pure_ (i := 0) (N := some 33) (v := ?_) (a' := ?_) (bs_ 14 1) rfl rfl (any_of HT_.out (by kernel_rfl)) (fun _ _ _ h => h) (Or.inl ⟨by rfl, ?_⟩) ?_ ?_
   rotate_left
   ·intro w'
    go_simp
    with_reducible rfl
   rotate_left
   ·simp only [Act.put, s1_, s2_, s3_, i64_w, i32_w]
    rfl
   refine pure_ (i := 4) (N := some 37) (v := ?_) (a' := ?_) (bs_ 14 17) rfl rfl (any_of HT_.out (by kernel_rfl)) (fun _ _ _ h => h) (Or.inl ⟨by rfl, ?_⟩) ?_ ?_
   rotate_left
   ·intro w'
    go_simp
    with_reducible rfl
   rotate_left
   ·simp only [Act.put, s1_, s2_, s3_, i64_w, i32_w]
    rfl
   refine take_ (i := 2) (N := some 35) (v := ?_) (a' := ?_) (bs_ 14 21) rfl rfl (take_ofW HT_.out HW_.out (by kernel_rfl)) (fun _ _ _ h => h) (Or.inl ⟨by rfl, ?_⟩) hHeld ?_ ?_
   rotate_left
   ·rintro w' ⟨s0, s1, s2⟩
    go_simp
    with_reducible rfl
   rotate_left
   ·simp only [Act.put, s1_, s2_, s3_, i64_w, i32_w]
    rfl
   refine join_ (σ := Value × Value × Value × Nat) 3 (bs_ 14 2047) (fun s_ => [(34, s_.1), (36, .agg #[.int .i64 t301, .int .i64 t302, s_.2.1]), (38, .tuple #[.agg #[.int .i64 t306, .int .i64 t307, s_.2.2.1], .int .i64 t311, .bool t312]), (8, .pointer (some ⟨s_.2.2.2, 0, none⟩)), (32, .tuple #[.agg #[.int .i64 t306, .int .i64 t307, s_.2.2.1], .int .i64 t311, .bool t312]), (39, .agg #[.int .i64 t306, .int .i64 t307, s_.2.2.1]), (40, .int .i64 t311), (41, .bool t312)]) (fun s_ w' => (w'.cell? ⟨gb295, 0, none⟩ = some (.int .i64 a1_0) ∧ w'.cell? ⟨gb295, 1, none⟩ = some (.int .i64 a1_1) ∧ w'.cell? ⟨gb295, 2, none⟩ = some (.slice A1_2 l1_2.length c1_2)) ∧ (Kd.R k60 60 w' w.heap.size (fun _ => True) s_.1 t298) ∧ (Kd.R (Kd.int .i64) 3 w' w.heap.size (fun k_ => some k_ ≠ (s_.2.2.1 : Value).ownBlock) s_.2.1 t303) ∧ (Kd.R (Kd.int .i64) 3 w' w.heap.size (fun k_ => some k_ ≠ (s_.2.1 : Value).ownBlock) s_.2.2.1 t308) ∧ (w'.heap[gb295]? = some (.cells #[.int .i64 a1_0, .int .i64 a1_1, .slice A1_2 l1_2.length c1_2] 44 (0, 0))) ∧ (w'.heap[s_.2.2.2]? = some (.cells #[.int .i64 0, .int .i64 0, .slice none 0 0] 31 (0, 0))) ∧ (w.heap.size ≤ s_.2.2.2) ∧ (w.heap.size ≤ s_.2.2.2) ∧ (gb295 ≠ s_.2.2.2) ∧ (s_.2.2.2 ≠ gb295) ∧ (Below w.heap.size w w')) ?_ ?_
   rotate_left
   ·intro hCont
    refine two_ (i := 1) (j := 10) (Ni := some 34) (Nj := some 8) (bs_ 14 23) (bs_ 14 1045) rfl rfl rfl rfl (two_of HT_.out (by kernel_rfl)) (by decide) (by decide) (fun K hK => ?_) (fun K hK => ?_)
    ·skip
     refine goes_ Try.func25 (by kernel_rfl) rfl #[.slice A0 l0.length c0] (by rfl) rfl rfl (by (try simp only [List.map_toArray, List.map_cons, List.map_nil]);first | done | rfl) ?_
     with_reducible refine (laws_toPartS.calls k _ _ l0 t298 _ ?side1 ?side2 A12.out).mono ?_
     (case side1 => repeat (first|exact (y9 HR0.out HB.out) | (with_reducible refine y3 ?_ _) | (with_reducible refine y4 ?_)))
     (case side2 => exact HC0.out)
     rintro e w23 ⟨v299, rfl, ho0, hb⟩
     refine ⟨_, rfl, ?_⟩
     have n0_ := z0 (w1_ ho0 (y7 (by repeat (first | (with_reducible first|exact HB.out|apply z5|apply z6|refine z7 ?_ GE295.out)|exact HB.out))))
     have n1_ := z0 (y5 (g := gb295) (o := .cells #[.int .i64 a1_0, .int .i64 a1_1, .slice A1_2 l1_2.length c1_2] 44 (0, 0)) (by (with_reducible repeat (first|refine z1 ?_ _|refine z3 ?_));exact BK295.out) hb)
     have n2_ := z0 (y6 (by repeat (first | (with_reducible first|exact HB.out|apply z5|apply z6|refine z7 ?_ GE295.out)|exact HB.out)) hb)
     clear BK295
     clear HB
     have HO300 := n0_
     have BK295 := n1_
     have HB := n2_
     clear n0_ n1_ n2_
     (try clear hb)
     (try clear hb2)
     (try clear hk)
     (try clear hi)
     (try clear ho0)
     refine hK.out _ _ ⟨(x3 BK295.out 0).trans rfl, (x3 BK295.out 1).trans rfl, (x3 BK295.out 2).trans rfl⟩ (fun hHeld => ?_)
     clear hK K
     refine norm_ (a' := ?_) ?_ ?_
     rotate_left
     ·show Act.put _ (some 34) _ = _
      simp only [Act.put, s1_, s2_, s3_, i64_w, i32_w]
      rfl
     refine two_ (i := 3) (j := 10) (Ni := some 36) (Nj := some 8) (bs_ 14 31) (bs_ 14 1047) rfl rfl rfl rfl (two_of HT_.out (by kernel_rfl)) (by decide) (by decide) (fun K hK => ?_) (fun K hK => ?_)
     ·skip
      refine goes_ Try.func26 (by kernel_rfl) rfl #[.agg #[.int .i64 a1_0, .int .i64 a1_1, .slice A1_2 l1_2.length c1_2]] (by rfl) rfl rfl (by (try simp only [List.map_toArray, List.map_cons, List.map_nil]);first | done | rfl) ?_
      with_reducible refine (laws_toPicture.calls k a1_0 a1_1 _ _ l1_2 t301 t302 t303 _ ?side1 ?side2 A13.out).mono ?_
      (case side1 => repeat (first|exact HR1_2.out|exact (y9 HR1_2.out HB.out) | (with_reducible refine y3 ?_ _) | (with_reducible refine y4 ?_)))
      (case side2 => exact HC1_2.out)
      rintro e w24 ⟨v304, rfl, ho0, hb⟩
      refine ⟨_, rfl, ?_⟩
      have n0_ := z0 (x4 (by (with_reducible repeat (first|apply z9|apply y1));exact HO300.out) hb)
      have n1_ := z0 (w1_ ho0 (y7 (by repeat (first | (with_reducible first|exact HB.out|apply z5|apply z6|refine z7 ?_ GE295.out)|exact HB.out))))
      have n2_ := z0 (y5 (g := gb295) (o := .cells #[.int .i64 a1_0, .int .i64 a1_1, .slice A1_2 l1_2.length c1_2] 44 (0, 0)) (by (with_reducible repeat (first|refine z1 ?_ _|refine z3 ?_));exact BK295.out) hb)
      have n3_ := z0 (y6 (by repeat (first | (with_reducible first|exact HB.out|apply z5|apply z6|refine z7 ?_ GE295.out)|exact HB.out)) hb)
      clear HO300
      clear BK295
      clear HB
      have HO300 := n0_
      have HO305 := n1_
      have BK295 := n2_
      have HB := n3_
      clear n0_ n1_ n2_ n3_
      (try clear hb)
      (try clear hb2)
      (try clear hk)
      (try clear hi)
      (try clear ho0)
      obtain ⟨Ao25, co25, eo25⟩ := Kd.R_slice HO300.out
      (first | subst eo25 | (injection eo25 with f1_ f2_ f3_;have f4_ := f1_.symm;have f5_ := f3_.symm;clear f1_ f2_ f3_;subst f4_;subst f5_))
      obtain ⟨Ao26, co26, eo26⟩ := Kd.R_slice HO305.out
      (first | subst eo26 | (injection eo26 with f1_ f2_ f3_;have f4_ := f1_.symm;have f5_ := f3_.symm;clear f1_ f2_ f3_;subst f4_;subst f5_))
      refine hK.out _ _ ⟨(x3 BK295.out 0).trans rfl, (x3 BK295.out 1).trans rfl, (x3 BK295.out 2).trans rfl⟩ (fun hHeld => ?_)
      clear hK K
      refine norm_ (a' := ?_) ?_ ?_
      rotate_left
      ·show Act.put _ (some 36) _ = _
       simp only [Act.put, s1_, s2_, s3_, i64_w, i32_w]
       rfl
      refine two_ (i := 5) (j := 10) (Ni := some 38) (Nj := some 8) (bs_ 14 63) (bs_ 14 1055) rfl rfl rfl rfl (two_of HT_.out (by kernel_rfl)) (by decide) (by decide) (fun K hK => ?_) (fun K hK => ?_)
      ·skip
       refine goes_ Try.func35 (by kernel_rfl) rfl #[.slice Ao25 t298.length co25, .agg #[.int .i64 t301, .int .i64 t302, .slice Ao26 t303.length co26], .bool a2] (by rfl) rfl rfl (by (try simp only [List.map_toArray, List.map_cons, List.map_nil]);first | done | rfl) ?_
       with_reducible refine (spec_DiffusePicture.calls k _ _ t298 t301 t302 _ _ t303 a2 t306 t307 t308 t311 t312 _ ?side1 ?side2 ?side3 ?side4 A14.out).mono ?_
       (case side1 => repeat (first|exact (x5 HO300.out).2.2 | (with_reducible refine y3 ?_ _) | (with_reducible refine y4 ?_)))
       (case side2 => exact (x5 HO300.out).2.1)
       (case side3 => repeat (first|exact (x5 HO305.out).2.2 | (with_reducible refine y3 ?_ _) | (with_reducible refine y4 ?_)))
       (case side4 => exact (x5 HO305.out).2.1)
       rintro e w27 ⟨v309, rfl, ho0, hb⟩
       refine ⟨_, rfl, ?_⟩
       have n0_ := z0 (x4 (by (with_reducible repeat (first|apply z9|apply y1));exact HO300.out) hb)
       have n1_ := z0 (y8 (by (with_reducible repeat (first|apply z9|apply y1));exact HO305.out) (w2_ ho0) hb)
       have n2_ := z0 (w1_ (Kd.R_new' ho0 (Kd.R_lt (by (with_reducible repeat (first|apply z9|apply y1));exact HO305.out))) (y7 (by repeat (first | (with_reducible first|exact HB.out|apply z5|apply z6|refine z7 ?_ GE295.out)|exact HB.out))))
       have n3_ := z0 (y5 (g := gb295) (o := .cells #[.int .i64 a1_0, .int .i64 a1_1, .slice A1_2 l1_2.length c1_2] 44 (0, 0)) (by (with_reducible repeat (first|refine z1 ?_ _|refine z3 ?_));exact BK295.out) hb)
       have n4_ := z0 (y6 (by repeat (first | (with_reducible first|exact HB.out|apply z5|apply z6|refine z7 ?_ GE295.out)|exact HB.out)) hb)
       clear HO300
       clear HO305
       clear BK295
       clear HB
       have HO300 := n0_
       have HO305 := n1_
       have HO310 := n2_
       have BK295 := n3_
       have HB := n4_
       clear n0_ n1_ n2_ n3_ n4_
       (try clear hb)
       (try clear hb2)
       (try clear hk)
       (try clear hi)
       (try clear ho0)
       refine hK.out _ _ ⟨(x3 BK295.out 0).trans rfl, (x3 BK295.out 1).trans rfl, (x3 BK295.out 2).trans rfl⟩ (fun hHeld => ?_)
       clear hK K
       refine norm_ (a' := ?_) ?_ ?_
       rotate_left
       ·show Act.put _ (some 38) _ = _
        simp only [Act.put, s1_, s2_, s3_, i64_w, i32_w]
        rfl
       refine pure_ (i := 6) (N := some 32) (v := ?_) (a' := ?_) (bs_ 14 127) rfl rfl (any_of HT_.out (by kernel_rfl)) (fun _ _ _ h => h) (Or.inl ⟨by rfl, ?_⟩) ?_ ?_
       rotate_left
       ·intro w'
        go_simp
        with_reducible rfl
       rotate_left
       ·simp only [Act.put, s1_, s2_, s3_, i64_w, i32_w]
        rfl
       refine pure_ (i := 7) (N := some 39) (v := ?_) (a' := ?_) (bs_ 14 255) rfl rfl (any_of HT_.out (by kernel_rfl)) (fun _ _ _ h => h) (Or.inl ⟨by rfl, ?_⟩) ?_ ?_
       rotate_left
       ·intro w'
        go_simp
        with_reducible rfl
       rotate_left
       ·simp only [Act.put, s1_, s2_, s3_, i64_w, i32_w]
        rfl
       refine pure_ (i := 8) (N := some 40) (v := ?_) (a' := ?_) (bs_ 14 511) rfl rfl (any_of HT_.out (by kernel_rfl)) (fun _ _ _ h => h) (Or.inl ⟨by rfl, ?_⟩) ?_ ?_
       rotate_left
       ·intro w'
        go_simp
        with_reducible rfl
       rotate_left
       ·simp only [Act.put, s1_, s2_, s3_, i64_w, i32_w]
        rfl
       refine pure_ (i := 9) (N := some 41) (v := ?_) (a' := ?_) (bs_ 14 1023) rfl rfl (any_of HT_.out (by kernel_rfl)) (fun _ _ _ h => h) (Or.inl ⟨by rfl, ?_⟩) ?_ ?_
       rotate_left
       ·intro w'
        go_simp
        with_reducible rfl
       rotate_left
       ·simp only [Act.put, s1_, s2_, s3_, i64_w, i32_w]
        rfl
       refine one_ (i := 10) (N := some 8) (bs_ 14 2047) rfl rfl (one_of HT_.out (by kernel_rfl)) (by decide) (fun K hK => ?_)
       refine box_step ?hg (N := 8) ?hd (cs := #[.int .i64 0, .int .i64 0, .slice none 0 0]) (t := 31) ?hr ?_;(case hd => rfl);(case hg => rfl);(case hr => first | (go_simp;done) | (go_simp;rfl))
       intro gb313 hg w28 hbox hb
       have n0_ := z0 (x4 (by (with_reducible repeat (first|apply z9|apply y1));exact HO300.out) hb)
       have n1_ := z0 (x4 (by (with_reducible repeat (first|apply z9|apply y1));exact HO305.out) hb)
       have n2_ := z0 (x4 (by (with_reducible repeat (first|apply z9|apply y1));exact HO310.out) hb)
       have n3_ := z0 (y5 (g := gb295) (o := .cells #[.int .i64 a1_0, .int .i64 a1_1, .slice A1_2 l1_2.length c1_2] 44 (0, 0)) (by (with_reducible repeat (first|refine z1 ?_ _|refine z3 ?_));exact BK295.out) hb)
       have n4_ := z0 (y6 (by repeat (first | (with_reducible first|exact HB.out|apply z5|apply z6|refine z7 ?_ GE295.out)|exact HB.out)) hb)
       have n5_ := z0 (hbox)
       have n6_ := z0 ((by rw [hg];exact (y7 (by repeat (first | (with_reducible first|exact HB.out|apply z5|apply z6|refine z7 ?_ GE295.out)|exact HB.out))) : w.heap.size ≤ gb313))
       have n7_ := z0 ((by rw [hg];exact (y7 (by repeat (first | (with_reducible first|exact HB.out|apply z5|apply z6|refine z7 ?_ GE295.out)|exact HB.out))) : w.heap.size ≤ gb313))
       have n8_ := z0 ((by rw [hg];exact Nat.ne_of_lt (blk_lt (g := gb295) (o := .cells #[.int .i64 a1_0, .int .i64 a1_1, .slice A1_2 l1_2.length c1_2] 44 (0, 0)) (by (with_reducible repeat (first|refine z1 ?_ _|refine z3 ?_));exact BK295.out)) : gb295 ≠ gb313))
       have n9_ := z0 ((by rw [hg];exact Nat.ne_of_gt (blk_lt (g := gb295) (o := .cells #[.int .i64 a1_0, .int .i64 a1_1, .slice A1_2 l1_2.length c1_2] 44 (0, 0)) (by (with_reducible repeat (first|refine z1 ?_ _|refine z3 ?_));exact BK295.out)) : gb313 ≠ gb295))
       clear HO300
       clear HO305
       clear HO310
       clear BK295
       clear HB
       have HO300 := n0_
       have HO305 := n1_
       have HO310 := n2_
       have BK295 := n3_
       have HB := n4_
       have BK313 := n5_
       have GW313 := n6_
       have GE313 := n7_
       have NB295_313 := n8_
       have NB313_295 := n9_
       clear n0_ n1_ n2_ n3_ n4_ n5_ n6_ n7_ n8_ n9_
       clear hb hbox hg
       refine hK.out _ _ ⟨(x3 BK295.out 0).trans rfl, (x3 BK295.out 1).trans rfl, (x3 BK295.out 2).trans rfl⟩ (fun hHeld => ?_)
       clear hK K
       refine norm_ (a' := ?_) ?_ ?_
       rotate_left
       ·show Act.put _ (some 8) _ = _
        simp only [Act.put, s1_, s2_, s3_, i64_w, i32_w]
        rfl
       exact norm_ (by simp only [putAll, Act.put, s1_, s2_, s3_]) (hCont (.slice Ao25 t298.length co25, .slice Ao26 t303.length co26, v309, gb313) _ ⟨hHeld, (by (with_reducible repeat (first|apply z9|apply y1));exact HO300.out), (by (with_reducible repeat (first|apply z9|apply y1));exact x6 HO305.out (fun _ hk => hk.2)), (by (with_reducible repeat (first|apply z9|apply y1));exact x6 HO310.out (fun _ hk => hk.2)), (by (with_reducible repeat (first|refine z1 ?_ _|refine z3 ?_));exact BK295.out), (by (with_reducible repeat (first|refine z1 ?_ _|refine z3 ?_));exact BK313.out), GW313.out, GE313.out, NB295_313.out, NB313_295.out, (by repeat (first | (with_reducible first|exact HB.out|apply z5|apply z6|refine z7 ?_ GE295.out|refine z7 ?_ GE313.out)|exact HB.out))⟩)
      ·skip
       refine box_step ?hg (N := 8) ?hd (cs := #[.int .i64 0, .int .i64 0, .slice none 0 0]) (t := 31) ?hr ?_;(case hd => rfl);(case hg => rfl);(case hr => first | (go_simp;done) | (go_simp;rfl))
       intro gb313 hg w25 hbox hb
       have n0_ := z0 (x4 (by (with_reducible repeat (first|apply z9|apply y1));exact HO300.out) hb)
       have n1_ := z0 (x4 (by (with_reducible repeat (first|apply z9|apply y1));exact HO305.out) hb)
       have n2_ := z0 (y5 (g := gb295) (o := .cells #[.int .i64 a1_0, .int .i64 a1_1, .slice A1_2 l1_2.length c1_2] 44 (0, 0)) (by (with_reducible repeat (first|refine z1 ?_ _|refine z3 ?_));exact BK295.out) hb)
       have n3_ := z0 (y6 (by repeat (first | (with_reducible first|exact HB.out|apply z5|apply z6|refine z7 ?_ GE295.out)|exact HB.out)) hb)
       have n4_ := z0 (hbox)
       have n5_ := z0 ((by rw [hg];exact (y7 (by repeat (first | (with_reducible first|exact HB.out|apply z5|apply z6|refine z7 ?_ GE295.out)|exact HB.out))) : w.heap.size ≤ gb313))
       have n6_ := z0 ((by rw [hg];exact (y7 (by repeat (first | (with_reducible first|exact HB.out|apply z5|apply z6|refine z7 ?_ GE295.out)|exact HB.out))) : w.heap.size ≤ gb313))
       have n7_ := z0 ((by rw [hg];exact Nat.ne_of_lt (blk_lt (g := gb295) (o := .cells #[.int .i64 a1_0, .int .i64 a1_1, .slice A1_2 l1_2.length c1_2] 44 (0, 0)) (by (with_reducible repeat (first|refine z1 ?_ _|refine z3 ?_));exact BK295.out)) : gb295 ≠ gb313))
       have n8_ := z0 ((by rw [hg];exact Nat.ne_of_gt (blk_lt (g := gb295) (o := .cells #[.int .i64 a1_0, .int .i64 a1_1, .slice A1_2 l1_2.length c1_2] 44 (0, 0)) (by (with_reducible repeat (first|refine z1 ?_ _|refine z3 ?_));exact BK295.out)) : gb313 ≠ gb295))
       clear HO300
       clear HO305
       clear BK295
       clear HB
       have HO300 := n0_
       have HO305 := n1_
       have BK295 := n2_
       have HB := n3_
       have BK313 := n4_
       have GW313 := n5_
       have GE313 := n6_
       have NB295_313 := n7_
       have NB313_295 := n8_
       clear n0_ n1_ n2_ n3_ n4_ n5_ n6_ n7_ n8_
       clear hb hbox hg
       obtain ⟨Ao26, co26, eo26⟩ := Kd.R_slice HO300.out
       (first | subst eo26 | (injection eo26 with f1_ f2_ f3_;have f4_ := f1_.symm;have f5_ := f3_.symm;clear f1_ f2_ f3_;subst f4_;subst f5_))
       obtain ⟨Ao27, co27, eo27⟩ := Kd.R_slice HO305.out
       (first | subst eo27 | (injection eo27 with f1_ f2_ f3_;have f4_ := f1_.symm;have f5_ := f3_.symm;clear f1_ f2_ f3_;subst f4_;subst f5_))
       refine hK.out _ _ ⟨(x3 BK295.out 0).trans rfl, (x3 BK295.out 1).trans rfl, (x3 BK295.out 2).trans rfl⟩ (fun hHeld => ?_)
       clear hK K
       refine norm_ (a' := ?_) ?_ ?_
       rotate_left
       ·show Act.put _ (some 8) _ = _
        simp only [Act.put, s1_, s2_, s3_, i64_w, i32_w]
        rfl
       refine one_ (i := 5) (N := some 38) (bs_ 14 1087) rfl rfl (one_of HT_.out (by kernel_rfl)) (by decide) (fun K hK => ?_)
       refine goes_ Try.func35 (by kernel_rfl) rfl #[.slice Ao26 t298.length co26, .agg #[.int .i64 t301, .int .i64 t302, .slice Ao27 t303.length co27], .bool a2] (by rfl) rfl rfl (by (try simp only [List.map_toArray, List.map_cons, List.map_nil]);first | done | rfl) ?_
       with_reducible refine (spec_DiffusePicture.calls k _ _ t298 t301 t302 _ _ t303 a2 t306 t307 t308 t311 t312 _ ?side1 ?side2 ?side3 ?side4 A14.out).mono ?_
       (case side1 => repeat (first|exact (x5 HO300.out).2.2 | (with_reducible refine y3 ?_ _) | (with_reducible refine y4 ?_)))
       (case side2 => exact (x5 HO300.out).2.1)
       (case side3 => repeat (first|exact (x5 HO305.out).2.2 | (with_reducible refine y3 ?_ _) | (with_reducible refine y4 ?_)))
       (case side4 => exact (x5 HO305.out).2.1)
       rintro e w28 ⟨v309, rfl, ho0, hb⟩
       refine ⟨_, rfl, ?_⟩
       have n0_ := z0 (x4 (by (with_reducible repeat (first|apply z9|apply y1));exact HO300.out) hb)
       have n1_ := z0 (y8 (by (with_reducible repeat (first|apply z9|apply y1));exact HO305.out) (w2_ ho0) hb)
       have n2_ := z0 (w1_ (Kd.R_new' ho0 (Kd.R_lt (by (with_reducible repeat (first|apply z9|apply y1));exact HO305.out))) (y7 (by repeat (first | (with_reducible first|exact HB.out|apply z5|apply z6|refine z7 ?_ GE295.out|refine z7 ?_ GE313.out)|exact HB.out))))
       have n3_ := z0 (y5 (g := gb295) (o := .cells #[.int .i64 a1_0, .int .i64 a1_1, .slice A1_2 l1_2.length c1_2] 44 (0, 0)) (by (with_reducible repeat (first|refine z1 ?_ _|refine z3 ?_));exact BK295.out) hb)
       have n4_ := z0 (y5 (g := gb313) (o := .cells #[.int .i64 0, .int .i64 0, .slice none 0 0] 31 (0, 0)) (by (with_reducible repeat (first|refine z1 ?_ _|refine z3 ?_));exact BK313.out) hb)
       have n5_ := z0 (y6 (by repeat (first | (with_reducible first|exact HB.out|apply z5|apply z6|refine z7 ?_ GE295.out|refine z7 ?_ GE313.out)|exact HB.out)) hb)
       clear HO300
       clear HO305
       clear BK295
       clear BK313
       clear HB
       have HO300 := n0_
       have HO305 := n1_
       have HO310 := n2_
       have BK295 := n3_
       have BK313 := n4_
       have HB := n5_
       clear n0_ n1_ n2_ n3_ n4_ n5_
       (try clear hb)
       (try clear hb2)
       (try clear hk)
       (try clear hi)
       (try clear ho0)
       refine hK.out _ _ ⟨(x3 BK295.out 0).trans rfl, (x3 BK295.out 1).trans rfl, (x3 BK295.out 2).trans rfl⟩ (fun hHeld => ?_)
       clear hK K
       refine norm_ (a' := ?_) ?_ ?_
       rotate_left
       ·show Act.put _ (some 38) _ = _
        simp only [Act.put, s1_, s2_, s3_, i64_w, i32_w]
        rfl
       refine pure_ (i := 6) (N := some 32) (v := ?_) (a' := ?_) (bs_ 14 1151) rfl rfl (any_of HT_.out (by kernel_rfl)) (fun _ _ _ h => h) (Or.inl ⟨by rfl, ?_⟩) ?_ ?_
       rotate_left
       ·intro w'
        go_simp
        with_reducible rfl
       rotate_left
       ·simp only [Act.put, s1_, s2_, s3_, i64_w, i32_w]
        rfl
       refine pure_ (i := 7) (N := some 39) (v := ?_) (a' := ?_) (bs_ 14 1279) rfl rfl (any_of HT_.out (by kernel_rfl)) (fun _ _ _ h => h) (Or.inl ⟨by rfl, ?_⟩) ?_ ?_
       rotate_left
       ·intro w'
        go_simp
        with_reducible rfl
       rotate_left
       ·simp only [Act.put, s1_, s2_, s3_, i64_w, i32_w]
        rfl
       refine pure_ (i := 8) (N := some 40) (v := ?_) (a' := ?_) (bs_ 14 1535) rfl rfl (any_of HT_.out (by kernel_rfl)) (fun _ _ _ h => h) (Or.inl ⟨by rfl, ?_⟩) ?_ ?_
       rotate_left
       ·intro w'
        go_simp
        with_reducible rfl
       rotate_left
       ·simp only [Act.put, s1_, s2_, s3_, i64_w, i32_w]
        rfl
       refine pure_ (i := 9) (N := some 41) (v := ?_) (a' := ?_) (bs_ 14 2047) rfl rfl (any_of HT_.out (by kernel_rfl)) (fun _ _ _ h => h) (Or.inl ⟨by rfl, ?_⟩) ?_ ?_
       rotate_left
       ·intro w'
        go_simp
        with_reducible rfl
       rotate_left
       ·simp only [Act.put, s1_, s2_, s3_, i64_w, i32_w]
        rfl
       exact norm_ (by simp only [putAll, Act.put, s1_, s2_, s3_]) (hCont (.slice Ao26 t298.length co26, .slice Ao27 t303.length co27, v309, gb313) _ ⟨hHeld, (by (with_reducible repeat (first|apply z9|apply y1));exact HO300.out), (by (with_reducible repeat (first|apply z9|apply y1));exact x6 HO305.out (fun _ hk => hk.2)), (by (with_reducible repeat (first|apply z9|apply y1));exact x6 HO310.out (fun _ hk => hk.2)), (by (with_reducible repeat (first|refine z1 ?_ _|refine z3 ?_));exact BK295.out), (by (with_reducible repeat (first|refine z1 ?_ _|refine z3 ?_));exact BK313.out), GW313.out, GE313.out, NB295_313.out, NB313_295.out, (by repeat (first | (with_reducible first|exact HB.out|apply z5|apply z6|refine z7 ?_ GE295.out|refine z7 ?_ GE313.out)|exact HB.out))⟩)
     ·skip
      refine box_step ?hg (N := 8) ?hd (cs := #[.int .i64 0, .int .i64 0, .slice none 0 0]) (t := 31) ?hr ?_;(case hd => rfl);(case hg => rfl);(case hr => first | (go_simp;done) | (go_simp;rfl))
      intro gb313 hg w24 hbox hb
      have n0_ := z0 (x4 (by (with_reducible repeat (first|apply z9|apply y1));exact HO300.out) hb)
      have n1_ := z0 (y5 (g := gb295) (o := .cells #[.int .i64 a1_0, .int .i64 a1_1, .slice A1_2 l1_2.length c1_2] 44 (0, 0)) (by (with_reducible repeat (first|refine z1 ?_ _|refine z3 ?_));exact BK295.out) hb)
      have n2_ := z0 (y6 (by repeat (first | (with_reducible first|exact HB.out|apply z5|apply z6|refine z7 ?_ GE295.out)|exact HB.out)) hb)
      have n3_ := z0 (hbox)
      have n4_ := z0 ((by rw [hg];exact (y7 (by repeat (first | (with_reducible first|exact HB.out|apply z5|apply z6|refine z7 ?_ GE295.out)|exact HB.out))) : w.heap.size ≤ gb313))
      have n5_ := z0 ((by rw [hg];exact (y7 (by repeat (first | (with_reducible first|exact HB.out|apply z5|apply z6|refine z7 ?_ GE295.out)|exact HB.out))) : w.heap.size ≤ gb313))
      have n6_ := z0 ((by rw [hg];exact Nat.ne_of_lt (blk_lt (g := gb295) (o := .cells #[.int .i64 a1_0, .int .i64 a1_1, .slice A1_2 l1_2.length c1_2] 44 (0, 0)) (by (with_reducible repeat (first|refine z1 ?_ _|refine z3 ?_));exact BK295.out)) : gb295 ≠ gb313))
      have n7_ := z0 ((by rw [hg];exact Nat.ne_of_gt (blk_lt (g := gb295) (o := .cells #[.int .i64 a1_0, .int .i64 a1_1, .slice A1_2 l1_2.length c1_2] 44 (0, 0)) (by (with_reducible repeat (first|refine z1 ?_ _|refine z3 ?_));exact BK295.out)) : gb313 ≠ gb295))
      clear HO300
      clear BK295
      clear HB
      have HO300 := n0_
      have BK295 := n1_
      have HB := n2_
      have BK313 := n3_
      have GW313 := n4_
      have GE313 := n5_
      have NB295_313 := n6_
      have NB313_295 := n7_
      clear n0_ n1_ n2_ n3_ n4_ n5_ n6_ n7_
      clear hb hbox hg
      refine hK.out _ _ ⟨(x3 BK295.out 0).trans rfl, (x3 BK295.out 1).trans rfl, (x3 BK295.out 2).trans rfl⟩ (fun hHeld => ?_)
      clear hK K
      refine norm_ (a' := ?_) ?_ ?_
      rotate_left
      ·show Act.put _ (some 8) _ = _
       simp only [Act.put, s1_, s2_, s3_, i64_w, i32_w]
       rfl
      refine one_ (i := 3) (N := some 36) (bs_ 14 1055) rfl rfl (one_of HT_.out (by kernel_rfl)) (by decide) (fun K hK => ?_)
      refine goes_ Try.func26 (by kernel_rfl) rfl #[.agg #[.int .i64 a1_0, .int .i64 a1_1, .slice A1_2 l1_2.length c1_2]] (by rfl) rfl rfl (by (try simp only [List.map_toArray, List.map_cons, List.map_nil]);first | done | rfl) ?_
      with_reducible refine (laws_toPicture.calls k a1_0 a1_1 _ _ l1_2 t301 t302 t303 _ ?side1 ?side2 A13.out).mono ?_
      (case side1 => repeat (first|exact HR1_2.out|exact (y9 HR1_2.out HB.out) | (with_reducible refine y3 ?_ _) | (with_reducible refine y4 ?_)))
      (case side2 => exact HC1_2.out)
      rintro e w25 ⟨v304, rfl, ho0, hb⟩
      refine ⟨_, rfl, ?_⟩
      have n0_ := z0 (x4 (by (with_reducible repeat (first|apply z9|apply y1));exact HO300.out) hb)
      have n1_ := z0 (w1_ ho0 (y7 (by repeat (first | (with_reducible first|exact HB.out|apply z5|apply z6|refine z7 ?_ GE295.out|refine z7 ?_ GE313.out)|exact HB.out))))
      have n2_ := z0 (y5 (g := gb295) (o := .cells #[.int .i64 a1_0, .int .i64 a1_1, .slice A1_2 l1_2.length c1_2] 44 (0, 0)) (by (with_reducible repeat (first|refine z1 ?_ _|refine z3 ?_));exact BK295.out) hb)
      have n3_ := z0 (y5 (g := gb313) (o := .cells #[.int .i64 0, .int .i64 0, .slice none 0 0] 31 (0, 0)) (by (with_reducible repeat (first|refine z1 ?_ _|refine z3 ?_));exact BK313.out) hb)
      have n4_ := z0 (y6 (by repeat (first | (with_reducible first|exact HB.out|apply z5|apply z6|refine z7 ?_ GE295.out|refine z7 ?_ GE313.out)|exact HB.out)) hb)
      clear HO300
      clear BK295
      clear BK313
      clear HB
      have HO300 := n0_
      have HO305 := n1_
      have BK295 := n2_
      have BK313 := n3_
      have HB := n4_
      clear n0_ n1_ n2_ n3_ n4_
      (try clear hb)
      (try clear hb2)
      (try clear hk)
      (try clear hi)
      (try clear ho0)
      obtain ⟨Ao26, co26, eo26⟩ := Kd.R_slice HO300.out
      (first | subst eo26 | (injection eo26 with f1_ f2_ f3_;have f4_ := f1_.symm;have f5_ := f3_.symm;clear f1_ f2_ f3_;subst f4_;subst f5_))
      obtain ⟨Ao27, co27, eo27⟩ := Kd.R_slice HO305.out
      (first | subst eo27 | (injection eo27 with f1_ f2_ f3_;have f4_ := f1_.symm;have f5_ := f3_.symm;clear f1_ f2_ f3_;subst f4_;subst f5_))
      refine hK.out _ _ ⟨(x3 BK295.out 0).trans rfl, (x3 BK295.out 1).trans rfl, (x3 BK295.out 2).trans rfl⟩ (fun hHeld => ?_)
      clear hK K
      refine norm_ (a' := ?_) ?_ ?_
      rotate_left
      ·show Act.put _ (some 36) _ = _
       simp only [Act.put, s1_, s2_, s3_, i64_w, i32_w]
       rfl
      refine one_ (i := 5) (N := some 38) (bs_ 14 1087) rfl rfl (one_of HT_.out (by kernel_rfl)) (by decide) (fun K hK => ?_)
      refine goes_ Try.func35 (by kernel_rfl) rfl #[.slice Ao26 t298.length co26, .agg #[.int .i64 t301, .int .i64 t302, .slice Ao27 t303.length co27], .bool a2] (by rfl) rfl rfl (by (try simp only [List.map_toArray, List.map_cons, List.map_nil]);first | done | rfl) ?_
      with_reducible refine (spec_DiffusePicture.calls k _ _ t298 t301 t302 _ _ t303 a2 t306 t307 t308 t311 t312 _ ?side1 ?side2 ?side3 ?side4 A14.out).mono ?_
      (case side1 => repeat (first|exact (x5 HO300.out).2.2 | (with_reducible refine y3 ?_ _) | (with_reducible refine y4 ?_)))
      (case side2 => exact (x5 HO300.out).2.1)
      (case side3 => repeat (first|exact (x5 HO305.out).2.2 | (with_reducible refine y3 ?_ _) | (with_reducible refine y4 ?_)))
      (case side4 => exact (x5 HO305.out).2.1)
      rintro e w28 ⟨v309, rfl, ho0, hb⟩
      refine ⟨_, rfl, ?_⟩
      have n0_ := z0 (x4 (by (with_reducible repeat (first|apply z9|apply y1));exact HO300.out) hb)
      have n1_ := z0 (y8 (by (with_reducible repeat (first|apply z9|apply y1));exact HO305.out) (w2_ ho0) hb)
      have n2_ := z0 (w1_ (Kd.R_new' ho0 (Kd.R_lt (by (with_reducible repeat (first|apply z9|apply y1));exact HO305.out))) (y7 (by repeat (first | (with_reducible first|exact HB.out|apply z5|apply z6|refine z7 ?_ GE295.out|refine z7 ?_ GE313.out)|exact HB.out))))
      have n3_ := z0 (y5 (g := gb295) (o := .cells #[.int .i64 a1_0, .int .i64 a1_1, .slice A1_2 l1_2.length c1_2] 44 (0, 0)) (by (with_reducible repeat (first|refine z1 ?_ _|refine z3 ?_));exact BK295.out) hb)
      have n4_ := z0 (y5 (g := gb313) (o := .cells #[.int .i64 0, .int .i64 0, .slice none 0 0] 31 (0, 0)) (by (with_reducible repeat (first|refine z1 ?_ _|refine z3 ?_));exact BK313.out) hb)
      have n5_ := z0 (y6 (by repeat (first | (with_reducible first|exact HB.out|apply z5|apply z6|refine z7 ?_ GE295.out|refine z7 ?_ GE313.out)|exact HB.out)) hb)
      clear HO300
      clear HO305
      clear BK295
      clear BK313
      clear HB
      have HO300 := n0_
      have HO305 := n1_
      have HO310 := n2_
      have BK295 := n3_
      have BK313 := n4_
      have HB := n5_
      clear n0_ n1_ n2_ n3_ n4_ n5_
      (try clear hb)
      (try clear hb2)
      (try clear hk)
      (try clear hi)
      (try clear ho0)
      refine hK.out _ _ ⟨(x3 BK295.out 0).trans rfl, (x3 BK295.out 1).trans rfl, (x3 BK295.out 2).trans rfl⟩ (fun hHeld => ?_)
      clear hK K
      refine norm_ (a' := ?_) ?_ ?_
      rotate_left
      ·show Act.put _ (some 38) _ = _
       simp only [Act.put, s1_, s2_, s3_, i64_w, i32_w]
       rfl
      refine pure_ (i := 6) (N := some 32) (v := ?_) (a' := ?_) (bs_ 14 1151) rfl rfl (any_of HT_.out (by kernel_rfl)) (fun _ _ _ h => h) (Or.inl ⟨by rfl, ?_⟩) ?_ ?_
      rotate_left
      ·intro w'
       go_simp
       with_reducible rfl
      rotate_left
      ·simp only [Act.put, s1_, s2_, s3_, i64_w, i32_w]
       rfl
      refine pure_ (i := 7) (N := some 39) (v := ?_) (a' := ?_) (bs_ 14 1279) rfl rfl (any_of HT_.out (by kernel_rfl)) (fun _ _ _ h => h) (Or.inl ⟨by rfl, ?_⟩) ?_ ?_
      rotate_left
      ·intro w'
       go_simp
       with_reducible rfl
      rotate_left
      ·simp only [Act.put, s1_, s2_, s3_, i64_w, i32_w]
       rfl
      refine pure_ (i := 8) (N := some 40) (v := ?_) (a' := ?_) (bs_ 14 1535) rfl rfl (any_of HT_.out (by kernel_rfl)) (fun _ _ _ h => h) (Or.inl ⟨by rfl, ?_⟩) ?_ ?_
      rotate_left
      ·intro w'
       go_simp
       with_reducible rfl
      rotate_left
      ·simp only [Act.put, s1_, s2_, s3_, i64_w, i32_w]
       rfl
      refine pure_ (i := 9) (N := some 41) (v := ?_) (a' := ?_) (bs_ 14 2047) rfl rfl (any_of HT_.out (by kernel_rfl)) (fun _ _ _ h => h) (Or.inl ⟨by rfl, ?_⟩) ?_ ?_
      rotate_left
      ·intro w'
       go_simp
       with_reducible rfl
      rotate_left
      ·simp only [Act.put, s1_, s2_, s3_, i64_w, i32_w]
       rfl
      exact norm_ (by simp only [putAll, Act.put, s1_, s2_, s3_]) (hCont (.slice Ao26 t298.length co26, .slice Ao27 t303.length co27, v309, gb313) _ ⟨hHeld, (by (with_reducible repeat (first|apply z9|apply y1));exact HO300.out), (by (with_reducible repeat (first|apply z9|apply y1));exact x6 HO305.out (fun _ hk => hk.2)), (by (with_reducible repeat (first|apply z9|apply y1));exact x6 HO310.out (fun _ hk => hk.2)), (by (with_reducible repeat (first|refine z1 ?_ _|refine z3 ?_));exact BK295.out), (by (with_reducible repeat (first|refine z1 ?_ _|refine z3 ?_));exact BK313.out), GW313.out, GE313.out, NB295_313.out, NB313_295.out, (by repeat (first | (with_reducible first|exact HB.out|apply z5|apply z6|refine z7 ?_ GE295.out|refine z7 ?_ GE313.out)|exact HB.out))⟩)
    ·skip
     refine box_step ?hg (N := 8) ?hd (cs := #[.int .i64 0, .int .i64 0, .slice none 0 0]) (t := 31) ?hr ?_;(case hd => rfl);(case hg => rfl);(case hr => first | (go_simp;done) | (go_simp;rfl))
     intro gb313 hg w23 hbox hb
     have n0_ := z0 (y5 (g := gb295) (o := .cells #[.int .i64 a1_0, .int .i64 a1_1, .slice A1_2 l1_2.length c1_2] 44 (0, 0)) (by (with_reducible repeat (first|refine z1 ?_ _|refine z3 ?_));exact BK295.out) hb)
     have n1_ := z0 (y6 (by repeat (first | (with_reducible first|exact HB.out|apply z5|apply z6|refine z7 ?_ GE295.out)|exact HB.out)) hb)
     have n2_ := z0 (hbox)
     have n3_ := z0 ((by rw [hg];exact (y7 (by repeat (first | (with_reducible first|exact HB.out|apply z5|apply z6|refine z7 ?_ GE295.out)|exact HB.out))) : w.heap.size ≤ gb313))
     have n4_ := z0 ((by rw [hg];exact (y7 (by repeat (first | (with_reducible first|exact HB.out|apply z5|apply z6|refine z7 ?_ GE295.out)|exact HB.out))) : w.heap.size ≤ gb313))
     have n5_ := z0 ((by rw [hg];exact Nat.ne_of_lt (blk_lt (g := gb295) (o := .cells #[.int .i64 a1_0, .int .i64 a1_1, .slice A1_2 l1_2.length c1_2] 44 (0, 0)) (by (with_reducible repeat (first|refine z1 ?_ _|refine z3 ?_));exact BK295.out)) : gb295 ≠ gb313))
     have n6_ := z0 ((by rw [hg];exact Nat.ne_of_gt (blk_lt (g := gb295) (o := .cells #[.int .i64 a1_0, .int .i64 a1_1, .slice A1_2 l1_2.length c1_2] 44 (0, 0)) (by (with_reducible repeat (first|refine z1 ?_ _|refine z3 ?_));exact BK295.out)) : gb313 ≠ gb295))
     clear BK295
     clear HB
     have BK295 := n0_
     have HB := n1_
     have BK313 := n2_
     have GW313 := n3_
     have GE313 := n4_
     have NB295_313 := n5_
     have NB313_295 := n6_
     clear n0_ n1_ n2_ n3_ n4_ n5_ n6_
     clear hb hbox hg
     refine hK.out _ _ ⟨(x3 BK295.out 0).trans rfl, (x3 BK295.out 1).trans rfl, (x3 BK295.out 2).trans rfl⟩ (fun hHeld => ?_)
     clear hK K
     refine norm_ (a' := ?_) ?_ ?_
     rotate_left
     ·show Act.put _ (some 8) _ = _
      simp only [Act.put, s1_, s2_, s3_, i64_w, i32_w]
      rfl
     refine one_ (i := 1) (N := some 34) (bs_ 14 1047) rfl rfl (one_of HT_.out (by kernel_rfl)) (by decide) (fun K hK => ?_)
     refine goes_ Try.func25 (by kernel_rfl) rfl #[.slice A0 l0.length c0] (by rfl) rfl rfl (by (try simp only [List.map_toArray, List.map_cons, List.map_nil]);first | done | rfl) ?_
     with_reducible refine (laws_toPartS.calls k _ _ l0 t298 _ ?side1 ?side2 A12.out).mono ?_
     (case side1 => repeat (first|exact (y9 HR0.out HB.out) | (with_reducible refine y3 ?_ _) | (with_reducible refine y4 ?_)))
     (case side2 => exact HC0.out)
     rintro e w24 ⟨v299, rfl, ho0, hb⟩
     refine ⟨_, rfl, ?_⟩
     have n0_ := z0 (w1_ ho0 (y7 (by repeat (first | (with_reducible first|exact HB.out|apply z5|apply z6|refine z7 ?_ GE295.out|refine z7 ?_ GE313.out)|exact HB.out))))
     have n1_ := z0 (y5 (g := gb295) (o := .cells #[.int .i64 a1_0, .int .i64 a1_1, .slice A1_2 l1_2.length c1_2] 44 (0, 0)) (by (with_reducible repeat (first|refine z1 ?_ _|refine z3 ?_));exact BK295.out) hb)
     have n2_ := z0 (y5 (g := gb313) (o := .cells #[.int .i64 0, .int .i64 0, .slice none 0 0] 31 (0, 0)) (by (with_reducible repeat (first|refine z1 ?_ _|refine z3 ?_));exact BK313.out) hb)
     have n3_ := z0 (y6 (by repeat (first | (with_reducible first|exact HB.out|apply z5|apply z6|refine z7 ?_ GE295.out|refine z7 ?_ GE313.out)|exact HB.out)) hb)
     clear BK295
     clear BK313
     clear HB
     have HO300 := n0_
     have BK295 := n1_
     have BK313 := n2_
     have HB := n3_
     clear n0_ n1_ n2_ n3_
     (try clear hb)
     (try clear hb2)
     (try clear hk)
     (try clear hi)
     (try clear ho0)
     refine hK.out _ _ ⟨(x3 BK295.out 0).trans rfl, (x3 BK295.out 1).trans rfl, (x3 BK295.out 2).trans rfl⟩ (fun hHeld => ?_)
     clear hK K
     refine norm_ (a' := ?_) ?_ ?_
     rotate_left
     ·show Act.put _ (some 34) _ = _
      simp only [Act.put, s1_, s2_, s3_, i64_w, i32_w]
      rfl
     refine one_ (i := 3) (N := some 36) (bs_ 14 1055) rfl rfl (one_of HT_.out (by kernel_rfl)) (by decide) (fun K hK => ?_)
     refine goes_ Try.func26 (by kernel_rfl) rfl #[.agg #[.int .i64 a1_0, .int .i64 a1_1, .slice A1_2 l1_2.length c1_2]] (by rfl) rfl rfl (by (try simp only [List.map_toArray, List.map_cons, List.map_nil]);first | done | rfl) ?_
     with_reducible refine (laws_toPicture.calls k a1_0 a1_1 _ _ l1_2 t301 t302 t303 _ ?side1 ?side2 A13.out).mono ?_
     (case side1 => repeat (first|exact HR1_2.out|exact (y9 HR1_2.out HB.out) | (with_reducible refine y3 ?_ _) | (with_reducible refine y4 ?_)))
     (case side2 => exact HC1_2.out)
     rintro e w25 ⟨v304, rfl, ho0, hb⟩
     refine ⟨_, rfl, ?_⟩
     have n0_ := z0 (x4 (by (with_reducible repeat (first|apply z9|apply y1));exact HO300.out) hb)
     have n1_ := z0 (w1_ ho0 (y7 (by repeat (first | (with_reducible first|exact HB.out|apply z5|apply z6|refine z7 ?_ GE295.out|refine z7 ?_ GE313.out)|exact HB.out))))
     have n2_ := z0 (y5 (g := gb295) (o := .cells #[.int .i64 a1_0, .int .i64 a1_1, .slice A1_2 l1_2.length c1_2] 44 (0, 0)) (by (with_reducible repeat (first|refine z1 ?_ _|refine z3 ?_));exact BK295.out) hb)
     have n3_ := z0 (y5 (g := gb313) (o := .cells #[.int .i64 0, .int .i64 0, .slice none 0 0] 31 (0, 0)) (by (with_reducible repeat (first|refine z1 ?_ _|refine z3 ?_));exact BK313.out) hb)
     have n4_ := z0 (y6 (by repeat (first | (with_reducible first|exact HB.out|apply z5|apply z6|refine z7 ?_ GE295.out|refine z7 ?_ GE313.out)|exact HB.out)) hb)
     clear HO300
     clear BK295
     clear BK313
     clear HB
     have HO300 := n0_
     have HO305 := n1_
     have BK295 := n2_
     have BK313 := n3_
     have HB := n4_
     clear n0_ n1_ n2_ n3_ n4_
     (try clear hb)
     (try clear hb2)
     (try clear hk)
     (try clear hi)
     (try clear ho0)
     obtain ⟨Ao26, co26, eo26⟩ := Kd.R_slice HO300.out
     (first | subst eo26 | (injection eo26 with f1_ f2_ f3_;have f4_ := f1_.symm;have f5_ := f3_.symm;clear f1_ f2_ f3_;subst f4_;subst f5_))
     obtain ⟨Ao27, co27, eo27⟩ := Kd.R_slice HO305.out
     (first | subst eo27 | (injection eo27 with f1_ f2_ f3_;have f4_ := f1_.symm;have f5_ := f3_.symm;clear f1_ f2_ f3_;subst f4_;subst f5_))
     refine hK.out _ _ ⟨(x3 BK295.out 0).trans rfl, (x3 BK295.out 1).trans rfl, (x3 BK295.out 2).trans rfl⟩ (fun hHeld => ?_)
     clear hK K
     refine norm_ (a' := ?_) ?_ ?_
     rotate_left
     ·show Act.put _ (some 36) _ = _
      simp only [Act.put, s1_, s2_, s3_, i64_w, i32_w]
      rfl
     refine one_ (i := 5) (N := some 38) (bs_ 14 1087) rfl rfl (one_of HT_.out (by kernel_rfl)) (by decide) (fun K hK => ?_)
     refine goes_ Try.func35 (by kernel_rfl) rfl #[.slice Ao26 t298.length co26, .agg #[.int .i64 t301, .int .i64 t302, .slice Ao27 t303.length co27], .bool a2] (by rfl) rfl rfl (by (try simp only [List.map_toArray, List.map_cons, List.map_nil]);first | done | rfl) ?_
     with_reducible refine (spec_DiffusePicture.calls k _ _ t298 t301 t302 _ _ t303 a2 t306 t307 t308 t311 t312 _ ?side1 ?side2 ?side3 ?side4 A14.out).mono ?_
     (case side1 => repeat (first|exact (x5 HO300.out).2.2 | (with_reducible refine y3 ?_ _) | (with_reducible refine y4 ?_)))
     (case side2 => exact (x5 HO300.out).2.1)
     (case side3 => repeat (first|exact (x5 HO305.out).2.2 | (with_reducible refine y3 ?_ _) | (with_reducible refine y4 ?_)))
     (case side4 => exact (x5 HO305.out).2.1)
     rintro e w28 ⟨v309, rfl, ho0, hb⟩
     refine ⟨_, rfl, ?_⟩
     have n0_ := z0 (x4 (by (with_reducible repeat (first|apply z9|apply y1));exact HO300.out) hb)
     have n1_ := z0 (y8 (by (with_reducible repeat (first|apply z9|apply y1));exact HO305.out) (w2_ ho0) hb)
     have n2_ := z0 (w1_ (Kd.R_new' ho0 (Kd.R_lt (by (with_reducible repeat (first|apply z9|apply y1));exact HO305.out))) (y7 (by repeat (first | (with_reducible first|exact HB.out|apply z5|apply z6|refine z7 ?_ GE295.out|refine z7 ?_ GE313.out)|exact HB.out))))
     have n3_ := z0 (y5 (g := gb295) (o := .cells #[.int .i64 a1_0, .int .i64 a1_1, .slice A1_2 l1_2.length c1_2] 44 (0, 0)) (by (with_reducible repeat (first|refine z1 ?_ _|refine z3 ?_));exact BK295.out) hb)
     have n4_ := z0 (y5 (g := gb313) (o := .cells #[.int .i64 0, .int .i64 0, .slice none 0 0] 31 (0, 0)) (by (with_reducible repeat (first|refine z1 ?_ _|refine z3 ?_));exact BK313.out) hb)
     have n5_ := z0 (y6 (by repeat (first | (with_reducible first|exact HB.out|apply z5|apply z6|refine z7 ?_ GE295.out|refine z7 ?_ GE313.out)|exact HB.out)) hb)
     clear HO300
     clear HO305
     clear BK295
     clear BK313
     clear HB
     have HO300 := n0_
     have HO305 := n1_
     have HO310 := n2_
     have BK295 := n3_
     have BK313 := n4_
     have HB := n5_
     clear n0_ n1_ n2_ n3_ n4_ n5_
     (try clear hb)
     (try clear hb2)
     (try clear hk)
     (try clear hi)
     (try clear ho0)
     refine hK.out _ _ ⟨(x3 BK295.out 0).trans rfl, (x3 BK295.out 1).trans rfl, (x3 BK295.out 2).trans rfl⟩ (fun hHeld => ?_)
     clear hK K
     refine norm_ (a' := ?_) ?_ ?_
     rotate_left
     ·show Act.put _ (some 38) _ = _
      simp only [Act.put, s1_, s2_, s3_, i64_w, i32_w]
      rfl
     refine pure_ (i := 6) (N := some 32) (v := ?_) (a' := ?_) (bs_ 14 1151) rfl rfl (any_of HT_.out (by kernel_rfl)) (fun _ _ _ h => h) (Or.inl ⟨by rfl, ?_⟩) ?_ ?_
     rotate_left
     ·intro w'
      go_simp
      with_reducible rfl
     rotate_left
     ·simp only [Act.put, s1_, s2_, s3_, i64_w, i32_w]
      rfl
     refine pure_ (i := 7) (N := some 39) (v := ?_) (a' := ?_) (bs_ 14 1279) rfl rfl (any_of HT_.out (by kernel_rfl)) (fun _ _ _ h => h) (Or.inl ⟨by rfl, ?_⟩) ?_ ?_
     rotate_left
     ·intro w'
      go_simp
      with_reducible rfl
     rotate_left
     ·simp only [Act.put, s1_, s2_, s3_, i64_w, i32_w]
      rfl
     refine pure_ (i := 8) (N := some 40) (v := ?_) (a' := ?_) (bs_ 14 1535) rfl rfl (any_of HT_.out (by kernel_rfl)) (fun _ _ _ h => h) (Or.inl ⟨by rfl, ?_⟩) ?_ ?_
     rotate_left
     ·intro w'
      go_simp
      with_reducible rfl
     rotate_left
     ·simp only [Act.put, s1_, s2_, s3_, i64_w, i32_w]
      rfl
     refine pure_ (i := 9) (N := some 41) (v := ?_) (a' := ?_) (bs_ 14 2047) rfl rfl (any_of HT_.out (by kernel_rfl)) (fun _ _ _ h => h) (Or.inl ⟨by rfl, ?_⟩) ?_ ?_
     rotate_left
     ·intro w'
      go_simp
      with_reducible rfl
     rotate_left
     ·simp only [Act.put, s1_, s2_, s3_, i64_w, i32_w]
      rfl
     exact norm_ (by simp only [putAll, Act.put, s1_, s2_, s3_]) (hCont (.slice Ao26 t298.length co26, .slice Ao27 t303.length co27, v309, gb313) _ ⟨hHeld, (by (with_reducible repeat (first|apply z9|apply y1));exact HO300.out), (by (with_reducible repeat (first|apply z9|apply y1));exact x6 HO305.out (fun _ hk => hk.2)), (by (with_reducible repeat (first|apply z9|apply y1));exact x6 HO310.out (fun _ hk => hk.2)), (by (with_reducible repeat (first|refine z1 ?_ _|refine z3 ?_));exact BK295.out), (by (with_reducible repeat (first|refine z1 ?_ _|refine z3 ?_));exact BK313.out), GW313.out, GE313.out, NB295_313.out, NB313_295.out, (by repeat (first | (with_reducible first|exact HB.out|apply z5|apply z6|refine z7 ?_ GE295.out|refine z7 ?_ GE313.out)|exact HB.out))⟩)
   rintro ⟨v299, v304, v309, gb313⟩ w29 ⟨hS_, h0_, h1_, h2_, h3_, h4_, h5_, h6_, h7_, h8_, h9_⟩
   have n0_ : Aside0 (Kd.R k60 60 w29 w.heap.size (fun _ => True) v299 t298) := ⟨h0_⟩
   have n1_ : Aside0 (Kd.R (Kd.int .i64) 3 w29 w.heap.size (fun k_ => some k_ ≠ (v309 : Value).ownBlock) v304 t303) := ⟨h1_⟩
   have n2_ : Aside0 (Kd.R (Kd.int .i64) 3 w29 w.heap.size (fun k_ => some k_ ≠ (v304 : Value).ownBlock) v309 t308) := ⟨h2_⟩
   have n3_ : Aside0 (w29.heap[gb295]? = some (.cells #[.int .i64 a1_0, .int .i64 a1_1, .slice A1_2 l1_2.length c1_2] 44 (0, 0))) := ⟨h3_⟩
   have n4_ : Aside0 (w29.heap[gb313]? = some (.cells #[.int .i64 0, .int .i64 0, .slice none 0 0] 31 (0, 0))) := ⟨h4_⟩
   have n5_ : Aside0 (w.heap.size ≤ gb313) := ⟨h5_⟩
   have n6_ : Aside0 (w.heap.size ≤ gb313) := ⟨h6_⟩
   have n7_ : Aside0 (gb295 ≠ gb313) := ⟨h7_⟩
   have n8_ : Aside0 (gb313 ≠ gb295) := ⟨h8_⟩
   have n9_ : Aside0 (Below w.heap.size w w29) := ⟨h9_⟩
   clear BK295
   clear HB
   clear h0_ h1_ h2_ h3_ h4_ h5_ h6_ h7_ h8_ h9_
   have HO300 := n0_
   have HO305 := n1_
   have HO310 := n2_
   have BK295 := n3_
   have BK313 := n4_
   have GW313 := n5_
   have GE313 := n6_
   have NB295_313 := n7_
   have NB313_295 := n8_
   have HB := n9_
   clear n0_ n1_ n2_ n3_ n4_ n5_ n6_ n7_ n8_ n9_
   have hHeld : w29.cell? ⟨gb295, 0, none⟩ = some (.int .i64 a1_0) ∧ w29.cell? ⟨gb295, 1, none⟩ = some (.int .i64 a1_1) ∧ w29.cell? ⟨gb295, 2, none⟩ = some (.slice A1_2 l1_2.length c1_2) := hS_
   obtain ⟨Ao32, co32, eo32⟩ := Kd.R_slice HO310.out
   (first | subst eo32 | (injection eo32 with f1_ f2_ f3_;have f4_ := f1_.symm;have f5_ := f3_.symm;clear f1_ f2_ f3_;subst f4_;subst f5_))
   refine norm_ (a' := ?_) ?_ ?_
   rotate_left
   ·simp only [putAll, Act.put, s1_, s2_, s3_]
    rfl
   refine one_ (i := 11) (N := none) (bs_ 14 4095) rfl rfl (one_of HT_.out (by kernel_rfl)) (by decide) (fun K hK => ?_)
   have hs30 : w29.cell? ⟨gb313, 0, none⟩ = some (.int .i64 0) := (x3 BK313.out 0).trans rfl
   have hfs30 := x2 BK313.out 0
   have hns30_0 := NB295_313.out
   have hms30_0 := NB313_295.out
   have hs31 : w29.cell? ⟨gb313, 1, none⟩ = some (.int .i64 0) := (x3 BK313.out 1).trans rfl
   have hfs31 := x2 BK313.out 1
   have hns31_0 := NB295_313.out
   have hms31_0 := NB313_295.out
   have hs33 : w29.cell? ⟨gb313, 2, none⟩ = some (.slice none 0 0) := (x3 BK313.out 2).trans rfl
   have hfs33 := x2 BK313.out 2
   have hns33_0 := NB295_313.out
   have hms33_0 := NB313_295.out
   refine skip_ (w1 := ?_) (by rfl) rfl ?_ ?_
   rotate_left
   ·go_simp
    rfl
   refine hK.out _ _ ⟨((cell_far (p := ⟨gb313, _, none⟩) NB295_313.out _).trans (((cell_far (p := ⟨gb313, _, none⟩) NB295_313.out _).trans (((cell_far (p := ⟨gb313, _, none⟩) NB295_313.out _).trans (hHeld.1)))))), ((cell_far (p := ⟨gb313, _, none⟩) NB295_313.out _).trans (((cell_far (p := ⟨gb313, _, none⟩) NB295_313.out _).trans (((cell_far (p := ⟨gb313, _, none⟩) NB295_313.out _).trans (hHeld.2.1)))))), ((cell_far (p := ⟨gb313, _, none⟩) NB295_313.out _).trans (((cell_far (p := ⟨gb313, _, none⟩) NB295_313.out _).trans (((cell_far (p := ⟨gb313, _, none⟩) NB295_313.out _).trans (hHeld.2.2))))))⟩ (fun hHeld => ?_)
   clear hK K
   refine pure_ (i := 12) (N := some 9) (v := ?_) (a' := ?_) (bs_ 14 8191) rfl rfl (any_of HT_.out (by kernel_rfl)) (fun _ _ _ h => h) (Or.inl ⟨by rfl, ?_⟩) ?_ ?_
   rotate_left
   ·intro w'
    go_simp
    with_reducible rfl
   rotate_left
   ·simp only [Act.put, s1_, s2_, s3_, i64_w, i32_w]
    rfl
   refine pure_ (i := 13) (N := some 10) (v := ?_) (a' := ?_) (bs_ 14 16383) rfl rfl (any_of HT_.out (by kernel_rfl)) (fun _ _ _ h => h) (Or.inl ⟨by rfl, ?_⟩) ?_ ?_
   rotate_left
   ·intro w'
    go_simp
    with_reducible rfl
   rotate_left
   ·simp only [Act.put, s1_, s2_, s3_, i64_w, i32_w]
    rfl
   refine done_ (done_of HT_.out (by kernel_rfl)) ?_
   go_upto_region 12 with (first | ((with_reducible refine gate_callee (f := 25) rfl ?_);refine goesL_ (some 43) rfl rfl Try.func25 (by kernel_rfl) rfl #[.slice A0 l0.length c0] rfl (by (try simp only [List.map_toArray, List.map_cons, List.map_nil]);first | done | rfl) ?_;(with_reducible refine (laws_toPartS.calls k _ _ l0 t314 _ ?side1 ?side2 A15.out).mono ?_);(case side1 => exact y9 HR0.out (by repeat (first | (with_reducible first|exact HB.out|apply z5|apply z6|refine z7 ?_ GE295.out|refine z7 ?_ GE313.out)|exact HB.out)));(case side2 => exact HC0.out);rintro e w34 ⟨v315, rfl, ho0, hb⟩;refine ⟨_, rfl, ?_⟩;have n0_ := z0 (y8 (by (with_reducible repeat (first|apply z9|apply y1));exact (x6 (x1 (p := ⟨gb313, 2, none⟩) (x1 (p := ⟨gb313, 1, none⟩) (x1 (p := ⟨gb313, 0, none⟩) (x7 HO300.out BK313.out (by decide)) (fun _ hk => hk.2) (.int .i64 t306)) (fun _ hk => hk.2) (.int .i64 t307)) (fun _ hk => hk.2) (.slice Ao32 t308.length co32)) (fun _ h_ => h_.1))) (w2_ ho0) hb);have n1_ := z0 (x4 (by (with_reducible repeat (first|apply z9|apply y1));exact (x6 (x1 (p := ⟨gb313, 2, none⟩) (x1 (p := ⟨gb313, 1, none⟩) (x1 (p := ⟨gb313, 0, none⟩) (x7 HO305.out BK313.out (by decide)) (fun _ hk => hk.2) (.int .i64 t306)) (fun _ hk => hk.2) (.int .i64 t307)) (fun _ hk => hk.2) (.slice Ao32 t308.length co32)) (fun _ h_ => h_.1))) hb);have n2_ := z0 (x4 (by (with_reducible repeat (first|apply z9|apply y1));exact (x6 (x1 (p := ⟨gb313, 2, none⟩) (x1 (p := ⟨gb313, 1, none⟩) (x1 (p := ⟨gb313, 0, none⟩) (x7 HO310.out BK313.out (by decide)) (fun _ hk => hk.2) (.int .i64 t306)) (fun _ hk => hk.2) (.int .i64 t307)) (fun _ hk => hk.2) (.slice Ao32 t308.length co32)) (fun _ h_ => h_.1))) hb);have n3_ := z0 (w1_ (Kd.R_new' ho0 (Kd.R_lt (by (with_reducible repeat (first|apply z9|apply y1));exact (x6 (x1 (p := ⟨gb313, 2, none⟩) (x1 (p := ⟨gb313, 1, none⟩) (x1 (p := ⟨gb313, 0, none⟩) (x7 HO300.out BK313.out (by decide)) (fun _ hk => hk.2) (.int .i64 t306)) (fun _ hk => hk.2) (.int .i64 t307)) (fun _ hk => hk.2) (.slice Ao32 t308.length co32)) (fun _ h_ => h_.1))))) (y7 (by repeat (first | (with_reducible first|exact HB.out|apply z5|apply z6|refine z7 ?_ GE295.out|refine z7 ?_ GE313.out)|exact HB.out))));have n4_ := z0 (y5 (g := gb295) (o := .cells #[.int .i64 a1_0, .int .i64 a1_1, .slice A1_2 l1_2.length c1_2] 44 (0, 0)) (by (with_reducible repeat (first|refine z1 ?_ _|refine z3 ?_));refine x8 ?_ NB295_313.out _;(with_reducible repeat (first|refine z1 ?_ _|refine z3 ?_));refine x8 ?_ NB295_313.out _;(with_reducible repeat (first|refine z1 ?_ _|refine z3 ?_));refine x8 ?_ NB295_313.out _;(with_reducible repeat (first|refine z1 ?_ _|refine z3 ?_));exact BK295.out) hb);have n5_ := z0 (y5 (g := gb313) (o := .cells #[.int .i64 t306, .int .i64 t307, .slice Ao32 t308.length co32] 31 (0, 0)) (by (with_reducible repeat (first|refine z1 ?_ _|refine z3 ?_));refine blk_put (cs := #[.int .i64 t306, .int .i64 t307, .slice none 0 0]) ?_ 2 _ rfl;(with_reducible repeat (first|refine z1 ?_ _|refine z3 ?_));refine blk_put (cs := #[.int .i64 t306, .int .i64 0, .slice none 0 0]) ?_ 1 _ rfl;(with_reducible repeat (first|refine z1 ?_ _|refine z3 ?_));refine blk_put (cs := #[.int .i64 0, .int .i64 0, .slice none 0 0]) ?_ 0 _ rfl;(with_reducible repeat (first|refine z1 ?_ _|refine z3 ?_));exact BK313.out) hb);have n6_ := z0 (y6 (by repeat (first | (with_reducible first|exact HB.out|apply z5|apply z6|refine z7 ?_ GE295.out|refine z7 ?_ GE313.out)|exact HB.out)) hb);clear HO300;clear HO305;clear HO310;clear BK295;clear BK313;clear HB;have HO300 := n0_;have HO305 := n1_;have HO310 := n2_;have HO316 := n3_;have BK295 := n4_;have BK313 := n5_;have HB := n6_;clear n0_ n1_ n2_ n3_ n4_ n5_ n6_;(try clear hb);(try clear ho0);have hnb35 := NB295_313.out;have hnc35 := NB313_295.out;have hcz36_0 : w34.cell? ⟨gb295, 0, none⟩ = some (.int .i64 a1_0) := (x3 BK295.out 0).trans rfl;have hcz36_1 : w34.cell? ⟨gb295, 1, none⟩ = some (.int .i64 a1_1) := (x3 BK295.out 1).trans rfl;have hcz36_2 : w34.cell? ⟨gb295, 2, none⟩ = some (.slice A1_2 l1_2.length c1_2) := (x3 BK295.out 2).trans rfl;have hfz36_0 := x2 BK295.out 0;have hfz36_1 := x2 BK295.out 1;have hfz36_2 := x2 BK295.out 2) | ((with_reducible refine gate_callee (f := 26) rfl ?_);refine goesL_ (some 45) rfl rfl Try.func26 (by kernel_rfl) rfl #[.agg #[.int .i64 a1_0, .int .i64 a1_1, .slice A1_2 l1_2.length c1_2]] rfl (by (try simp only [List.map_toArray, List.map_cons, List.map_nil]);first | done | rfl) ?_;(with_reducible refine (laws_toPicture.calls k a1_0 a1_1 _ _ l1_2 t317 t318 t319 _ ?side1 ?side2 A16.out).mono ?_);(case side1 => repeat (first|exact HR1_2.out|exact (y9 HR1_2.out HB.out) | (with_reducible refine y3 ?_ _) | (with_reducible refine y4 ?_)));(case side2 => exact HC1_2.out);rintro e w37 ⟨v320, rfl, ho0, hb⟩;refine ⟨_, rfl, ?_⟩;have n0_ := z0 (x4 (by (with_reducible repeat (first|apply z9|apply y1));exact HO300.out) hb);have n1_ := z0 (y8 (by (with_reducible repeat (first|apply z9|apply y1));exact HO305.out) (w2_ ho0) hb);have n2_ := z0 (y8 (by (with_reducible repeat (first|apply z9|apply y1));exact HO310.out) (w2_ ho0) hb);have n3_ := z0 (x4 (by (with_reducible repeat (first|apply z9|apply y1));exact HO316.out) hb);have n4_ := z0 (w1_ (Kd.R_new' (Kd.R_new' ho0 (Kd.R_lt (by (with_reducible repeat (first|apply z9|apply y1));exact HO305.out))) (Kd.R_lt (by (with_reducible repeat (first|apply z9|apply y1));exact HO310.out))) (y7 (by repeat (first | (with_reducible first|exact HB.out|apply z5|apply z6|refine z7 ?_ GE295.out|refine z7 ?_ GE313.out)|exact HB.out))));have n5_ := z0 (y5 (g := gb295) (o := .cells #[.int .i64 a1_0, .int .i64 a1_1, .slice A1_2 l1_2.length c1_2] 44 (0, 0)) (by (with_reducible repeat (first|refine z1 ?_ _|refine z3 ?_));exact BK295.out) hb);have n6_ := z0 (y5 (g := gb313) (o := .cells #[.int .i64 t306, .int .i64 t307, .slice Ao32 t308.length co32] 31 (0, 0)) (by (with_reducible repeat (first|refine z1 ?_ _|refine z3 ?_));exact BK313.out) hb);have n7_ := z0 (y6 (by repeat (first | (with_reducible first|exact HB.out|apply z5|apply z6|refine z7 ?_ GE295.out|refine z7 ?_ GE313.out)|exact HB.out)) hb);clear HO300;clear HO305;clear HO310;clear HO316;clear BK295;clear BK313;clear HB;have HO300 := n0_;have HO305 := n1_;have HO310 := n2_;have HO316 := n3_;have HO321 := n4_;have BK295 := n5_;have BK313 := n6_;have HB := n7_;clear n0_ n1_ n2_ n3_ n4_ n5_ n6_ n7_;(try clear hb);(try clear ho0)) | ((with_reducible refine gate_dst (N := 12) rfl ?_);refine box_event ?hg (N := 12) ?hd (cs := #[.int .i64 0, .int .i64 0, .slice none 0 0]) (t := 31) ?hr ?_;(case hd => rfl);(case hg => rfl);(case hr => first | (go_simp;done) | (go_simp;rfl));intro gb322 hg w38 hbox hb;have n0_ := z0 (x4 (by (with_reducible repeat (first|apply z9|apply y1));exact HO300.out) hb);have n1_ := z0 (x4 (by (with_reducible repeat (first|apply z9|apply y1));exact HO305.out) hb);have n2_ := z0 (x4 (by (with_reducible repeat (first|apply z9|apply y1));exact HO310.out) hb);have n3_ := z0 (x4 (by (with_reducible repeat (first|apply z9|apply y1));exact HO316.out) hb);have n4_ := z0 (x4 (by (with_reducible repeat (first|apply z9|apply y1));exact HO321.out) hb);have n5_ := z0 (y5 (g := gb295) (o := .cells #[.int .i64 a1_0, .int .i64 a1_1, .slice A1_2 l1_2.length c1_2] 44 (0, 0)) (by (with_reducible repeat (first|refine z1 ?_ _|refine z3 ?_));exact BK295.out) hb);have n6_ := z0 (y5 (g := gb313) (o := .cells #[.int .i64 t306, .int .i64 t307, .slice Ao32 t308.length co32] 31 (0, 0)) (by (with_reducible repeat (first|refine z1 ?_ _|refine z3 ?_));exact BK313.out) hb);have n7_ := z0 (y6 (by repeat (first | (with_reducible first|exact HB.out|apply z5|apply z6|refine z7 ?_ GE295.out|refine z7 ?_ GE313.out)|exact HB.out)) hb);have n8_ := z0 (hbox);have n9_ := z0 ((by rw [hg];exact (y7 (by repeat (first | (with_reducible first|exact HB.out|apply z5|apply z6|refine z7 ?_ GE295.out|refine z7 ?_ GE313.out)|exact HB.out))) : w.heap.size ≤ gb322));have n10_ := z0 ((by rw [hg];exact (y7 (by repeat (first | (with_reducible first|exact HB.out|apply z5|apply z6|refine z7 ?_ GE295.out|refine z7 ?_ GE313.out)|exact HB.out))) : w.heap.size ≤ gb322));have n11_ := z0 ((by rw [hg];exact Nat.ne_of_lt (blk_lt (g := gb295) (o := .cells #[.int .i64 a1_0, .int .i64 a1_1, .slice A1_2 l1_2.length c1_2] 44 (0, 0)) (by (with_reducible repeat (first|refine z1 ?_ _|refine z3 ?_));exact BK295.out)) : gb295 ≠ gb322));have n12_ := z0 ((by rw [hg];exact Nat.ne_of_gt (blk_lt (g := gb295) (o := .cells #[.int .i64 a1_0, .int .i64 a1_1, .slice A1_2 l1_2.length c1_2] 44 (0, 0)) (by (with_reducible repeat (first|refine z1 ?_ _|refine z3 ?_));exact BK295.out)) : gb322 ≠ gb295));have n13_ := z0 ((by rw [hg];exact Nat.ne_of_lt (blk_lt (g := gb313) (o := .cells #[.int .i64 t306, .int .i64 t307, .slice Ao32 t308.length co32] 31 (0, 0)) (by (with_reducible repeat (first|refine z1 ?_ _|refine z3 ?_));exact BK313.out)) : gb313 ≠ gb322));have n14_ := z0 ((by rw [hg];exact Nat.ne_of_gt (blk_lt (g := gb313) (o := .cells #[.int .i64 t306, .int .i64 t307, .slice Ao32 t308.length co32] 31 (0, 0)) (by (with_reducible repeat (first|refine z1 ?_ _|refine z3 ?_));exact BK313.out)) : gb322 ≠ gb313));clear HO300;clear HO305;clear HO310;clear HO316;clear HO321;clear BK295;clear BK313;clear HB;have HO300 := n0_;have HO305 := n1_;have HO310 := n2_;have HO316 := n3_;have HO321 := n4_;have BK295 := n5_;have BK313 := n6_;have HB := n7_;have BK322 := n8_;have GW322 := n9_;have GE322 := n10_;have NB295_322 := n11_;have NB322_295 := n12_;have NB313_322 := n13_;have NB322_313 := n14_;clear n0_ n1_ n2_ n3_ n4_ n5_ n6_ n7_ n8_ n9_ n10_ n11_ n12_ n13_ n14_;clear hb hbox hg;have hnb39 := NB322_295.out;have hnc39 := NB295_322.out;have hnb40 := NB322_313.out;have hnc40 := NB313_322.out;have hcz41_0 : w38.cell? ⟨gb322, 0, none⟩ = some (.int .i64 0) := (x3 BK322.out 0).trans rfl;have hcz41_1 : w38.cell? ⟨gb322, 1, none⟩ = some (.int .i64 0) := (x3 BK322.out 1).trans rfl;have hcz41_2 : w38.cell? ⟨gb322, 2, none⟩ = some (.slice none 0 0) := (x3 BK322.out 2).trans rfl;have hfz41_0 := x2 BK322.out 0;have hfz41_1 := x2 BK322.out 1;have hfz41_2 := x2 BK322.out 2;obtain ⟨Ao42, co42, eo42⟩ := Kd.R_slice HO321.out;subst eo42;obtain ⟨Ao43, co43, eo43⟩ := Kd.R_slice HO316.out;subst eo43) | ((with_reducible refine gate_callee (f := 13) rfl ?_);refine goesL_ (some 50) rfl rfl Try.func13 (by kernel_rfl) rfl #[.slice Ao43 t314.length co43, .agg #[.int .i64 t317, .int .i64 t318, .slice Ao42 t319.length co42], .bool a2] rfl (by (try simp only [List.map_toArray, List.map_cons, List.map_nil]);first | done | rfl) ?_;(with_reducible refine (impl_DiffusePicture.calls k _ _ t314 t317 t318 _ _ t319 a2 t323 t324 t325 t328 t329 _ ?side1 ?side2 ?side3 ?side4 A17.out).mono ?_);(case side1 => refine (x5 (e := 60) (base := w.heap.size) (ok := fun k_ => (True ∧ some k_ ≠ (v299 : Value).ownBlock)) (n := t314.length) (c := co43) ?_).2.2;exact (by (with_reducible repeat (first|apply z9|apply y1));exact (x6 (x1 (p := ⟨gb322, 2, none⟩) (x1 (p := ⟨gb322, 1, none⟩) (x1 (p := ⟨gb322, 0, none⟩) (x7 HO316.out BK322.out (by decide)) (fun _ hk => hk.2) (.int .i64 t317)) (fun _ hk => hk.2) (.int .i64 t318)) (fun _ hk => hk.2) (.slice Ao42 t319.length co42)) (fun _ h_ => h_.1))));(case side2 => exact (x5 HO316.out).2.1);(case side3 => refine (x5 (e := 3) (base := w.heap.size) (ok := fun k_ => ((True ∧ some k_ ≠ (v304 : Value).ownBlock) ∧ some k_ ≠ (.slice Ao32 t308.length co32 : Value).ownBlock)) (n := t319.length) (c := co42) ?_).2.2;exact (by (with_reducible repeat (first|apply z9|apply y1));exact (x6 (x1 (p := ⟨gb322, 2, none⟩) (x1 (p := ⟨gb322, 1, none⟩) (x1 (p := ⟨gb322, 0, none⟩) (x7 HO321.out BK322.out (by decide)) (fun _ hk => hk.2) (.int .i64 t317)) (fun _ hk => hk.2) (.int .i64 t318)) (fun _ hk => hk.2) (.slice Ao42 t319.length co42)) (fun _ h_ => h_.1))));(case side4 => exact (x5 HO321.out).2.1);rintro e w44 ⟨v326, rfl, ho0, hb⟩;refine ⟨_, rfl, ?_⟩;have n0_ := z0 (x4 (by (with_reducible repeat (first|apply z9|apply y1));exact (x6 (x1 (p := ⟨gb322, 2, none⟩) (x1 (p := ⟨gb322, 1, none⟩) (x1 (p := ⟨gb322, 0, none⟩) (x7 HO300.out BK322.out (by decide)) (fun _ hk => hk.2) (.int .i64 t317)) (fun _ hk => hk.2) (.int .i64 t318)) (fun _ hk => hk.2) (.slice Ao42 t319.length co42)) (fun _ h_ => h_.1))) hb);have n1_ := z0 (y8 (by (with_reducible repeat (first|apply z9|apply y1));exact (x6 (x1 (p := ⟨gb322, 2, none⟩) (x1 (p := ⟨gb322, 1, none⟩) (x1 (p := ⟨gb322, 0, none⟩) (x7 HO305.out BK322.out (by decide)) (fun _ hk => hk.2) (.int .i64 t317)) (fun _ hk => hk.2) (.int .i64 t318)) (fun _ hk => hk.2) (.slice Ao42 t319.length co42)) (fun _ h_ => h_.1))) (w2_ ho0) hb);have n2_ := z0 (y8 (by (with_reducible repeat (first|apply z9|apply y1));exact (x6 (x1 (p := ⟨gb322, 2, none⟩) (x1 (p := ⟨gb322, 1, none⟩) (x1 (p := ⟨gb322, 0, none⟩) (x7 HO310.out BK322.out (by decide)) (fun _ hk => hk.2) (.int .i64 t317)) (fun _ hk => hk.2) (.int .i64 t318)) (fun _ hk => hk.2) (.slice Ao42 t319.length co42)) (fun _ h_ => h_.1))) (w2_ ho0) hb);have n3_ := z0 (x4 (by (with_reducible repeat (first|apply z9|apply y1));exact (x6 (x1 (p := ⟨gb322, 2, none⟩) (x1 (p := ⟨gb322, 1, none⟩) (x1 (p := ⟨gb322, 0, none⟩) (x7 HO316.out BK322.out (by decide)) (fun _ hk => hk.2) (.int .i64 t317)) (fun _ hk => hk.2) (.int .i64 t318)) (fun _ hk => hk.2) (.slice Ao42 t319.length co42)) (fun _ h_ => h_.1))) hb);have n4_ := z0 (y8 (by (with_reducible repeat (first|apply z9|apply y1));exact (x6 (x1 (p := ⟨gb322, 2, none⟩) (x1 (p := ⟨gb322, 1, none⟩) (x1 (p := ⟨gb322, 0, none⟩) (x7 HO321.out BK322.out (by decide)) (fun _ hk => hk.2) (.int .i64 t317)) (fun _ hk => hk.2) (.int .i64 t318)) (fun _ hk => hk.2) (.slice Ao42 t319.length co42)) (fun _ h_ => h_.1))) (w2_ ho0) hb);have n5_ := z0 (w1_ (Kd.R_new' (Kd.R_new' (Kd.R_new' ho0 (Kd.R_lt (by (with_reducible repeat (first|apply z9|apply y1));exact (x6 (x1 (p := ⟨gb322, 2, none⟩) (x1 (p := ⟨gb322, 1, none⟩) (x1 (p := ⟨gb322, 0, none⟩) (x7 HO305.out BK322.out (by decide)) (fun _ hk => hk.2) (.int .i64 t317)) (fun _ hk => hk.2) (.int .i64 t318)) (fun _ hk => hk.2) (.slice Ao42 t319.length co42)) (fun _ h_ => h_.1))))) (Kd.R_lt (by (with_reducible repeat (first|apply z9|apply y1));exact (x6 (x1 (p := ⟨gb322, 2, none⟩) (x1 (p := ⟨gb322, 1, none⟩) (x1 (p := ⟨gb322, 0, none⟩) (x7 HO310.out BK322.out (by decide)) (fun _ hk => hk.2) (.int .i64 t317)) (fun _ hk => hk.2) (.int .i64 t318)) (fun _ hk => hk.2) (.slice Ao42 t319.length co42)) (fun _ h_ => h_.1))))) (Kd.R_lt (by (with_reducible repeat (first|apply z9|apply y1));exact (x6 (x1 (p := ⟨gb322, 2, none⟩) (x1 (p := ⟨gb322, 1, none⟩) (x1 (p := ⟨gb322, 0, none⟩) (x7 HO321.out BK322.out (by decide)) (fun _ hk => hk.2) (.int .i64 t317)) (fun _ hk => hk.2) (.int .i64 t318)) (fun _ hk => hk.2) (.slice Ao42 t319.length co42)) (fun _ h_ => h_.1))))) (y7 (by repeat (first | (with_reducible first|exact HB.out|apply z5|apply z6|refine z7 ?_ GE295.out|refine z7 ?_ GE313.out|refine z7 ?_ GE322.out)|exact HB.out))));have n6_ := z0 (y5 (g := gb295) (o := .cells #[.int .i64 a1_0, .int .i64 a1_1, .slice A1_2 l1_2.length c1_2] 44 (0, 0)) (by (with_reducible repeat (first|refine z1 ?_ _|refine z3 ?_));refine x8 ?_ NB295_322.out _;(with_reducible repeat (first|refine z1 ?_ _|refine z3 ?_));refine x8 ?_ NB295_322.out _;(with_reducible repeat (first|refine z1 ?_ _|refine z3 ?_));refine x8 ?_ NB295_322.out _;(with_reducible repeat (first|refine z1 ?_ _|refine z3 ?_));exact BK295.out) hb);have n7_ := z0 (y5 (g := gb313) (o := .cells #[.int .i64 t306, .int .i64 t307, .slice Ao32 t308.length co32] 31 (0, 0)) (by (with_reducible repeat (first|refine z1 ?_ _|refine z3 ?_));refine x8 ?_ NB313_322.out _;(with_reducible repeat (first|refine z1 ?_ _|refine z3 ?_));refine x8 ?_ NB313_322.out _;(with_reducible repeat (first|refine z1 ?_ _|refine z3 ?_));refine x8 ?_ NB313_322.out _;(with_reducible repeat (first|refine z1 ?_ _|refine z3 ?_));exact BK313.out) hb);have n8_ := z0 (y5 (g := gb322) (o := .cells #[.int .i64 t317, .int .i64 t318, .slice Ao42 t319.length co42] 31 (0, 0)) (by (with_reducible repeat (first|refine z1 ?_ _|refine z3 ?_));refine blk_put (cs := #[.int .i64 t317, .int .i64 t318, .slice none 0 0]) ?_ 2 _ rfl;(with_reducible repeat (first|refine z1 ?_ _|refine z3 ?_));refine blk_put (cs := #[.int .i64 t317, .int .i64 0, .slice none 0 0]) ?_ 1 _ rfl;(with_reducible repeat (first|refine z1 ?_ _|refine z3 ?_));refine blk_put (cs := #[.int .i64 0, .int .i64 0, .slice none 0 0]) ?_ 0 _ rfl;(with_reducible repeat (first|refine z1 ?_ _|refine z3 ?_));exact BK322.out) hb);have n9_ := z0 (y6 (by repeat (first | (with_reducible first|exact HB.out|apply z5|apply z6|refine z7 ?_ GE295.out|refine z7 ?_ GE313.out|refine z7 ?_ GE322.out)|exact HB.out)) hb);clear HO300;clear HO305;clear HO310;clear HO316;clear HO321;clear BK295;clear BK313;clear BK322;clear HB;have HO300 := n0_;have HO305 := n1_;have HO310 := n2_;have HO316 := n3_;have HO321 := n4_;have HO327 := n5_;have BK295 := n6_;have BK313 := n7_;have BK322 := n8_;have HB := n9_;clear n0_ n1_ n2_ n3_ n4_ n5_ n6_ n7_ n8_ n9_;(try clear hb);(try clear ho0)) | ((with_reducible refine gate_dst (N := 13) rfl ?_);refine box_event ?hg (N := 13) ?hd (cs := #[.int .i64 0, .int .i64 0, .slice none 0 0]) (t := 31) ?hr ?_;(case hd => rfl);(case hg => rfl);(case hr => first | (go_simp;done) | (go_simp;rfl));intro gb330 hg w45 hbox hb;have n0_ := z0 (x4 (by (with_reducible repeat (first|apply z9|apply y1));exact HO300.out) hb);have n1_ := z0 (x4 (by (with_reducible repeat (first|apply z9|apply y1));exact HO305.out) hb);have n2_ := z0 (x4 (by (with_reducible repeat (first|apply z9|apply y1));exact HO310.out) hb);have n3_ := z0 (x4 (by (with_reducible repeat (first|apply z9|apply y1));exact HO316.out) hb);have n4_ := z0 (x4 (by (with_reducible repeat (first|apply z9|apply y1));exact HO321.out) hb);have n5_ := z0 (x4 (by (with_reducible repeat (first|apply z9|apply y1));exact HO327.out) hb);have n6_ := z0 (y5 (g := gb295) (o := .cells #[.int .i64 a1_0, .int .i64 a1_1, .slice A1_2 l1_2.length c1_2] 44 (0, 0)) (by (with_reducible repeat (first|refine z1 ?_ _|refine z3 ?_));exact BK295.out) hb);have n7_ := z0 (y5 (g := gb313) (o := .cells #[.int .i64 t306, .int .i64 t307, .slice Ao32 t308.length co32] 31 (0, 0)) (by (with_reducible repeat (first|refine z1 ?_ _|refine z3 ?_));exact BK313.out) hb);have n8_ := z0 (y5 (g := gb322) (o := .cells #[.int .i64 t317, .int .i64 t318, .slice Ao42 t319.length co42] 31 (0, 0)) (by (with_reducible repeat (first|refine z1 ?_ _|refine z3 ?_));exact BK322.out) hb);have n9_ := z0 (y6 (by repeat (first | (with_reducible first|exact HB.out|apply z5|apply z6|refine z7 ?_ GE295.out|refine z7 ?_ GE313.out|refine z7 ?_ GE322.out)|exact HB.out)) hb);have n10_ := z0 (hbox);have n11_ := z0 ((by rw [hg];exact (y7 (by repeat (first | (with_reducible first|exact HB.out|apply z5|apply z6|refine z7 ?_ GE295.out|refine z7 ?_ GE313.out|refine z7 ?_ GE322.out)|exact HB.out))) : w.heap.size ≤ gb330));have n12_ := z0 ((by rw [hg];exact (y7 (by repeat (first | (with_reducible first|exact HB.out|apply z5|apply z6|refine z7 ?_ GE295.out|refine z7 ?_ GE313.out|refine z7 ?_ GE322.out)|exact HB.out))) : w.heap.size ≤ gb330));have n13_ := z0 ((by rw [hg];exact Nat.ne_of_lt (blk_lt (g := gb295) (o := .cells #[.int .i64 a1_0, .int .i64 a1_1, .slice A1_2 l1_2.length c1_2] 44 (0, 0)) (by (with_reducible repeat (first|refine z1 ?_ _|refine z3 ?_));exact BK295.out)) : gb295 ≠ gb330));have n14_ := z0 ((by rw [hg];exact Nat.ne_of_gt (blk_lt (g := gb295) (o := .cells #[.int .i64 a1_0, .int .i64 a1_1, .slice A1_2 l1_2.length c1_2] 44 (0, 0)) (by (with_reducible repeat (first|refine z1 ?_ _|refine z3 ?_));exact BK295.out)) : gb330 ≠ gb295));have n15_ := z0 ((by rw [hg];exact Nat.ne_of_lt (blk_lt (g := gb313) (o := .cells #[.int .i64 t306, .int .i64 t307, .slice Ao32 t308.length co32] 31 (0, 0)) (by (with_reducible repeat (first|refine z1 ?_ _|refine z3 ?_));exact BK313.out)) : gb313 ≠ gb330));have n16_ := z0 ((by rw [hg];exact Nat.ne_of_gt (blk_lt (g := gb313) (o := .cells #[.int .i64 t306, .int .i64 t307, .slice Ao32 t308.length co32] 31 (0, 0)) (by (with_reducible repeat (first|refine z1 ?_ _|refine z3 ?_));exact BK313.out)) : gb330 ≠ gb313));have n17_ := z0 ((by rw [hg];exact Nat.ne_of_lt (blk_lt (g := gb322) (o := .cells #[.int .i64 t317, .int .i64 t318, .slice Ao42 t319.length co42] 31 (0, 0)) (by (with_reducible repeat (first|refine z1 ?_ _|refine z3 ?_));exact BK322.out)) : gb322 ≠ gb330));have n18_ := z0 ((by rw [hg];exact Nat.ne_of_gt (blk_lt (g := gb322) (o := .cells #[.int .i64 t317, .int .i64 t318, .slice Ao42 t319.length co42] 31 (0, 0)) (by (with_reducible repeat (first|refine z1 ?_ _|refine z3 ?_));exact BK322.out)) : gb330 ≠ gb322));clear HO300;clear HO305;clear HO310;clear HO316;clear HO321;clear HO327;clear BK295;clear BK313;clear BK322;clear HB;have HO300 := n0_;have HO305 := n1_;have HO310 := n2_;have HO316 := n3_;have HO321 := n4_;have HO327 := n5_;have BK295 := n6_;have BK313 := n7_;have BK322 := n8_;have HB := n9_;have BK330 := n10_;have GW330 := n11_;have GE330 := n12_;have NB295_330 := n13_;have NB330_295 := n14_;have NB313_330 := n15_;have NB330_313 := n16_;have NB322_330 := n17_;have NB330_322 := n18_;clear n0_ n1_ n2_ n3_ n4_ n5_ n6_ n7_ n8_ n9_ n10_ n11_ n12_ n13_ n14_ n15_ n16_ n17_ n18_;clear hb hbox hg;have hnb46 := NB330_295.out;have hnc46 := NB295_330.out;have hnb47 := NB330_313.out;have hnc47 := NB313_330.out;have hnb48 := NB330_322.out;have hnc48 := NB322_330.out;have hcz49_0 : w45.cell? ⟨gb330, 0, none⟩ = some (.int .i64 0) := (x3 BK330.out 0).trans rfl;have hcz49_1 : w45.cell? ⟨gb330, 1, none⟩ = some (.int .i64 0) := (x3 BK330.out 1).trans rfl;have hcz49_2 : w45.cell? ⟨gb330, 2, none⟩ = some (.slice none 0 0) := (x3 BK330.out 2).trans rfl;have hfz49_0 := x2 BK330.out 0;have hfz49_1 := x2 BK330.out 1;have hfz49_2 := x2 BK330.out 2;obtain ⟨Ao50, co50, eo50⟩ := Kd.R_slice HO327.out;subst eo50))
   (try simp only [Act.put, s1_, s2_, s3_])
   go_cut [67] (fun v67 wc => ∃ (kq : Nat) (x67_17 : Bool), v67 = .bool x67_17 ∧ Aside0 (laws_FnExactDiffusePicture.j0 kq l0 a2 t311 t312 t314 t328 t329 x67_17 a1_0 a1_1 l1_2 t306 t307 t308 t317 t318 t319 t323 t324 t325 = some r) ∧ Aside0 (kq ≤ k) ∧ Aside0 (Kd.R k60 60 wc w.heap.size (fun _ => True) (.slice Ao43 t314.length co43) t314) ∧ Aside0 (Kd.R (Kd.int .i64) 3 wc w.heap.size (fun k_ => some k_ ≠ ((.slice Ao42 t319.length co42) : Value).ownBlock ∧ some k_ ≠ ((.slice Ao50 t325.length co50) : Value).ownBlock) (.slice Ao32 t308.length co32) t308) ∧ Aside0 (Kd.R (Kd.int .i64) 3 wc w.heap.size (fun k_ => some k_ ≠ ((.slice Ao32 t308.length co32) : Value).ownBlock ∧ some k_ ≠ ((.slice Ao50 t325.length co50) : Value).ownBlock) (.slice Ao42 t319.length co42) t319) ∧ Aside0 (Kd.R (Kd.int .i64) 3 wc w.heap.size (fun k_ => some k_ ≠ ((.slice Ao32 t308.length co32) : Value).ownBlock ∧ some k_ ≠ ((.slice Ao42 t319.length co42) : Value).ownBlock) (.slice Ao50 t325.length co50) t325) ∧ Aside0 (wc.heap[gb295]? = some (.cells #[.int .i64 a1_0, .int .i64 a1_1, (.slice A1_2 l1_2.length c1_2)] 44 (0, 0))) ∧ Aside0 (wc.heap[gb313]? = some (.cells #[.int .i64 t306, .int .i64 t307, (.slice Ao32 t308.length co32)] 31 (0, 0))) ∧ Aside0 (wc.heap[gb322]? = some (.cells #[.int .i64 t317, .int .i64 t318, (.slice Ao42 t319.length co42)] 31 (0, 0))) ∧ Aside0 (wc.heap[gb330]? = some (.cells #[.int .i64 t323, .int .i64 t324, (.slice Ao50 t325.length co50)] 31 (0, 0))) ∧ Aside0 (Below w.heap.size w wc))
   case first =>
    have H := HC18.out
    clear HC18
    replace H := Option.bind_eq_some_iff.mp H
    obtain ⟨t331, A510, H⟩ := H
    replace H : (if t331 = true then (if t328 = t311 then (laws_FnExactDiffusePicture.j0 k l0 a2 t311 t312 t314 t328 t329 (t329 != t312) a1_0 a1_1 l1_2 t306 t307 t308 t317 t318 t319 t323 t324 t325) else (laws_FnExactDiffusePicture.j0 k l0 a2 t311 t312 t314 t328 t329 true a1_0 a1_1 l1_2 t306 t307 t308 t317 t318 t319 t323 t324 t325)) else (laws_FnExactDiffusePicture.j0 k l0 a2 t311 t312 t314 t328 t329 true a1_0 a1_1 l1_2 t306 t307 t308 t317 t318 t319 t323 t324 t325)) = some r := H
    have A51 := z0 A510
    clear A510
    by_cases c52 : t331 = true
    ·subst c52
     have H1 : (if t328 = t311 then (laws_FnExactDiffusePicture.j0 k l0 a2 t311 t312 t314 t328 t329 (t329 != t312) a1_0 a1_1 l1_2 t306 t307 t308 t317 t318 t319 t323 t324 t325) else (laws_FnExactDiffusePicture.j0 k l0 a2 t311 t312 t314 t328 t329 true a1_0 a1_1 l1_2 t306 t307 t308 t317 t318 t319 t323 t324 t325)) = some r := by rw [if_pos rfl] at H;first|exact H | (simp only [if_true] at H ⊢;exact H)
     clear H
     have H := H1
     clear H1
     by_cases c53 : t328 = t311
     ·rw [if_pos c53] at H
      have c53b0 : (t328 == t311) = true := beq_iff_eq.mpr c53
      have c53b1 : (t328 != t311) = false := bne_eq_false_iff_eq.mpr c53
      clear c53
      (first | rw [c53b0] | (simp only [i64_w, i32_w];rw [c53b0]) | skip)
      have H' := z0 H
      clear H
      have hnb54 := NB330_295.out
      have hnc54 := NB295_330.out
      have hnb55 := NB330_313.out
      have hnc55 := NB313_330.out
      have hnb56 := NB330_322.out
      have hnc56 := NB322_330.out
      have hcz57_0 : w45.cell? ⟨gb330, 0, none⟩ = some (.int .i64 0) := (x3 BK330.out 0).trans rfl
      have hcz57_1 : w45.cell? ⟨gb330, 1, none⟩ = some (.int .i64 0) := (x3 BK330.out 1).trans rfl
      have hcz57_2 : w45.cell? ⟨gb330, 2, none⟩ = some (.slice none 0 0) := (x3 BK330.out 2).trans rfl
      have hfz57_0 := x2 BK330.out 0
      have hfz57_1 := x2 BK330.out 1
      have hfz57_2 := x2 BK330.out 2
      have hnb58 := NB313_295.out
      have hnc58 := NB295_313.out
      have hnb59 := NB313_322.out
      have hnc59 := NB322_313.out
      have hcz60_0 : w45.cell? ⟨gb313, 0, none⟩ = some (.int .i64 t306) := (x3 BK313.out 0).trans rfl
      have hcz60_1 : w45.cell? ⟨gb313, 1, none⟩ = some (.int .i64 t307) := (x3 BK313.out 1).trans rfl
      have hcz60_2 : w45.cell? ⟨gb313, 2, none⟩ = some (.slice Ao32 t308.length co32) := (x3 BK313.out 2).trans rfl
      have hfz60_0 := x2 BK313.out 0
      have hfz60_1 := x2 BK313.out 1
      have hfz60_2 := x2 BK313.out 2
      go_wp2_with (first | ((with_reducible refine gate_callee (f := 30) rfl ?_);refine goesL_ (some 56) rfl rfl Try.func30 (by kernel_rfl) rfl #[.agg #[.int .i64 t323, .int .i64 t324, .slice Ao50 t325.length co50], .agg #[.int .i64 t306, .int .i64 t307, .slice Ao32 t308.length co32]] rfl (by (try simp only [List.map_toArray, List.map_cons, List.map_nil]);first | done | rfl) ?_;(with_reducible refine (laws_eqPicture.calls k t323 t324 _ _ t325 t306 t307 _ _ t308 true _ ?side1 ?side2 ?side3 ?side4 A51.out).mono ?_);(case side1 => refine (x5 (e := 3) (base := w.heap.size) (ok := fun k_ => (((True ∧ some k_ ≠ (v304 : Value).ownBlock) ∧ some k_ ≠ (.slice Ao32 t308.length co32 : Value).ownBlock) ∧ some k_ ≠ (.slice Ao42 t319.length co42 : Value).ownBlock)) (n := t325.length) (c := co50) ?_).2.2;exact (by (with_reducible repeat (first|apply z9|apply y1));exact (x6 (x1 (p := ⟨gb330, 2, none⟩) (x1 (p := ⟨gb330, 1, none⟩) (x1 (p := ⟨gb330, 0, none⟩) (x7 HO327.out BK330.out (by decide)) (fun _ hk => hk.2) (.int .i64 t323)) (fun _ hk => hk.2) (.int .i64 t324)) (fun _ hk => hk.2) (.slice Ao50 t325.length co50)) (fun _ h_ => h_.1))));(case side2 => exact (x5 HO327.out).2.1);(case side3 => refine (x5 (e := 3) (base := w.heap.size) (ok := fun k_ => ((some k_ ≠ (v304 : Value).ownBlock ∧ some k_ ≠ (.slice Ao42 t319.length co42 : Value).ownBlock) ∧ some k_ ≠ (.slice Ao50 t325.length co50 : Value).ownBlock)) (n := t308.length) (c := co32) ?_).2.2;exact (by (with_reducible repeat (first|apply z9|apply y1));exact (x6 (x1 (p := ⟨gb330, 2, none⟩) (x1 (p := ⟨gb330, 1, none⟩) (x1 (p := ⟨gb330, 0, none⟩) (x7 HO310.out BK330.out (by decide)) (fun _ hk => hk.2) (.int .i64 t323)) (fun _ hk => hk.2) (.int .i64 t324)) (fun _ hk => hk.2) (.slice Ao50 t325.length co50)) (fun _ h_ => h_.1))));(case side4 => exact (x5 HO310.out).2.1);rintro e w61 ⟨rfl, hb⟩;refine ⟨_, rfl, ?_⟩;have n0_ := z0 (x4 (by (with_reducible repeat (first|apply z9|apply y1));exact (x6 (x1 (p := ⟨gb330, 2, none⟩) (x1 (p := ⟨gb330, 1, none⟩) (x1 (p := ⟨gb330, 0, none⟩) (x7 HO300.out BK330.out (by decide)) (fun _ hk => hk.2) (.int .i64 t323)) (fun _ hk => hk.2) (.int .i64 t324)) (fun _ hk => hk.2) (.slice Ao50 t325.length co50)) (fun _ h_ => h_.1))) hb);have n1_ := z0 (x4 (by (with_reducible repeat (first|apply z9|apply y1));exact (x6 (x1 (p := ⟨gb330, 2, none⟩) (x1 (p := ⟨gb330, 1, none⟩) (x1 (p := ⟨gb330, 0, none⟩) (x7 HO305.out BK330.out (by decide)) (fun _ hk => hk.2) (.int .i64 t323)) (fun _ hk => hk.2) (.int .i64 t324)) (fun _ hk => hk.2) (.slice Ao50 t325.length co50)) (fun _ h_ => h_.1))) hb);have n2_ := z0 (x4 (by (with_reducible repeat (first|apply z9|apply y1));exact (x6 (x1 (p := ⟨gb330, 2, none⟩) (x1 (p := ⟨gb330, 1, none⟩) (x1 (p := ⟨gb330, 0, none⟩) (x7 HO310.out BK330.out (by decide)) (fun _ hk => hk.2) (.int .i64 t323)) (fun _ hk => hk.2) (.int .i64 t324)) (fun _ hk => hk.2) (.slice Ao50 t325.length co50)) (fun _ h_ => h_.1))) hb);have n3_ := z0 (x4 (by (with_reducible repeat (first|apply z9|apply y1));exact (x6 (x1 (p := ⟨gb330, 2, none⟩) (x1 (p := ⟨gb330, 1, none⟩) (x1 (p := ⟨gb330, 0, none⟩) (x7 HO316.out BK330.out (by decide)) (fun _ hk => hk.2) (.int .i64 t323)) (fun _ hk => hk.2) (.int .i64 t324)) (fun _ hk => hk.2) (.slice Ao50 t325.length co50)) (fun _ h_ => h_.1))) hb);have n4_ := z0 (x4 (by (with_reducible repeat (first|apply z9|apply y1));exact (x6 (x1 (p := ⟨gb330, 2, none⟩) (x1 (p := ⟨gb330, 1, none⟩) (x1 (p := ⟨gb330, 0, none⟩) (x7 HO321.out BK330.out (by decide)) (fun _ hk => hk.2) (.int .i64 t323)) (fun _ hk => hk.2) (.int .i64 t324)) (fun _ hk => hk.2) (.slice Ao50 t325.length co50)) (fun _ h_ => h_.1))) hb);have n5_ := z0 (x4 (by (with_reducible repeat (first|apply z9|apply y1));exact (x6 (x1 (p := ⟨gb330, 2, none⟩) (x1 (p := ⟨gb330, 1, none⟩) (x1 (p := ⟨gb330, 0, none⟩) (x7 HO327.out BK330.out (by decide)) (fun _ hk => hk.2) (.int .i64 t323)) (fun _ hk => hk.2) (.int .i64 t324)) (fun _ hk => hk.2) (.slice Ao50 t325.length co50)) (fun _ h_ => h_.1))) hb);have n6_ := z0 (y5 (g := gb295) (o := .cells #[.int .i64 a1_0, .int .i64 a1_1, .slice A1_2 l1_2.length c1_2] 44 (0, 0)) (by (with_reducible repeat (first|refine z1 ?_ _|refine z3 ?_));refine x8 ?_ NB295_330.out _;(with_reducible repeat (first|refine z1 ?_ _|refine z3 ?_));refine x8 ?_ NB295_330.out _;(with_reducible repeat (first|refine z1 ?_ _|refine z3 ?_));refine x8 ?_ NB295_330.out _;(with_reducible repeat (first|refine z1 ?_ _|refine z3 ?_));exact BK295.out) hb);have n7_ := z0 (y5 (g := gb313) (o := .cells #[.int .i64 t306, .int .i64 t307, .slice Ao32 t308.length co32] 31 (0, 0)) (by (with_reducible repeat (first|refine z1 ?_ _|refine z3 ?_));refine x8 ?_ NB313_330.out _;(with_reducible repeat (first|refine z1 ?_ _|refine z3 ?_));refine x8 ?_ NB313_330.out _;(with_reducible repeat (first|refine z1 ?_ _|refine z3 ?_));refine x8 ?_ NB313_330.out _;(with_reducible repeat (first|refine z1 ?_ _|refine z3 ?_));exact BK313.out) hb);have n8_ := z0 (y5 (g := gb322) (o := .cells #[.int .i64 t317, .int .i64 t318, .slice Ao42 t319.length co42] 31 (0, 0)) (by (with_reducible repeat (first|refine z1 ?_ _|refine z3 ?_));refine x8 ?_ NB322_330.out _;(with_reducible repeat (first|refine z1 ?_ _|refine z3 ?_));refine x8 ?_ NB322_330.out _;(with_reducible repeat (first|refine z1 ?_ _|refine z3 ?_));refine x8 ?_ NB322_330.out _;(with_reducible repeat (first|refine z1 ?_ _|refine z3 ?_));exact BK322.out) hb);have n9_ := z0 (y5 (g := gb330) (o := .cells #[.int .i64 t323, .int .i64 t324, .slice Ao50 t325.length co50] 31 (0, 0)) (by (with_reducible repeat (first|refine z1 ?_ _|refine z3 ?_));refine blk_put (cs := #[.int .i64 t323, .int .i64 t324, .slice none 0 0]) ?_ 2 _ rfl;(with_reducible repeat (first|refine z1 ?_ _|refine z3 ?_));refine blk_put (cs := #[.int .i64 t323, .int .i64 0, .slice none 0 0]) ?_ 1 _ rfl;(with_reducible repeat (first|refine z1 ?_ _|refine z3 ?_));refine blk_put (cs := #[.int .i64 0, .int .i64 0, .slice none 0 0]) ?_ 0 _ rfl;(with_reducible repeat (first|refine z1 ?_ _|refine z3 ?_));exact BK330.out) hb);have n10_ := z0 (y6 (by repeat (first | (with_reducible first|exact HB.out|apply z5|apply z6|refine z7 ?_ GE295.out|refine z7 ?_ GE313.out|refine z7 ?_ GE322.out|refine z7 ?_ GE330.out)|exact HB.out)) hb);clear HO300;clear HO305;clear HO310;clear HO316;clear HO321;clear HO327;clear BK295;clear BK313;clear BK322;clear BK330;clear HB;have HO300 := n0_;have HO305 := n1_;have HO310 := n2_;have HO316 := n3_;have HO321 := n4_;have HO327 := n5_;have BK295 := n6_;have BK313 := n7_;have BK322 := n8_;have BK330 := n9_;have HB := n10_;clear n0_ n1_ n2_ n3_ n4_ n5_ n6_ n7_ n8_ n9_ n10_;(try clear hb)))
      go_meet
      case rel => exact ⟨_, ((t329 != t312)), (by first | rfl | (simp;done) | (simp [*];done)), H', ⟨by first | omega|exact Nat.le_refl _⟩, ⟨by (with_reducible repeat (first|apply z9|apply y1));exact x6 HO316.out (fun _ hk => trivial)⟩, ⟨by (with_reducible repeat (first|apply z9|apply y1));exact x6 HO310.out (fun _ hk => ⟨hk.1.2, hk.2⟩)⟩, ⟨by (with_reducible repeat (first|apply z9|apply y1));exact x6 HO321.out (fun _ hk => ⟨hk.1.2, hk.2⟩)⟩, ⟨by (with_reducible repeat (first|apply z9|apply y1));exact x6 HO327.out (fun _ hk => ⟨hk.1.2, hk.2⟩)⟩, ⟨by (with_reducible repeat (first|refine z1 ?_ _|refine z3 ?_));exact BK295.out⟩, ⟨by (with_reducible repeat (first|refine z1 ?_ _|refine z3 ?_));exact BK313.out⟩, ⟨by (with_reducible repeat (first|refine z1 ?_ _|refine z3 ?_));exact BK322.out⟩, ⟨by (with_reducible repeat (first|refine z1 ?_ _|refine z3 ?_));exact BK330.out⟩, ⟨by repeat (first | (with_reducible first|exact HB.out|apply z5|apply z6|refine z7 ?_ GE295.out|refine z7 ?_ GE313.out|refine z7 ?_ GE322.out|refine z7 ?_ GE330.out)|exact HB.out)⟩⟩
     ·rw [if_neg c53] at H
      have c53b0 : (t328 == t311) = false := beq_eq_false_iff_ne.mpr c53
      have c53b1 : (t328 != t311) = true := bne_iff_ne.mpr c53
      (first | rw [c53b0] | (simp only [i64_w, i32_w];rw [c53b0]) | skip)
      exact absurd H (by rw [HRT_.out];generalize k = k_;cases k_ with | zero => (rw [laws_FnExactDiffusePicture.j0];simp) | succ k_ => (rw [laws_FnExactDiffusePicture.j0, if_pos rfl];simp))
    ·replace c52 := Bool.eq_false_iff.mpr c52
     subst c52
     have H1 : (laws_FnExactDiffusePicture.j0 k l0 a2 t311 t312 t314 t328 t329 true a1_0 a1_1 l1_2 t306 t307 t308 t317 t318 t319 t323 t324 t325) = some r := by rw [if_neg (show ¬ (false = true) by decide)] at H;first|exact H | (simp only [if_true] at H ⊢;exact H)
     clear H
     have H := H1
     clear H1
     exact absurd H (by rw [HRT_.out];generalize k = k_;cases k_ with | zero => (rw [laws_FnExactDiffusePicture.j0];simp) | succ k_ => (rw [laws_FnExactDiffusePicture.j0, if_pos rfl];simp))
   case rest =>
    clear HC18
    try clear c1
    try clear c2
    try clear p2
    try clear c3
    try clear c4
    try clear c5
    try clear c13
    try clear c25
    try clear c26
    try clear c30
    try clear c35
    try clear c39
    try clear c40
    try clear c46
    try clear c47
    try clear c48
    try clear c52
    try clear c53
    try clear c53b0
    try clear c53b1
    try clear c54
    try clear c55
    try clear c56
    try clear c58
    try clear c59
    try clear hcz36_0
    try clear hcz36_1
    try clear hcz36_2
    try clear hcz41_0
    try clear hcz41_1
    try clear hcz41_2
    try clear hcz49_0
    try clear hcz49_1
    try clear hcz49_2
    try clear hcz57_0
    try clear hcz57_1
    try clear hcz57_2
    try clear hcz60_0
    try clear hcz60_1
    try clear hcz60_2
    try clear hfz36_0
    try clear hfz36_1
    try clear hfz36_2
    try clear hfz41_0
    try clear hfz41_1
    try clear hfz41_2
    try clear hfz49_0
    try clear hfz49_1
    try clear hfz49_2
    try clear hfz57_0
    try clear hfz57_1
    try clear hfz57_2
    try clear hfz60_0
    try clear hfz60_1
    try clear hfz60_2
    obtain ⟨kq, x67_17, rfl, HA, HJ17, HO_11, Ha_, Hb_, Hc_, BK295, BK313, BK322, BK330, HB⟩ := hcut
    cases kq with
    | zero => exact absurd HA.out (by simp [laws_FnExactDiffusePicture.j0])
    | succ kj17 =>
     have H := HA.out
     clear HA
     simp only [laws_FnExactDiffusePicture.j0] at H
     by_cases c62 : x67_17 = true
     ·subst c62
      have H1 : (some false) = some r := by rw [if_pos rfl] at H;first|exact H | (simp only [if_true] at H ⊢;exact H)
      clear H
      have H := H1
      clear H1
      exact absurd (Option.some.inj H) (by rw [HRT_.out];decide)
     ·replace c62 := Bool.eq_false_iff.mpr c62
      subst c62
      have H1 : ((laws_toPartS.f kj17 l0).bind fun t332 => ((laws_eqPartS.f kj17 t314 t332).bind fun t335 => (if t335 = true then ((laws_toPicture.f kj17 a1_0 a1_1 l1_2).bind fun bt336 => ((laws_eqPicture.f kj17 t317 t318 t319 bt336.1 bt336.2.1 bt336.2.2).bind fun t341 => (if t341 = true then ((laws_markPartS.f kj17 t314 1).bind fun bt342 => ((laws_markPicture.f kj17 t317 t318 t319 bt342.1).bind fun bt344 => (if bt344.1 < 0 then (laws_FnExactDiffusePicture.j1 kj17 l0 a2 t311 t312 true a1_0 a1_1 l1_2 t306 t307 t308 t323 t324 t325) else ((laws_eqPicture.f kj17 t323 t324 t325 t306 t307 t308).bind fun t346 => (if t346 = true then (if t328 = t311 then (laws_FnExactDiffusePicture.j1 kj17 l0 a2 t311 t312 (t329 != t312) a1_0 a1_1 l1_2 t306 t307 t308 t323 t324 t325) else (laws_FnExactDiffusePicture.j1 kj17 l0 a2 t311 t312 true a1_0 a1_1 l1_2 t306 t307 t308 t323 t324 t325)) else (laws_FnExactDiffusePicture.j1 kj17 l0 a2 t311 t312 true a1_0 a1_1 l1_2 t306 t307 t308 t323 t324 t325)))))) else (some false)))) else (some false)))) = some r := by rw [if_neg (show ¬ (false = true) by decide)] at H;first|exact H | (simp only [if_true] at H ⊢;exact H)
      clear H
      have H := H1
      clear H1
      replace H := Option.bind_eq_some_iff.mp H
      obtain ⟨t332, A630, H⟩ := H
      replace H : ((laws_eqPartS.f kj17 t314 t332).bind fun t335 => (if t335 = true then ((laws_toPicture.f kj17 a1_0 a1_1 l1_2).bind fun bt336 => ((laws_eqPicture.f kj17 t317 t318 t319 bt336.1 bt336.2.1 bt336.2.2).bind fun t341 => (if t341 = true then ((laws_markPartS.f kj17 t314 1).bind fun bt342 => ((laws_markPicture.f kj17 t317 t318 t319 bt342.1).bind fun bt344 => (if bt344.1 < 0 then (laws_FnExactDiffusePicture.j1 kj17 l0 a2 t311 t312 true a1_0 a1_1 l1_2 t306 t307 t308 t323 t324 t325) else ((laws_eqPicture.f kj17 t323 t324 t325 t306 t307 t308).bind fun t346 => (if t346 = true then (if t328 = t311 then (laws_FnExactDiffusePicture.j1 kj17 l0 a2 t311 t312 (t329 != t312) a1_0 a1_1 l1_2 t306 t307 t308 t323 t324 t325) else (laws_FnExactDiffusePicture.j1 kj17 l0 a2 t311 t312 true a1_0 a1_1 l1_2 t306 t307 t308 t323 t324 t325)) else (laws_FnExactDiffusePicture.j1 kj17 l0 a2 t311 t312 true a1_0 a1_1 l1_2 t306 t307 t308 t323 t324 t325)))))) else (some false)))) else (some false))) = some r := H
      have A63 := z0 A630
      clear A630
      replace H := Option.bind_eq_some_iff.mp H
      obtain ⟨t335, A640, H⟩ := H
      replace H : (if t335 = true then ((laws_toPicture.f kj17 a1_0 a1_1 l1_2).bind fun bt336 => ((laws_eqPicture.f kj17 t317 t318 t319 bt336.1 bt336.2.1 bt336.2.2).bind fun t341 => (if t341 = true then ((laws_markPartS.f kj17 t314 1).bind fun bt342 => ((laws_markPicture.f kj17 t317 t318 t319 bt342.1).bind fun bt344 => (if bt344.1 < 0 then (laws_FnExactDiffusePicture.j1 kj17 l0 a2 t311 t312 true a1_0 a1_1 l1_2 t306 t307 t308 t323 t324 t325) else ((laws_eqPicture.f kj17 t323 t324 t325 t306 t307 t308).bind fun t346 => (if t346 = true then (if t328 = t311 then (laws_FnExactDiffusePicture.j1 kj17 l0 a2 t311 t312 (t329 != t312) a1_0 a1_1 l1_2 t306 t307 t308 t323 t324 t325) else (laws_FnExactDiffusePicture.j1 kj17 l0 a2 t311 t312 true a1_0 a1_1 l1_2 t306 t307 t308 t323 t324 t325)) else (laws_FnExactDiffusePicture.j1 kj17 l0 a2 t311 t312 true a1_0 a1_1 l1_2 t306 t307 t308 t323 t324 t325)))))) else (some false)))) else (some false)) = some r := H
      have A64 := z0 A640
      clear A640
      by_cases c65 : t335 = true
      ·subst c65
       have H1 : ((laws_toPicture.f kj17 a1_0 a1_1 l1_2).bind fun bt336 => ((laws_eqPicture.f kj17 t317 t318 t319 bt336.1 bt336.2.1 bt336.2.2).bind fun t341 => (if t341 = true then ((laws_markPartS.f kj17 t314 1).bind fun bt342 => ((laws_markPicture.f kj17 t317 t318 t319 bt342.1).bind fun bt344 => (if bt344.1 < 0 then (laws_FnExactDiffusePicture.j1 kj17 l0 a2 t311 t312 true a1_0 a1_1 l1_2 t306 t307 t308 t323 t324 t325) else ((laws_eqPicture.f kj17 t323 t324 t325 t306 t307 t308).bind fun t346 => (if t346 = true then (if t328 = t311 then (laws_FnExactDiffusePicture.j1 kj17 l0 a2 t311 t312 (t329 != t312) a1_0 a1_1 l1_2 t306 t307 t308 t323 t324 t325) else (laws_FnExactDiffusePicture.j1 kj17 l0 a2 t311 t312 true a1_0 a1_1 l1_2 t306 t307 t308 t323 t324 t325)) else (laws_FnExactDiffusePicture.j1 kj17 l0 a2 t311 t312 true a1_0 a1_1 l1_2 t306 t307 t308 t323 t324 t325)))))) else (some false)))) = some r := by rw [if_pos rfl] at H;first|exact H | (simp only [if_true] at H ⊢;exact H)
       clear H
       have H := H1
       clear H1
       replace H := Option.bind_eq_some_iff.mp H
       obtain ⟨⟨t336, t337, t338⟩, A660, H⟩ := H
       replace H : ((laws_eqPicture.f kj17 t317 t318 t319 t336 t337 t338).bind fun t341 => (if t341 = true then ((laws_markPartS.f kj17 t314 1).bind fun bt342 => ((laws_markPicture.f kj17 t317 t318 t319 bt342.1).bind fun bt344 => (if bt344.1 < 0 then (laws_FnExactDiffusePicture.j1 kj17 l0 a2 t311 t312 true a1_0 a1_1 l1_2 t306 t307 t308 t323 t324 t325) else ((laws_eqPicture.f kj17 t323 t324 t325 t306 t307 t308).bind fun t346 => (if t346 = true then (if t328 = t311 then (laws_FnExactDiffusePicture.j1 kj17 l0 a2 t311 t312 (t329 != t312) a1_0 a1_1 l1_2 t306 t307 t308 t323 t324 t325) else (laws_FnExactDiffusePicture.j1 kj17 l0 a2 t311 t312 true a1_0 a1_1 l1_2 t306 t307 t308 t323 t324 t325)) else (laws_FnExactDiffusePicture.j1 kj17 l0 a2 t311 t312 true a1_0 a1_1 l1_2 t306 t307 t308 t323 t324 t325)))))) else (some false))) = some r := H
       have A66 := z0 A660
       clear A660
       replace H := Option.bind_eq_some_iff.mp H
       obtain ⟨t341, A670, H⟩ := H
       replace H : (if t341 = true then ((laws_markPartS.f kj17 t314 1).bind fun bt342 => ((laws_markPicture.f kj17 t317 t318 t319 bt342.1).bind fun bt344 => (if bt344.1 < 0 then (laws_FnExactDiffusePicture.j1 kj17 l0 a2 t311 t312 true a1_0 a1_1 l1_2 t306 t307 t308 t323 t324 t325) else ((laws_eqPicture.f kj17 t323 t324 t325 t306 t307 t308).bind fun t346 => (if t346 = true then (if t328 = t311 then (laws_FnExactDiffusePicture.j1 kj17 l0 a2 t311 t312 (t329 != t312) a1_0 a1_1 l1_2 t306 t307 t308 t323 t324 t325) else (laws_FnExactDiffusePicture.j1 kj17 l0 a2 t311 t312 true a1_0 a1_1 l1_2 t306 t307 t308 t323 t324 t325)) else (laws_FnExactDiffusePicture.j1 kj17 l0 a2 t311 t312 true a1_0 a1_1 l1_2 t306 t307 t308 t323 t324 t325)))))) else (some false)) = some r := H
       have A67 := z0 A670
       clear A670
       by_cases c68 : t341 = true
       ·subst c68
        have H1 : ((laws_markPartS.f kj17 t314 1).bind fun bt342 => ((laws_markPicture.f kj17 t317 t318 t319 bt342.1).bind fun bt344 => (if bt344.1 < 0 then (laws_FnExactDiffusePicture.j1 kj17 l0 a2 t311 t312 true a1_0 a1_1 l1_2 t306 t307 t308 t323 t324 t325) else ((laws_eqPicture.f kj17 t323 t324 t325 t306 t307 t308).bind fun t346 => (if t346 = true then (if t328 = t311 then (laws_FnExactDiffusePicture.j1 kj17 l0 a2 t311 t312 (t329 != t312) a1_0 a1_1 l1_2 t306 t307 t308 t323 t324 t325) else (laws_FnExactDiffusePicture.j1 kj17 l0 a2 t311 t312 true a1_0 a1_1 l1_2 t306 t307 t308 t323 t324 t325)) else (laws_FnExactDiffusePicture.j1 kj17 l0 a2 t311 t312 true a1_0 a1_1 l1_2 t306 t307 t308 t323 t324 t325)))))) = some r := by rw [if_pos rfl] at H;first|exact H | (simp only [if_true] at H ⊢;exact H)
        clear H
        have H := H1
        clear H1
        replace H := Option.bind_eq_some_iff.mp H
        obtain ⟨⟨t342, t343⟩, A690, H⟩ := H
        replace H : ((laws_markPicture.f kj17 t317 t318 t319 t342).bind fun bt344 => (if bt344.1 < 0 then (laws_FnExactDiffusePicture.j1 kj17 l0 a2 t311 t312 true a1_0 a1_1 l1_2 t306 t307 t308 t323 t324 t325) else ((laws_eqPicture.f kj17 t323 t324 t325 t306 t307 t308).bind fun t346 => (if t346 = true then (if t328 = t311 then (laws_FnExactDiffusePicture.j1 kj17 l0 a2 t311 t312 (t329 != t312) a1_0 a1_1 l1_2 t306 t307 t308 t323 t324 t325) else (laws_FnExactDiffusePicture.j1 kj17 l0 a2 t311 t312 true a1_0 a1_1 l1_2 t306 t307 t308 t323 t324 t325)) else (laws_FnExactDiffusePicture.j1 kj17 l0 a2 t311 t312 true a1_0 a1_1 l1_2 t306 t307 t308 t323 t324 t325))))) = some r := H
        have A69 := z0 A690
        clear A690
        replace H := Option.bind_eq_some_iff.mp H
        obtain ⟨⟨t344, t345⟩, A700, H⟩ := H
        replace H : (if t344 < 0 then (laws_FnExactDiffusePicture.j1 kj17 l0 a2 t311 t312 true a1_0 a1_1 l1_2 t306 t307 t308 t323 t324 t325) else ((laws_eqPicture.f kj17 t323 t324 t325 t306 t307 t308).bind fun t346 => (if t346 = true then (if t328 = t311 then (laws_FnExactDiffusePicture.j1 kj17 l0 a2 t311 t312 (t329 != t312) a1_0 a1_1 l1_2 t306 t307 t308 t323 t324 t325) else (laws_FnExactDiffusePicture.j1 kj17 l0 a2 t311 t312 true a1_0 a1_1 l1_2 t306 t307 t308 t323 t324 t325)) else (laws_FnExactDiffusePicture.j1 kj17 l0 a2 t311 t312 true a1_0 a1_1 l1_2 t306 t307 t308 t323 t324 t325)))) = some r := H
        have A70 := z0 A700
        clear A700
        have HC71 := z0 H
        clear H
        try go_wp2_with (first | ((with_reducible refine gate_callee (f := 25) rfl ?_);refine goesL_ (some 70) rfl rfl Try.func25 (by kernel_rfl) rfl #[.slice A0 l0.length c0] rfl (by (try simp only [List.map_toArray, List.map_cons, List.map_nil]);first | done | rfl) ?_;(with_reducible refine (laws_toPartS.calls kj17 _ _ l0 t332 _ ?side1 ?side2 A63.out).mono ?_);(case side1 => repeat (first|exact (y9 HR0.out HB.out) | (with_reducible refine y3 ?_ _) | (with_reducible refine y4 ?_)));(case side2 => exact HC0.out);rintro e w72 ⟨v333, rfl, ho0, hb⟩;refine ⟨_, rfl, ?_⟩;have n0_ := z0 (y8 (by (with_reducible repeat (first|apply z9|apply y1));exact HO_11.out) (w2_ ho0) hb);have n1_ := z0 (x4 (by (with_reducible repeat (first|apply z9|apply y1));exact Ha_.out) hb);have n2_ := z0 (x4 (by (with_reducible repeat (first|apply z9|apply y1));exact Hb_.out) hb);have n3_ := z0 (x4 (by (with_reducible repeat (first|apply z9|apply y1));exact Hc_.out) hb);have n4_ := z0 (w1_ (Kd.R_new' ho0 (Kd.R_lt (by (with_reducible repeat (first|apply z9|apply y1));exact HO_11.out))) (y7 (by repeat (first | (with_reducible first|exact HB.out|apply z5|apply z6|refine z7 ?_ GE295.out|refine z7 ?_ GE313.out|refine z7 ?_ GE322.out|refine z7 ?_ GE330.out)|exact HB.out))));have n5_ := z0 (y5 (g := gb295) (o := .cells #[.int .i64 a1_0, .int .i64 a1_1, .slice A1_2 l1_2.length c1_2] 44 (0, 0)) (by (with_reducible repeat (first|refine z1 ?_ _|refine z3 ?_));exact BK295.out) hb);have n6_ := z0 (y5 (g := gb313) (o := .cells #[.int .i64 t306, .int .i64 t307, .slice Ao32 t308.length co32] 31 (0, 0)) (by (with_reducible repeat (first|refine z1 ?_ _|refine z3 ?_));exact BK313.out) hb);have n7_ := z0 (y5 (g := gb322) (o := .cells #[.int .i64 t317, .int .i64 t318, .slice Ao42 t319.length co42] 31 (0, 0)) (by (with_reducible repeat (first|refine z1 ?_ _|refine z3 ?_));exact BK322.out) hb);have n8_ := z0 (y5 (g := gb330) (o := .cells #[.int .i64 t323, .int .i64 t324, .slice Ao50 t325.length co50] 31 (0, 0)) (by (with_reducible repeat (first|refine z1 ?_ _|refine z3 ?_));exact BK330.out) hb);have n9_ := z0 (y6 (by repeat (first | (with_reducible first|exact HB.out|apply z5|apply z6|refine z7 ?_ GE295.out|refine z7 ?_ GE313.out|refine z7 ?_ GE322.out|refine z7 ?_ GE330.out)|exact HB.out)) hb);clear HO_11;clear Ha_;clear Hb_;clear Hc_;clear BK295;clear BK313;clear BK322;clear BK330;clear HB;have HO_11 := n0_;have Ha_ := n1_;have Hb_ := n2_;have Hc_ := n3_;have HO334 := n4_;have BK295 := n5_;have BK313 := n6_;have BK322 := n7_;have BK330 := n8_;have HB := n9_;clear n0_ n1_ n2_ n3_ n4_ n5_ n6_ n7_ n8_ n9_;(try clear hb);(try clear ho0);obtain ⟨Ao73, co73, eo73⟩ := Kd.R_slice HO334.out;subst eo73) | ((with_reducible refine gate_callee (f := 29) rfl ?_);refine goesL_ (some 71) rfl rfl Try.func29 (by kernel_rfl) rfl #[.slice Ao43 t314.length co43, .slice Ao73 t332.length co73] rfl (by (try simp only [List.map_toArray, List.map_cons, List.map_nil]);first | done | rfl) ?_;(with_reducible refine (laws_eqPartS.calls kj17 _ _ t314 _ _ t332 true _ ?side1 ?side2 ?side3 ?side4 A64.out).mono ?_);(case side1 => repeat (first|exact (x5 HO_11.out).2.2 | (with_reducible refine y3 ?_ _) | (with_reducible refine y4 ?_)));(case side2 => exact (x5 HO_11.out).2.1);(case side3 => repeat (first|exact (x5 HO334.out).2.2 | (with_reducible refine y3 ?_ _) | (with_reducible refine y4 ?_)));(case side4 => exact (x5 HO334.out).2.1);rintro e w74 ⟨rfl, hb⟩;refine ⟨_, rfl, ?_⟩;have n0_ := z0 (x4 (by (with_reducible repeat (first|apply z9|apply y1));exact HO_11.out) hb);have n1_ := z0 (x4 (by (with_reducible repeat (first|apply z9|apply y1));exact Ha_.out) hb);have n2_ := z0 (x4 (by (with_reducible repeat (first|apply z9|apply y1));exact Hb_.out) hb);have n3_ := z0 (x4 (by (with_reducible repeat (first|apply z9|apply y1));exact Hc_.out) hb);have n4_ := z0 (x4 (by (with_reducible repeat (first|apply z9|apply y1));exact HO334.out) hb);have n5_ := z0 (y5 (g := gb295) (o := .cells #[.int .i64 a1_0, .int .i64 a1_1, .slice A1_2 l1_2.length c1_2] 44 (0, 0)) (by (with_reducible repeat (first|refine z1 ?_ _|refine z3 ?_));exact BK295.out) hb);have n6_ := z0 (y5 (g := gb313) (o := .cells #[.int .i64 t306, .int .i64 t307, .slice Ao32 t308.length co32] 31 (0, 0)) (by (with_reducible repeat (first|refine z1 ?_ _|refine z3 ?_));exact BK313.out) hb);have n7_ := z0 (y5 (g := gb322) (o := .cells #[.int .i64 t317, .int .i64 t318, .slice Ao42 t319.length co42] 31 (0, 0)) (by (with_reducible repeat (first|refine z1 ?_ _|refine z3 ?_));exact BK322.out) hb);have n8_ := z0 (y5 (g := gb330) (o := .cells #[.int .i64 t323, .int .i64 t324, .slice Ao50 t325.length co50] 31 (0, 0)) (by (with_reducible repeat (first|refine z1 ?_ _|refine z3 ?_));exact BK330.out) hb);have n9_ := z0 (y6 (by repeat (first | (with_reducible first|exact HB.out|apply z5|apply z6|refine z7 ?_ GE295.out|refine z7 ?_ GE313.out|refine z7 ?_ GE322.out|refine z7 ?_ GE330.out)|exact HB.out)) hb);clear HO_11;clear Ha_;clear Hb_;clear Hc_;clear HO334;clear BK295;clear BK313;clear BK322;clear BK330;clear HB;have HO_11 := n0_;have Ha_ := n1_;have Hb_ := n2_;have Hc_ := n3_;have HO334 := n4_;have BK295 := n5_;have BK313 := n6_;have BK322 := n7_;have BK330 := n8_;have HB := n9_;clear n0_ n1_ n2_ n3_ n4_ n5_ n6_ n7_ n8_ n9_;(try clear hb)))
        have n0_ := z0 (y1 HO_11.out)
        have n1_ := z0 (y1 Ha_.out)
        have n2_ := z0 (y1 Hb_.out)
        have n3_ := z0 (y1 Hc_.out)
        have n4_ := z0 (y1 HO334.out)
        have n5_ := z0 (z3 BK295.out)
        have n6_ := z0 (z3 BK313.out)
        have n7_ := z0 (z3 BK322.out)
        have n8_ := z0 (z3 BK330.out)
        have n9_ := z0 (z6 HB.out)
        clear HO_11
        clear Ha_
        clear Hb_
        clear Hc_
        clear HO334
        clear BK295
        clear BK313
        clear BK322
        clear BK330
        clear HB
        have HO_11 := n0_
        have Ha_ := n1_
        have Hb_ := n2_
        have Hc_ := n3_
        have HO334 := n4_
        have BK295 := n5_
        have BK313 := n6_
        have BK322 := n7_
        have BK330 := n8_
        have HB := n9_
        clear n0_ n1_ n2_ n3_ n4_ n5_ n6_ n7_ n8_ n9_
        refine start_ (n := 5) (S := fun w' => w'.cell? ⟨gb322, 0, none⟩ = some (.int .i64 t317) ∧ w'.cell? ⟨gb322, 1, none⟩ = some (.int .i64 t318) ∧ w'.cell? ⟨gb322, 2, none⟩ = some (.slice Ao42 t319.length co42) ∧ w'.cell? ⟨gb295, 0, none⟩ = some (.int .i64 a1_0) ∧ w'.cell? ⟨gb295, 1, none⟩ = some (.int .i64 a1_1) ∧ w'.cell? ⟨gb295, 2, none⟩ = some (.slice A1_2 l1_2.length c1_2)) (ds := []) #[false, false, false, false, false] (by kernel_rfl) rfl rfl ⟨(x3 BK322.out 0).trans rfl, (x3 BK322.out 1).trans rfl, (x3 BK322.out 2).trans rfl, (x3 BK295.out 0).trans rfl, (x3 BK295.out 1).trans rfl, (x3 BK295.out 2).trans rfl⟩ (fun hHeld => ?_)
        generalize w74.drew = w75 at HO_11 Ha_ Hb_ Hc_ HO334 BK295 BK313 BK322 BK330 HB hHeld ⊢
        refine take_ (i := 0) (N := some 73) (v := ?_) (a' := ?_) #[true, false, false, false, false] rfl rfl (by kernel_rfl) (fun _ _ _ h => h) (Or.inl ⟨by rfl, ?_⟩) hHeld ?_ ?_
        rotate_left
        ·rintro w' ⟨s0, s1, s2, s3, s4, s5⟩
         go_simp
         with_reducible rfl
        rotate_left
        ·simp only [Act.put, s1_, s2_, s3_, i64_w, i32_w]
         rfl
        refine take_ (i := 1) (N := some 74) (v := ?_) (a' := ?_) #[true, true, false, false, false] rfl rfl (by kernel_rfl) (fun _ _ _ h => h) (Or.inl ⟨by rfl, ?_⟩) hHeld ?_ ?_
        rotate_left
        ·rintro w' ⟨s0, s1, s2, s3, s4, s5⟩
         go_simp
         with_reducible rfl
        rotate_left
        ·simp only [Act.put, s1_, s2_, s3_, i64_w, i32_w]
         rfl
        refine one_ (i := 2) (N := some 75) #[true, true, true, false, false] rfl rfl (by kernel_rfl) (by decide) (fun K hK => ?_)
        refine goes_ Try.func26 (by kernel_rfl) rfl #[.agg #[.int .i64 a1_0, .int .i64 a1_1, .slice A1_2 l1_2.length c1_2]] (by rfl) rfl rfl (by (try simp only [List.map_toArray, List.map_cons, List.map_nil]);first | done | rfl) ?_
        with_reducible refine (laws_toPicture.calls kj17 a1_0 a1_1 _ _ l1_2 t336 t337 t338 _ ?side1 ?side2 A66.out).mono ?_
        (case side1 => repeat (first|exact HR1_2.out|exact (y9 HR1_2.out HB.out) | (with_reducible refine y3 ?_ _) | (with_reducible refine y4 ?_)))
        (case side2 => exact HC1_2.out)
        rintro e w76 ⟨v339, rfl, ho0, hb⟩
        refine ⟨_, rfl, ?_⟩
        have n0_ := z0 (x4 (by (with_reducible repeat (first|apply z9|apply y1));exact HO_11.out) hb)
        have n1_ := z0 (y8 (by (with_reducible repeat (first|apply z9|apply y1));exact Ha_.out) (w2_ ho0) hb)
        have n2_ := z0 (y8 (by (with_reducible repeat (first|apply z9|apply y1));exact Hb_.out) (w2_ ho0) hb)
        have n3_ := z0 (y8 (by (with_reducible repeat (first|apply z9|apply y1));exact Hc_.out) (w2_ ho0) hb)
        have n4_ := z0 (x4 (by (with_reducible repeat (first|apply z9|apply y1));exact HO334.out) hb)
        have n5_ := z0 (w1_ (Kd.R_new' (Kd.R_new' (Kd.R_new' ho0 (Kd.R_lt (by (with_reducible repeat (first|apply z9|apply y1));exact Ha_.out))) (Kd.R_lt (by (with_reducible repeat (first|apply z9|apply y1));exact Hb_.out))) (Kd.R_lt (by (with_reducible repeat (first|apply z9|apply y1));exact Hc_.out))) (y7 (by repeat (first | (with_reducible first|exact HB.out|apply z5|apply z6|refine z7 ?_ GE295.out|refine z7 ?_ GE313.out|refine z7 ?_ GE322.out|refine z7 ?_ GE330.out)|exact HB.out))))
        have n6_ := z0 (y5 (g := gb295) (o := .cells #[.int .i64 a1_0, .int .i64 a1_1, .slice A1_2 l1_2.length c1_2] 44 (0, 0)) (by (with_reducible repeat (first|refine z1 ?_ _|refine z3 ?_));exact BK295.out) hb)
        have n7_ := z0 (y5 (g := gb313) (o := .cells #[.int .i64 t306, .int .i64 t307, .slice Ao32 t308.length co32] 31 (0, 0)) (by (with_reducible repeat (first|refine z1 ?_ _|refine z3 ?_));exact BK313.out) hb)
        have n8_ := z0 (y5 (g := gb322) (o := .cells #[.int .i64 t317, .int .i64 t318, .slice Ao42 t319.length co42] 31 (0, 0)) (by (with_reducible repeat (first|refine z1 ?_ _|refine z3 ?_));exact BK322.out) hb)
        have n9_ := z0 (y5 (g := gb330) (o := .cells #[.int .i64 t323, .int .i64 t324, .slice Ao50 t325.length co50] 31 (0, 0)) (by (with_reducible repeat (first|refine z1 ?_ _|refine z3 ?_));exact BK330.out) hb)
        have n10_ := z0 (y6 (by repeat (first | (with_reducible first|exact HB.out|apply z5|apply z6|refine z7 ?_ GE295.out|refine z7 ?_ GE313.out|refine z7 ?_ GE322.out|refine z7 ?_ GE330.out)|exact HB.out)) hb)
        clear HO_11
        clear Ha_
        clear Hb_
        clear Hc_
        clear HO334
        clear BK295
        clear BK313
        clear BK322
        clear BK330
        clear HB
        have HO_11 := n0_
        have Ha_ := n1_
        have Hb_ := n2_
        have Hc_ := n3_
        have HO334 := n4_
        have HO340 := n5_
        have BK295 := n6_
        have BK313 := n7_
        have BK322 := n8_
        have BK330 := n9_
        have HB := n10_
        clear n0_ n1_ n2_ n3_ n4_ n5_ n6_ n7_ n8_ n9_ n10_
        (try clear hb)
        (try clear hb2)
        (try clear hk)
        (try clear hi)
        (try clear ho0)
        obtain ⟨Ao77, co77, eo77⟩ := Kd.R_slice HO340.out
        (first | subst eo77 | (injection eo77 with f1_ f2_ f3_;have f4_ := f1_.symm;have f5_ := f3_.symm;clear f1_ f2_ f3_;subst f4_;subst f5_))
        refine hK.out _ _ ⟨(x3 BK322.out 0).trans rfl, (x3 BK322.out 1).trans rfl, (x3 BK322.out 2).trans rfl, (x3 BK295.out 0).trans rfl, (x3 BK295.out 1).trans rfl, (x3 BK295.out 2).trans rfl⟩ (fun hHeld => ?_)
        clear hK K
        refine norm_ (a' := ?_) ?_ ?_
        rotate_left
        ·show Act.put _ (some 75) _ = _
         simp only [Act.put, s1_, s2_, s3_, i64_w, i32_w]
         rfl
        refine one_ (i := 3) (N := some 76) #[true, true, true, true, false] rfl rfl (by kernel_rfl) (by decide) (fun K hK => ?_)
        refine goes_ Try.func30 (by kernel_rfl) rfl #[.agg #[.int .i64 t317, .int .i64 t318, .slice Ao42 t319.length co42], .agg #[.int .i64 t336, .int .i64 t337, .slice Ao77 t338.length co77]] (by rfl) rfl rfl (by (try simp only [List.map_toArray, List.map_cons, List.map_nil]);first | done | rfl) ?_
        with_reducible refine (laws_eqPicture.calls kj17 t317 t318 _ _ t319 t336 t337 _ _ t338 true _ ?side1 ?side2 ?side3 ?side4 A67.out).mono ?_
        (case side1 => repeat (first|exact (x5 Hb_.out).2.2 | (with_reducible refine y3 ?_ _) | (with_reducible refine y4 ?_)))
        (case side2 => exact (x5 Hb_.out).2.1)
        (case side3 => repeat (first|exact (x5 HO340.out).2.2 | (with_reducible refine y3 ?_ _) | (with_reducible refine y4 ?_)))
        (case side4 => exact (x5 HO340.out).2.1)
        rintro e w78 ⟨rfl, hb⟩
        refine ⟨_, rfl, ?_⟩
        have n0_ := z0 (x4 (by (with_reducible repeat (first|apply z9|apply y1));exact HO_11.out) hb)
        have n1_ := z0 (x4 (by (with_reducible repeat (first|apply z9|apply y1));exact Ha_.out) hb)
        have n2_ := z0 (x4 (by (with_reducible repeat (first|apply z9|apply y1));exact Hb_.out) hb)
        have n3_ := z0 (x4 (by (with_reducible repeat (first|apply z9|apply y1));exact Hc_.out) hb)
        have n4_ := z0 (x4 (by (with_reducible repeat (first|apply z9|apply y1));exact HO334.out) hb)
        have n5_ := z0 (x4 (by (with_reducible repeat (first|apply z9|apply y1));exact HO340.out) hb)
        have n6_ := z0 (y5 (g := gb295) (o := .cells #[.int .i64 a1_0, .int .i64 a1_1, .slice A1_2 l1_2.length c1_2] 44 (0, 0)) (by (with_reducible repeat (first|refine z1 ?_ _|refine z3 ?_));exact BK295.out) hb)
        have n7_ := z0 (y5 (g := gb313) (o := .cells #[.int .i64 t306, .int .i64 t307, .slice Ao32 t308.length co32] 31 (0, 0)) (by (with_reducible repeat (first|refine z1 ?_ _|refine z3 ?_));exact BK313.out) hb)
        have n8_ := z0 (y5 (g := gb322) (o := .cells #[.int .i64 t317, .int .i64 t318, .slice Ao42 t319.length co42] 31 (0, 0)) (by (with_reducible repeat (first|refine z1 ?_ _|refine z3 ?_));exact BK322.out) hb)
        have n9_ := z0 (y5 (g := gb330) (o := .cells #[.int .i64 t323, .int .i64 t324, .slice Ao50 t325.length co50] 31 (0, 0)) (by (with_reducible repeat (first|refine z1 ?_ _|refine z3 ?_));exact BK330.out) hb)
        have n10_ := z0 (y6 (by repeat (first | (with_reducible first|exact HB.out|apply z5|apply z6|refine z7 ?_ GE295.out|refine z7 ?_ GE313.out|refine z7 ?_ GE322.out|refine z7 ?_ GE330.out)|exact HB.out)) hb)
        clear HO_11
        clear Ha_
        clear Hb_
        clear Hc_
        clear HO334
        clear HO340
        clear BK295
        clear BK313
        clear BK322
        clear BK330
        clear HB
        have HO_11 := n0_
        have Ha_ := n1_
        have Hb_ := n2_
        have Hc_ := n3_
        have HO334 := n4_
        have HO340 := n5_
        have BK295 := n6_
        have BK313 := n7_
        have BK322 := n8_
        have BK330 := n9_
        have HB := n10_
        clear n0_ n1_ n2_ n3_ n4_ n5_ n6_ n7_ n8_ n9_ n10_
        (try clear hb)
        (try clear hb2)
        (try clear hk)
        (try clear hi)
        refine hK.out _ _ ⟨(x3 BK322.out 0).trans rfl, (x3 BK322.out 1).trans rfl, (x3 BK322.out 2).trans rfl, (x3 BK295.out 0).trans rfl, (x3 BK295.out 1).trans rfl, (x3 BK295.out 2).trans rfl⟩ (fun hHeld => ?_)
        clear hK K
        refine norm_ (a' := ?_) ?_ ?_
        rotate_left
        ·show Act.put _ (some 76) _ = _
         simp only [Act.put, s1_, s2_, s3_, i64_w, i32_w]
         rfl
        refine pure_ (i := 4) (N := some 77) (v := ?_) (a' := ?_) #[true, true, true, true, true] rfl rfl (by kernel_rfl) (fun _ _ _ h => h) (Or.inl ⟨by rfl, ?_⟩) ?_ ?_
        rotate_left
        ·intro w'
         go_simp
         with_reducible rfl
        rotate_left
        ·simp only [Act.put, s1_, s2_, s3_, i64_w, i32_w]
         rfl
        refine done_ (by kernel_rfl) ?_
        go_upto_region 21 with (first | ((with_reducible refine gate_callee (f := 31) rfl ?_);refine goesL_ (some 80) rfl rfl Try.func31 (by kernel_rfl) rfl #[.slice Ao43 t314.length co43, .int .i64 1] rfl (by (try simp only [List.map_toArray, List.map_cons, List.map_nil]);first | done | rfl) ?_;(with_reducible refine (laws_markPartS.calls kj17 (fun k_ => some k_ = (.slice Ao43 t314.length co43 : Value).ownBlock) (.slice Ao43 t314.length co43) t314 1 t342 t343 w _ ?side1 ?side2 A69.out).mono ?_);(case side1 => repeat (first | (with_reducible first|exact HB.out|apply z5|apply z6|refine z7 ?_ GE295.out|refine z7 ?_ GE313.out|refine z7 ?_ GE322.out|refine z7 ?_ GE330.out)|exact HB.out));(case side2 => exact Kd.R_tight rfl HO_11.out);rintro e w79 ⟨rfl, hy0, hb, hkp⟩;refine ⟨_, rfl, ?_⟩;have n0_ := z0 (Kd.R_reok rfl hy0 (fun k_ e_ => HO_11.out.1 k_ e_));have n1_ := z0 (x6 (ok' := fun k_ => some k_ ≠ (.slice Ao42 t319.length co42 : Value).ownBlock ∧ some k_ ≠ (.slice Ao50 t325.length co50 : Value).ownBlock ∧ some k_ ≠ (.slice Ao77 t338.length co77 : Value).ownBlock) (Kd.R_keptB ((Kd.R_apart' Ha_.out (Kd.R_typed HO_11.out) (by decide))) hkp (fun k_ hk_ hs_ => (hk_.2) hs_)) (fun k_ hk_ => ⟨hk_.1.1.1.1, hk_.1.1.1.2, hk_.1.1.2⟩));have n2_ := z0 (x6 (ok' := fun k_ => some k_ ≠ (.slice Ao32 t308.length co32 : Value).ownBlock ∧ some k_ ≠ (.slice Ao50 t325.length co50 : Value).ownBlock ∧ some k_ ≠ (.slice Ao77 t338.length co77 : Value).ownBlock) (Kd.R_keptB ((Kd.R_apart' Hb_.out (Kd.R_typed HO_11.out) (by decide))) hkp (fun k_ hk_ hs_ => (hk_.2) hs_)) (fun k_ hk_ => ⟨hk_.1.1.1.1, hk_.1.1.1.2, hk_.1.1.2⟩));have n3_ := z0 (x6 (ok' := fun k_ => some k_ ≠ (.slice Ao32 t308.length co32 : Value).ownBlock ∧ some k_ ≠ (.slice Ao42 t319.length co42 : Value).ownBlock ∧ some k_ ≠ (.slice Ao77 t338.length co77 : Value).ownBlock) (Kd.R_keptB ((Kd.R_apart' Hc_.out (Kd.R_typed HO_11.out) (by decide))) hkp (fun k_ hk_ hs_ => (hk_.2) hs_)) (fun k_ hk_ => ⟨hk_.1.1.1.1, hk_.1.1.1.2, hk_.1.1.2⟩));have n4_ := z0 (blk_kept (by (with_reducible repeat (first|refine z1 ?_ _|refine z3 ?_));exact BK295.out) hkp (fun hs_ => (fun e_ => (x9 HO_11.out BK295.out (by decide)) e_) hs_));have n5_ := z0 (blk_kept (by (with_reducible repeat (first|refine z1 ?_ _|refine z3 ?_));exact BK313.out) hkp (fun hs_ => (fun e_ => (x9 HO_11.out BK313.out (by decide)) e_) hs_));have n6_ := z0 (blk_kept (by (with_reducible repeat (first|refine z1 ?_ _|refine z3 ?_));exact BK322.out) hkp (fun hs_ => (fun e_ => (x9 HO_11.out BK322.out (by decide)) e_) hs_));have n7_ := z0 (blk_kept (by (with_reducible repeat (first|refine z1 ?_ _|refine z3 ?_));exact BK330.out) hkp (fun hs_ => (fun e_ => (x9 HO_11.out BK330.out (by decide)) e_) hs_));have n8_ := z0 (x6 (ok' := fun k_ => some k_ ≠ (.slice Ao43 t314.length co43 : Value).ownBlock) (Kd.R_keptB (HO334.out) hkp (fun k_ hk_ hs_ => (hk_.2) hs_)) (fun k_ hk_ => hk_.1.2));have n9_ := z0 (x6 (ok' := fun k_ => some k_ ≠ (.slice Ao32 t308.length co32 : Value).ownBlock ∧ some k_ ≠ (.slice Ao42 t319.length co42 : Value).ownBlock ∧ some k_ ≠ (.slice Ao50 t325.length co50 : Value).ownBlock) (Kd.R_keptB ((Kd.R_apart' HO340.out (Kd.R_typed HO_11.out) (by decide))) hkp (fun k_ hk_ hs_ => (hk_.2) hs_)) (fun k_ hk_ => ⟨hk_.1.1.1.1.2, hk_.1.1.1.2, hk_.1.1.2⟩));have n10_ := z0 (hb);clear HO_11;clear Ha_;clear Hb_;clear Hc_;clear BK295;clear BK313;clear BK322;clear BK330;clear HO334;clear HO340;clear HB;have HO_11 := n0_;have Ha_ := n1_;have Hb_ := n2_;have Hc_ := n3_;have BK295 := n4_;have BK313 := n5_;have BK322 := n6_;have BK330 := n7_;have HO334 := n8_;have HO340 := n9_;have HB := n10_;clear n0_ n1_ n2_ n3_ n4_ n5_ n6_ n7_ n8_ n9_ n10_;(try clear hb);(try clear hkp);(try clear hy0);have hnb80 := NB322_295.out;have hnc80 := NB295_322.out;have hnb81 := NB322_313.out;have hnc81 := NB313_322.out;have hnb82 := NB322_330.out;have hnc82 := NB330_322.out;have hcz83_0 : w79.cell? ⟨gb322, 0, none⟩ = some (.int .i64 t317) := (x3 BK322.out 0).trans rfl;have hcz83_1 : w79.cell? ⟨gb322, 1, none⟩ = some (.int .i64 t318) := (x3 BK322.out 1).trans rfl;have hcz83_2 : w79.cell? ⟨gb322, 2, none⟩ = some (.slice Ao42 t319.length co42) := (x3 BK322.out 2).trans rfl;have hfz83_0 := x2 BK322.out 0;have hfz83_1 := x2 BK322.out 1;have hfz83_2 := x2 BK322.out 2) | ((with_reducible refine gate_callee (f := 32) rfl ?_);refine goesL_ (some 83) rfl rfl Try.func32 (by kernel_rfl) rfl #[.agg #[.int .i64 t317, .int .i64 t318, .slice Ao42 t319.length co42], .int .i64 t342] rfl (by (try simp only [List.map_toArray, List.map_cons, List.map_nil]);first | done | rfl) ?_;(with_reducible refine (laws_markPicture.calls kj17 t317 t318 (fun k_ => some k_ = (.slice Ao42 t319.length co42 : Value).ownBlock) (.slice Ao42 t319.length co42) t319 t342 t344 t345 w _ ?side1 ?side2 A70.out).mono ?_);(case side1 => repeat (first | (with_reducible first|exact HB.out|apply z5|apply z6|refine z7 ?_ GE295.out|refine z7 ?_ GE313.out|refine z7 ?_ GE322.out|refine z7 ?_ GE330.out)|exact HB.out));(case side2 => exact Kd.R_tight rfl Hb_.out);rintro e w84 ⟨rfl, hy0, hb, hkp⟩;refine ⟨_, rfl, ?_⟩;have n0_ := z0 (x6 (ok' := fun k_ => some k_ ≠ (.slice Ao73 t332.length co73 : Value).ownBlock) (Kd.R_keptB ((Kd.R_apart' HO_11.out (Kd.R_typed Hb_.out) (by decide))) hkp (fun k_ hk_ hs_ => (hk_.2) hs_)) (fun k_ hk_ => hk_.1.1.2));have n1_ := z0 (x6 (ok' := fun k_ => some k_ ≠ (.slice Ao42 t319.length co42 : Value).ownBlock ∧ some k_ ≠ (.slice Ao50 t325.length co50 : Value).ownBlock ∧ some k_ ≠ (.slice Ao77 t338.length co77 : Value).ownBlock) (Kd.R_keptB (Ha_.out) hkp (fun k_ hk_ hs_ => (hk_.1) hs_)) (fun k_ hk_ => ⟨hk_.1.1, hk_.1.2.1, hk_.1.2.2⟩));have n2_ := z0 (Kd.R_reok rfl hy0 (fun k_ e_ => Hb_.out.1 k_ e_));have n3_ := z0 (x6 (ok' := fun k_ => some k_ ≠ (.slice Ao32 t308.length co32 : Value).ownBlock ∧ some k_ ≠ (.slice Ao42 t319.length co42 : Value).ownBlock ∧ some k_ ≠ (.slice Ao77 t338.length co77 : Value).ownBlock) (Kd.R_keptB (Hc_.out) hkp (fun k_ hk_ hs_ => (hk_.2.1) hs_)) (fun k_ hk_ => ⟨hk_.1.1, hk_.1.2.1, hk_.1.2.2⟩));have n4_ := z0 (blk_kept (by (with_reducible repeat (first|refine z1 ?_ _|refine z3 ?_));exact BK295.out) hkp (fun hs_ => (fun e_ => (x9 Hb_.out BK295.out (by decide)) e_) hs_));have n5_ := z0 (blk_kept (by (with_reducible repeat (first|refine z1 ?_ _|refine z3 ?_));exact BK313.out) hkp (fun hs_ => (fun e_ => (x9 Hb_.out BK313.out (by decide)) e_) hs_));have n6_ := z0 (blk_kept (by (with_reducible repeat (first|refine z1 ?_ _|refine z3 ?_));exact BK322.out) hkp (fun hs_ => (fun e_ => (x9 Hb_.out BK322.out (by decide)) e_) hs_));have n7_ := z0 (blk_kept (by (with_reducible repeat (first|refine z1 ?_ _|refine z3 ?_));exact BK330.out) hkp (fun hs_ => (fun e_ => (x9 Hb_.out BK330.out (by decide)) e_) hs_));have n8_ := z0 (x6 (ok' := fun k_ => some k_ ≠ (.slice Ao43 t314.length co43 : Value).ownBlock) (Kd.R_keptB ((Kd.R_apart' HO334.out (Kd.R_typed Hb_.out) (by decide))) hkp (fun k_ hk_ hs_ => (hk_.2) hs_)) (fun k_ hk_ => hk_.1.1));have n9_ := z0 (x6 (ok' := fun k_ => some k_ ≠ (.slice Ao32 t308.length co32 : Value).ownBlock ∧ some k_ ≠ (.slice Ao42 t319.length co42 : Value).ownBlock ∧ some k_ ≠ (.slice Ao50 t325.length co50 : Value).ownBlock) (Kd.R_keptB (HO340.out) hkp (fun k_ hk_ hs_ => (hk_.2.1) hs_)) (fun k_ hk_ => ⟨hk_.1.1, hk_.1.2.1, hk_.1.2.2⟩));have n10_ := z0 (hb);clear HO_11;clear Ha_;clear Hb_;clear Hc_;clear BK295;clear BK313;clear BK322;clear BK330;clear HO334;clear HO340;clear HB;have HO_11 := n0_;have Ha_ := n1_;have Hb_ := n2_;have Hc_ := n3_;have BK295 := n4_;have BK313 := n5_;have BK322 := n6_;have BK330 := n7_;have HO334 := n8_;have HO340 := n9_;have HB := n10_;clear n0_ n1_ n2_ n3_ n4_ n5_ n6_ n7_ n8_ n9_ n10_;(try clear hb);(try clear hkp);(try clear hy0)))
        (try simp only [Act.put, s1_, s2_, s3_])
        go_cut [101] (fun v101 wc => ∃ (kq : Nat) (x101_70 : Bool), v101 = .bool x101_70 ∧ Aside0 (laws_FnExactDiffusePicture.j1 kq l0 a2 t311 t312 x101_70 a1_0 a1_1 l1_2 t306 t307 t308 t323 t324 t325 = some r) ∧ Aside0 (kq ≤ kj17) ∧ Aside0 (Kd.R (Kd.int .i64) 3 wc w.heap.size (fun k_ => some k_ ≠ ((.slice Ao42 t319.length co42) : Value).ownBlock ∧ some k_ ≠ ((.slice Ao50 t325.length co50) : Value).ownBlock) (.slice Ao32 t308.length co32) t308) ∧ Aside0 (Kd.R (Kd.int .i64) 3 wc w.heap.size (fun k_ => some k_ ≠ ((.slice Ao32 t308.length co32) : Value).ownBlock ∧ some k_ ≠ ((.slice Ao50 t325.length co50) : Value).ownBlock) (.slice Ao42 t319.length co42) t345) ∧ Aside0 (Kd.R (Kd.int .i64) 3 wc w.heap.size (fun k_ => some k_ ≠ ((.slice Ao32 t308.length co32) : Value).ownBlock ∧ some k_ ≠ ((.slice Ao42 t319.length co42) : Value).ownBlock) (.slice Ao50 t325.length co50) t325) ∧ Aside0 (wc.heap[gb295]? = some (.cells #[.int .i64 a1_0, .int .i64 a1_1, (.slice A1_2 l1_2.length c1_2)] 44 (0, 0))) ∧ Aside0 (wc.heap[gb313]? = some (.cells #[.int .i64 t306, .int .i64 t307, (.slice Ao32 t308.length co32)] 31 (0, 0))) ∧ Aside0 (wc.heap[gb322]? = some (.cells #[.int .i64 t317, .int .i64 t318, (.slice Ao42 t319.length co42)] 31 (0, 0))) ∧ Aside0 (wc.heap[gb330]? = some (.cells #[.int .i64 t323, .int .i64 t324, (.slice Ao50 t325.length co50)] 31 (0, 0))) ∧ Aside0 (Below w.heap.size w wc))
        case first =>
         have H := HC71.out
         clear HC71
         by_cases c85 : t344 < 0
         ·rw [if_pos c85] at H
          have c85b0 : decide (t344 < 0) = true := decide_eq_true c85
          clear c85
          (first | rw [c85b0] | (simp only [i64_w, i32_w];rw [c85b0]) | skip)
          exact absurd H (by rw [HRT_.out];generalize kj17 = k_;cases k_ with | zero => (rw [laws_FnExactDiffusePicture.j1];simp) | succ k_ => (rw [laws_FnExactDiffusePicture.j1, if_pos rfl];simp))
         ·rw [if_neg c85] at H
          have c85b0 : decide (t344 < 0) = false := decide_eq_false c85
          clear c85
          (first | rw [c85b0] | (simp only [i64_w, i32_w];rw [c85b0]) | skip)
          replace H := Option.bind_eq_some_iff.mp H
          obtain ⟨t346, A860, H⟩ := H
          replace H : (if t346 = true then (if t328 = t311 then (laws_FnExactDiffusePicture.j1 kj17 l0 a2 t311 t312 (t329 != t312) a1_0 a1_1 l1_2 t306 t307 t308 t323 t324 t325) else (laws_FnExactDiffusePicture.j1 kj17 l0 a2 t311 t312 true a1_0 a1_1 l1_2 t306 t307 t308 t323 t324 t325)) else (laws_FnExactDiffusePicture.j1 kj17 l0 a2 t311 t312 true a1_0 a1_1 l1_2 t306 t307 t308 t323 t324 t325)) = some r := H
          have A86 := z0 A860
          clear A860
          by_cases c87 : t346 = true
          ·subst c87
           have H1 : (if t328 = t311 then (laws_FnExactDiffusePicture.j1 kj17 l0 a2 t311 t312 (t329 != t312) a1_0 a1_1 l1_2 t306 t307 t308 t323 t324 t325) else (laws_FnExactDiffusePicture.j1 kj17 l0 a2 t311 t312 true a1_0 a1_1 l1_2 t306 t307 t308 t323 t324 t325)) = some r := by rw [if_pos rfl] at H;first|exact H | (simp only [if_true] at H ⊢;exact H)
           clear H
           have H := H1
           clear H1
           by_cases c88 : t328 = t311
           ·rw [if_pos c88] at H
            have c88b0 : (t328 == t311) = true := beq_iff_eq.mpr c88
            have c88b1 : (t328 != t311) = false := bne_eq_false_iff_eq.mpr c88
            clear c88
            have H' := z0 H
            clear H
            have hnb89 := NB330_295.out
            have hnc89 := NB295_330.out
            have hnb90 := NB330_313.out
            have hnc90 := NB313_330.out
            have hnb91 := NB330_322.out
            have hnc91 := NB322_330.out
            have hcz92_0 : w84.cell? ⟨gb330, 0, none⟩ = some (.int .i64 t323) := (x3 BK330.out 0).trans rfl
            have hcz92_1 : w84.cell? ⟨gb330, 1, none⟩ = some (.int .i64 t324) := (x3 BK330.out 1).trans rfl
            have hcz92_2 : w84.cell? ⟨gb330, 2, none⟩ = some (.slice Ao50 t325.length co50) := (x3 BK330.out 2).trans rfl
            have hfz92_0 := x2 BK330.out 0
            have hfz92_1 := x2 BK330.out 1
            have hfz92_2 := x2 BK330.out 2
            have hnb93 := NB313_295.out
            have hnc93 := NB295_313.out
            have hnb94 := NB313_322.out
            have hnc94 := NB322_313.out
            have hcz95_0 : w84.cell? ⟨gb313, 0, none⟩ = some (.int .i64 t306) := (x3 BK313.out 0).trans rfl
            have hcz95_1 : w84.cell? ⟨gb313, 1, none⟩ = some (.int .i64 t307) := (x3 BK313.out 1).trans rfl
            have hcz95_2 : w84.cell? ⟨gb313, 2, none⟩ = some (.slice Ao32 t308.length co32) := (x3 BK313.out 2).trans rfl
            have hfz95_0 := x2 BK313.out 0
            have hfz95_1 := x2 BK313.out 1
            have hfz95_2 := x2 BK313.out 2
            go_wp2_with (first | (go_at_call 30;(with_reducible refine (laws_eqPicture.calls kj17 t323 t324 _ _ t325 t306 t307 _ _ t308 true _ ?side1 ?side2 ?side3 ?side4 A86.out).mono ?_);(case side1 => repeat (first|exact (x5 Hc_.out).2.2 | (with_reducible refine y3 ?_ _) | (with_reducible refine y4 ?_)));(case side2 => exact (x5 Hc_.out).2.1);(case side3 => repeat (first|exact (x5 Ha_.out).2.2 | (with_reducible refine y3 ?_ _) | (with_reducible refine y4 ?_)));(case side4 => exact (x5 Ha_.out).2.1);rintro e w96 ⟨rfl, hb⟩;have n0_ := z0 (x4 (by (with_reducible repeat (first|apply z9|apply y1));exact HO_11.out) hb);have n1_ := z0 (x4 (by (with_reducible repeat (first|apply z9|apply y1));exact Ha_.out) hb);have n2_ := z0 (x4 (by (with_reducible repeat (first|apply z9|apply y1));exact Hb_.out) hb);have n3_ := z0 (x4 (by (with_reducible repeat (first|apply z9|apply y1));exact Hc_.out) hb);have n4_ := z0 (x4 (by (with_reducible repeat (first|apply z9|apply y1));exact HO334.out) hb);have n5_ := z0 (x4 (by (with_reducible repeat (first|apply z9|apply y1));exact HO340.out) hb);have n6_ := z0 (y5 (g := gb295) (o := .cells #[.int .i64 a1_0, .int .i64 a1_1, .slice A1_2 l1_2.length c1_2] 44 (0, 0)) (by (with_reducible repeat (first|refine z1 ?_ _|refine z3 ?_));exact BK295.out) hb);have n7_ := z0 (y5 (g := gb313) (o := .cells #[.int .i64 t306, .int .i64 t307, .slice Ao32 t308.length co32] 31 (0, 0)) (by (with_reducible repeat (first|refine z1 ?_ _|refine z3 ?_));exact BK313.out) hb);have n8_ := z0 (y5 (g := gb322) (o := .cells #[.int .i64 t317, .int .i64 t318, .slice Ao42 t319.length co42] 31 (0, 0)) (by (with_reducible repeat (first|refine z1 ?_ _|refine z3 ?_));exact BK322.out) hb);have n9_ := z0 (y5 (g := gb330) (o := .cells #[.int .i64 t323, .int .i64 t324, .slice Ao50 t325.length co50] 31 (0, 0)) (by (with_reducible repeat (first|refine z1 ?_ _|refine z3 ?_));exact BK330.out) hb);have n10_ := z0 (y6 (by repeat (first | (with_reducible first|exact HB.out|apply z5|apply z6|refine z7 ?_ GE295.out|refine z7 ?_ GE313.out|refine z7 ?_ GE322.out|refine z7 ?_ GE330.out)|exact HB.out)) hb);clear HO_11;clear Ha_;clear Hb_;clear Hc_;clear HO334;clear HO340;clear BK295;clear BK313;clear BK322;clear BK330;clear HB;have HO_11 := n0_;have Ha_ := n1_;have Hb_ := n2_;have Hc_ := n3_;have HO334 := n4_;have HO340 := n5_;have BK295 := n6_;have BK313 := n7_;have BK322 := n8_;have BK330 := n9_;have HB := n10_;clear n0_ n1_ n2_ n3_ n4_ n5_ n6_ n7_ n8_ n9_ n10_;(try clear hb)))
            go_meet
            case rel => exact ⟨_, ((t329 != t312)), (by first | rfl | (simp;done) | (simp [*];done)), H', ⟨by have := HJ17.out;first | omega|exact Nat.le_refl _⟩, ⟨by (with_reducible repeat (first|apply z9|apply y1));exact x6 Ha_.out (fun _ hk => ⟨hk.1, hk.2.1⟩)⟩, ⟨by (with_reducible repeat (first|apply z9|apply y1));exact x6 Hb_.out (fun _ hk => ⟨hk.1, hk.2.1⟩)⟩, ⟨by (with_reducible repeat (first|apply z9|apply y1));exact x6 Hc_.out (fun _ hk => ⟨hk.1, hk.2.1⟩)⟩, ⟨by (with_reducible repeat (first|refine z1 ?_ _|refine z3 ?_));exact BK295.out⟩, ⟨by (with_reducible repeat (first|refine z1 ?_ _|refine z3 ?_));exact BK313.out⟩, ⟨by (with_reducible repeat (first|refine z1 ?_ _|refine z3 ?_));exact BK322.out⟩, ⟨by (with_reducible repeat (first|refine z1 ?_ _|refine z3 ?_));exact BK330.out⟩, ⟨by repeat (first | (with_reducible first|exact HB.out|apply z5|apply z6|refine z7 ?_ GE295.out|refine z7 ?_ GE313.out|refine z7 ?_ GE322.out|refine z7 ?_ GE330.out)|exact HB.out)⟩⟩
           ·rw [if_neg c88] at H
            have c88b0 : (t328 == t311) = false := beq_eq_false_iff_ne.mpr c88
            have c88b1 : (t328 != t311) = true := bne_iff_ne.mpr c88
            exact absurd H (by rw [HRT_.out];generalize kj17 = k_;cases k_ with | zero => (rw [laws_FnExactDiffusePicture.j1];simp) | succ k_ => (rw [laws_FnExactDiffusePicture.j1, if_pos rfl];simp))
          ·replace c87 := Bool.eq_false_iff.mpr c87
           subst c87
           have H1 : (laws_FnExactDiffusePicture.j1 kj17 l0 a2 t311 t312 true a1_0 a1_1 l1_2 t306 t307 t308 t323 t324 t325) = some r := by rw [if_neg (show ¬ (false = true) by decide)] at H;first|exact H | (simp only [if_true] at H ⊢;exact H)
           clear H
           have H := H1
           clear H1
           exact absurd H (by rw [HRT_.out];generalize kj17 = k_;cases k_ with | zero => (rw [laws_FnExactDiffusePicture.j1];simp) | succ k_ => (rw [laws_FnExactDiffusePicture.j1, if_pos rfl];simp))
        case rest =>
         clear HC71
         try clear c1
         try clear c2
         try clear p2
         try clear c3
         try clear c4
         try clear c5
         try clear c6
         try clear c8
         try clear c9
         try clear c13
         try clear c25
         try clear c26
         try clear c29
         try clear c30
         try clear c31
         try clear c32
         try clear c35
         try clear c39
         try clear c40
         try clear c46
         try clear c47
         try clear c48
         try clear c52
         try clear c53
         try clear c53b0
         try clear c53b1
         try clear c54
         try clear c55
         try clear c56
         try clear c58
         try clear c59
         try clear c62
         try clear c65
         try clear c68
         try clear c80
         try clear c81
         try clear c82
         try clear c85
         try clear c85b0
         try clear c87
         try clear c88
         try clear c88b0
         try clear c88b1
         try clear c89
         try clear c90
         try clear c91
         try clear c93
         try clear c94
         try clear hcz36_0
         try clear hcz36_1
         try clear hcz36_2
         try clear hcz41_0
         try clear hcz41_1
         try clear hcz41_2
         try clear hcz49_0
         try clear hcz49_1
         try clear hcz49_2
         try clear hcz57_0
         try clear hcz57_1
         try clear hcz57_2
         try clear hcz60_0
         try clear hcz60_1
         try clear hcz60_2
         try clear hcz83_0
         try clear hcz83_1
         try clear hcz83_2
         try clear hcz92_0
         try clear hcz92_1
         try clear hcz92_2
         try clear hcz95_0
         try clear hcz95_1
         try clear hcz95_2
         try clear hfz36_0
         try clear hfz36_1
         try clear hfz36_2
         try clear hfz41_0
         try clear hfz41_1
         try clear hfz41_2
         try clear hfz49_0
         try clear hfz49_1
         try clear hfz49_2
         try clear hfz57_0
         try clear hfz57_1
         try clear hfz57_2
         try clear hfz60_0
         try clear hfz60_1
         try clear hfz60_2
         try clear hfz83_0
         try clear hfz83_1
         try clear hfz83_2
         try clear hfz92_0
         try clear hfz92_1
         try clear hfz92_2
         try clear hfz95_0
         try clear hfz95_1
         try clear hfz95_2
         try clear p2
         obtain ⟨kq, x101_70, rfl, HA, HJ70, Ha_, Hb_, Hc_, BK295, BK313, BK322, BK330, HB⟩ := hcut
         have hl323002_70 := (x5 Hb_.out).1
         rw [hl323002_70] at Hb_
         (try simp only [hl323002_70])
         (try simp only [hl323002_70] at BK295)
         (try simp only [hl323002_70] at BK313)
         (try simp only [hl323002_70] at BK322)
         (try simp only [hl323002_70] at BK330)
         (try simp only [hl323002_70] at Ha_)
         (try simp only [hl323002_70] at Hc_)
         cases kq with
         | zero => exact absurd HA.out (by simp [laws_FnExactDiffusePicture.j1])
         | succ kj70 =>
          have H := HA.out
          clear HA
          simp only [laws_FnExactDiffusePicture.j1] at H
          by_cases c97 : x101_70 = true
          ·subst c97
           have H1 : (some false) = some r := by rw [if_pos rfl] at H;first|exact H | (simp only [if_true] at H ⊢;exact H)
           clear H
           have H := H1
           clear H1
           exact absurd (Option.some.inj H) (by rw [HRT_.out];decide)
          ·replace c97 := Bool.eq_false_iff.mpr c97
           subst c97
           have H1 : ((laws_markPicture.f kj70 t323 t324 t325 1).bind fun bt347 => ((laws_heldPicture.f kj70 t323 t324 bt347.2 1).bind fun t349 => (if t349 < 0 then (some false) else (if t349 = bt347.1 then ((laws_toPartS.f kj70 l0).bind fun t350 => ((laws_toPicture.f kj70 a1_0 a1_1 l1_2).bind fun bt353 => ((impl_DiffusePicture.f kj70 t350 bt353.1 bt353.2.1 bt353.2.2 a2).bind fun bt358 => ((laws_eqPicture.f kj70 bt358.1 bt358.2.1 bt358.2.2.1 t306 t307 t308).bind fun t366 => (if t366 = true then (if bt358.2.2.2.1 = t311 then (laws_FnExactDiffusePicture.j2 kj70 bt347.1 (bt358.2.2.2.2 != t312) t323 t324 bt347.2) else (laws_FnExactDiffusePicture.j2 kj70 bt347.1 true t323 t324 bt347.2)) else (laws_FnExactDiffusePicture.j2 kj70 bt347.1 true t323 t324 bt347.2)))))) else (some false))))) = some r := by rw [if_neg (show ¬ (false = true) by decide)] at H;first|exact H | (simp only [if_true] at H ⊢;exact H)
           clear H
           have H := H1
           clear H1
           replace H := Option.bind_eq_some_iff.mp H
           obtain ⟨⟨t347, t348⟩, A980, H⟩ := H
           replace H : ((laws_heldPicture.f kj70 t323 t324 t348 1).bind fun t349 => (if t349 < 0 then (some false) else (if t349 = t347 then ((laws_toPartS.f kj70 l0).bind fun t350 => ((laws_toPicture.f kj70 a1_0 a1_1 l1_2).bind fun bt353 => ((impl_DiffusePicture.f kj70 t350 bt353.1 bt353.2.1 bt353.2.2 a2).bind fun bt358 => ((laws_eqPicture.f kj70 bt358.1 bt358.2.1 bt358.2.2.1 t306 t307 t308).bind fun t366 => (if t366 = true then (if bt358.2.2.2.1 = t311 then (laws_FnExactDiffusePicture.j2 kj70 t347 (bt358.2.2.2.2 != t312) t323 t324 t348) else (laws_FnExactDiffusePicture.j2 kj70 t347 true t323 t324 t348)) else (laws_FnExactDiffusePicture.j2 kj70 t347 true t323 t324 t348)))))) else (some false)))) = some r := H
           have A98 := z0 A980
           clear A980
           replace H := Option.bind_eq_some_iff.mp H
           obtain ⟨t349, A990, H⟩ := H
           replace H : (if t349 < 0 then (some false) else (if t349 = t347 then ((laws_toPartS.f kj70 l0).bind fun t350 => ((laws_toPicture.f kj70 a1_0 a1_1 l1_2).bind fun bt353 => ((impl_DiffusePicture.f kj70 t350 bt353.1 bt353.2.1 bt353.2.2 a2).bind fun bt358 => ((laws_eqPicture.f kj70 bt358.1 bt358.2.1 bt358.2.2.1 t306 t307 t308).bind fun t366 => (if t366 = true then (if bt358.2.2.2.1 = t311 then (laws_FnExactDiffusePicture.j2 kj70 t347 (bt358.2.2.2.2 != t312) t323 t324 t348) else (laws_FnExactDiffusePicture.j2 kj70 t347 true t323 t324 t348)) else (laws_FnExactDiffusePicture.j2 kj70 t347 true t323 t324 t348)))))) else (some false))) = some r := H
           have A99 := z0 A990
           clear A990
           by_cases c100 : t349 < 0
           ·rw [if_pos c100] at H
            have c100b0 : decide (t349 < 0) = true := decide_eq_true c100
            clear c100
            exact absurd (Option.some.inj H) (by rw [HRT_.out];decide)
           ·rw [if_neg c100] at H
            have c100b0 : decide (t349 < 0) = false := decide_eq_false c100
            clear c100
            by_cases c101 : t349 = t347
            ·rw [if_pos c101] at H
             have c101b0 : (t349 == t347) = true := beq_iff_eq.mpr c101
             have c101b1 : (t349 != t347) = false := bne_eq_false_iff_eq.mpr c101
             clear c101
             replace H := Option.bind_eq_some_iff.mp H
             obtain ⟨t350, A1020, H⟩ := H
             replace H : ((laws_toPicture.f kj70 a1_0 a1_1 l1_2).bind fun bt353 => ((impl_DiffusePicture.f kj70 t350 bt353.1 bt353.2.1 bt353.2.2 a2).bind fun bt358 => ((laws_eqPicture.f kj70 bt358.1 bt358.2.1 bt358.2.2.1 t306 t307 t308).bind fun t366 => (if t366 = true then (if bt358.2.2.2.1 = t311 then (laws_FnExactDiffusePicture.j2 kj70 t347 (bt358.2.2.2.2 != t312) t323 t324 t348) else (laws_FnExactDiffusePicture.j2 kj70 t347 true t323 t324 t348)) else (laws_FnExactDiffusePicture.j2 kj70 t347 true t323 t324 t348))))) = some r := H
             have A102 := z0 A1020
             clear A1020
             replace H := Option.bind_eq_some_iff.mp H
             obtain ⟨⟨t353, t354, t355⟩, A1030, H⟩ := H
             replace H : ((impl_DiffusePicture.f kj70 t350 t353 t354 t355 a2).bind fun bt358 => ((laws_eqPicture.f kj70 bt358.1 bt358.2.1 bt358.2.2.1 t306 t307 t308).bind fun t366 => (if t366 = true then (if bt358.2.2.2.1 = t311 then (laws_FnExactDiffusePicture.j2 kj70 t347 (bt358.2.2.2.2 != t312) t323 t324 t348) else (laws_FnExactDiffusePicture.j2 kj70 t347 true t323 t324 t348)) else (laws_FnExactDiffusePicture.j2 kj70 t347 true t323 t324 t348)))) = some r := H
             have A103 := z0 A1030
             clear A1030
             replace H := Option.bind_eq_some_iff.mp H
             obtain ⟨⟨t358, t359, t360, t363, t364⟩, A1040, H⟩ := H
             replace H : ((laws_eqPicture.f kj70 t358 t359 t360 t306 t307 t308).bind fun t366 => (if t366 = true then (if t363 = t311 then (laws_FnExactDiffusePicture.j2 kj70 t347 (t364 != t312) t323 t324 t348) else (laws_FnExactDiffusePicture.j2 kj70 t347 true t323 t324 t348)) else (laws_FnExactDiffusePicture.j2 kj70 t347 true t323 t324 t348))) = some r := H
             have A104 := z0 A1040
             clear A1040
             have HC105 := z0 H
             clear H
             have hnb106 := NB330_295.out
             have hnc106 := NB295_330.out
             have hnb107 := NB330_313.out
             have hnc107 := NB313_330.out
             have hnb108 := NB330_322.out
             have hnc108 := NB322_330.out
             have hcz109_0 : wc.cell? ⟨gb330, 0, none⟩ = some (.int .i64 t323) := (x3 BK330.out 0).trans rfl
             have hcz109_1 : wc.cell? ⟨gb330, 1, none⟩ = some (.int .i64 t324) := (x3 BK330.out 1).trans rfl
             have hcz109_2 : wc.cell? ⟨gb330, 2, none⟩ = some (.slice Ao50 t325.length co50) := (x3 BK330.out 2).trans rfl
             have hfz109_0 := x2 BK330.out 0
             have hfz109_1 := x2 BK330.out 1
             have hfz109_2 := x2 BK330.out 2
             try go_wp2_with (first | ((with_reducible refine gate_callee (f := 32) rfl ?_);refine goesL_ (some 104) rfl rfl Try.func32 (by kernel_rfl) rfl #[.agg #[.int .i64 t323, .int .i64 t324, .slice Ao50 t325.length co50], .int .i64 1] rfl (by (try simp only [List.map_toArray, List.map_cons, List.map_nil]);first | done | rfl) ?_;(with_reducible refine (laws_markPicture.calls kj70 t323 t324 (fun k_ => some k_ = (.slice Ao50 t325.length co50 : Value).ownBlock) (.slice Ao50 t325.length co50) t325 1 t347 t348 w _ ?side1 ?side2 A98.out).mono ?_);(case side1 => repeat (first | (with_reducible first|exact HB.out|apply z5|apply z6|refine z7 ?_ GE295.out|refine z7 ?_ GE313.out|refine z7 ?_ GE322.out|refine z7 ?_ GE330.out)|exact HB.out));(case side2 => exact Kd.R_tight rfl Hc_.out);rintro e w110 ⟨rfl, hy0, hb, hkp⟩;refine ⟨_, rfl, ?_⟩;have n0_ := z0 (x6 (ok' := fun k_ => some k_ ≠ (.slice Ao42 t345.length co42 : Value).ownBlock ∧ some k_ ≠ (.slice Ao50 t325.length co50 : Value).ownBlock) (Kd.R_keptB (Ha_.out) hkp (fun k_ hk_ hs_ => (hk_.2) hs_)) (fun k_ hk_ => ⟨hk_.1.1, hk_.1.2⟩));have n1_ := z0 (x6 (ok' := fun k_ => some k_ ≠ (.slice Ao32 t308.length co32 : Value).ownBlock ∧ some k_ ≠ (.slice Ao50 t325.length co50 : Value).ownBlock) (Kd.R_keptB (Hb_.out) hkp (fun k_ hk_ hs_ => (hk_.2) hs_)) (fun k_ hk_ => ⟨hk_.1.1, hk_.1.2⟩));have n2_ := z0 (Kd.R_reok rfl hy0 (fun k_ e_ => Hc_.out.1 k_ e_));have n3_ := z0 (blk_kept (by (with_reducible repeat (first|refine z1 ?_ _|refine z3 ?_));exact BK295.out) hkp (fun hs_ => (fun e_ => (x9 Hc_.out BK295.out (by decide)) e_) hs_));have n4_ := z0 (blk_kept (by (with_reducible repeat (first|refine z1 ?_ _|refine z3 ?_));exact BK313.out) hkp (fun hs_ => (fun e_ => (x9 Hc_.out BK313.out (by decide)) e_) hs_));have n5_ := z0 (blk_kept (by (with_reducible repeat (first|refine z1 ?_ _|refine z3 ?_));exact BK322.out) hkp (fun hs_ => (fun e_ => (x9 Hc_.out BK322.out (by decide)) e_) hs_));have n6_ := z0 (blk_kept (by (with_reducible repeat (first|refine z1 ?_ _|refine z3 ?_));exact BK330.out) hkp (fun hs_ => (fun e_ => (x9 Hc_.out BK330.out (by decide)) e_) hs_));have n7_ := z0 (hb);clear Ha_;clear Hb_;clear Hc_;clear BK295;clear BK313;clear BK322;clear BK330;clear HB;have Ha_ := n0_;have Hb_ := n1_;have Hc_ := n2_;have BK295 := n3_;have BK313 := n4_;have BK322 := n5_;have BK330 := n6_;have HB := n7_;clear n0_ n1_ n2_ n3_ n4_ n5_ n6_ n7_;(try clear hb);(try clear hkp);(try clear hy0);have hcz111_0 : w110.cell? ⟨gb330, 0, none⟩ = some (.int .i64 t323) := (x3 BK330.out 0).trans rfl;have hcz111_1 : w110.cell? ⟨gb330, 1, none⟩ = some (.int .i64 t324) := (x3 BK330.out 1).trans rfl;have hcz111_2 : w110.cell? ⟨gb330, 2, none⟩ = some (.slice Ao50 t325.length co50) := (x3 BK330.out 2).trans rfl;have hfz111_0 := x2 BK330.out 0;have hfz111_1 := x2 BK330.out 1;have hfz111_2 := x2 BK330.out 2) | ((with_reducible refine gate_callee (f := 36) rfl ?_);refine goesL_ (some 107) rfl rfl Try.func36 (by kernel_rfl) rfl #[.agg #[.int .i64 t323, .int .i64 t324, .slice Ao50 t348.length co50], .int .i64 1] rfl (by (try simp only [List.map_toArray, List.map_cons, List.map_nil]);first | done | (rw [show t348.length = t325.length from (x5 Hc_.out).1.symm] <;> rfl) | rfl | (simp only [List.length_drop, List.length_take];rfl)) ?_;(with_reducible refine (laws_heldPicture.calls kj70 t323 t324 _ _ t348 1 t349 _ ?side1 ?side2 A99.out).mono ?_);(case side1 => repeat (first|exact (x5 Hc_.out).2.2 | (with_reducible refine y3 ?_ _) | (with_reducible refine y4 ?_)));(case side2 => rw [show t348.length = t325.length from (x5 Hc_.out).1.symm];exact (x5 Hc_.out).2.1);rintro e w112 ⟨rfl, hb⟩;refine ⟨_, rfl, ?_⟩;have n0_ := z0 (x4 (by (with_reducible repeat (first|apply z9|apply y1));exact Ha_.out) hb);have n1_ := z0 (x4 (by (with_reducible repeat (first|apply z9|apply y1));exact Hb_.out) hb);have n2_ := z0 (x4 (by (with_reducible repeat (first|apply z9|apply y1));exact Hc_.out) hb);have n3_ := z0 (y5 (g := gb295) (o := .cells #[.int .i64 a1_0, .int .i64 a1_1, .slice A1_2 l1_2.length c1_2] 44 (0, 0)) (by (with_reducible repeat (first|refine z1 ?_ _|refine z3 ?_));exact BK295.out) hb);have n4_ := z0 (y5 (g := gb313) (o := .cells #[.int .i64 t306, .int .i64 t307, .slice Ao32 t308.length co32] 31 (0, 0)) (by (with_reducible repeat (first|refine z1 ?_ _|refine z3 ?_));exact BK313.out) hb);have n5_ := z0 (y5 (g := gb322) (o := .cells #[.int .i64 t317, .int .i64 t318, .slice Ao42 t345.length co42] 31 (0, 0)) (by (with_reducible repeat (first|refine z1 ?_ _|refine z3 ?_));exact BK322.out) hb);have n6_ := z0 (y5 (g := gb330) (o := .cells #[.int .i64 t323, .int .i64 t324, .slice Ao50 t325.length co50] 31 (0, 0)) (by (with_reducible repeat (first|refine z1 ?_ _|refine z3 ?_));exact BK330.out) hb);have n7_ := z0 (y6 (by repeat (first | (with_reducible first|exact HB.out|apply z5|apply z6|refine z7 ?_ GE295.out|refine z7 ?_ GE313.out|refine z7 ?_ GE322.out|refine z7 ?_ GE330.out)|exact HB.out)) hb);clear Ha_;clear Hb_;clear Hc_;clear BK295;clear BK313;clear BK322;clear BK330;clear HB;have Ha_ := n0_;have Hb_ := n1_;have Hc_ := n2_;have BK295 := n3_;have BK313 := n4_;have BK322 := n5_;have BK330 := n6_;have HB := n7_;clear n0_ n1_ n2_ n3_ n4_ n5_ n6_ n7_;(try clear hb)))
             have n0_ := z0 (y1 Ha_.out)
             have n1_ := z0 (y1 Hb_.out)
             have n2_ := z0 (y1 Hc_.out)
             have n3_ := z0 (z3 BK295.out)
             have n4_ := z0 (z3 BK313.out)
             have n5_ := z0 (z3 BK322.out)
             have n6_ := z0 (z3 BK330.out)
             have n7_ := z0 (z6 HB.out)
             clear Ha_
             clear Hb_
             clear Hc_
             clear BK295
             clear BK313
             clear BK322
             clear BK330
             clear HB
             have Ha_ := n0_
             have Hb_ := n1_
             have Hc_ := n2_
             have BK295 := n3_
             have BK313 := n4_
             have BK322 := n5_
             have BK330 := n6_
             have HB := n7_
             clear n0_ n1_ n2_ n3_ n4_ n5_ n6_ n7_
             refine start_ (n := 14) (S := fun w' => w'.cell? ⟨gb295, 0, none⟩ = some (.int .i64 a1_0) ∧ w'.cell? ⟨gb295, 1, none⟩ = some (.int .i64 a1_1) ∧ w'.cell? ⟨gb295, 2, none⟩ = some (.slice A1_2 l1_2.length c1_2)) (ds := []) (bs_ 14 0) (by kernel_rfl) rfl rfl ⟨(x3 BK295.out 0).trans rfl, (x3 BK295.out 1).trans rfl, (x3 BK295.out 2).trans rfl⟩ (fun hHeld => ?_);refine with_tabW laws_FnExactDiffusePicture.tab31 laws_FnExactDiffusePicture.bits31 (fun HT_ HW_ => ?_)
             generalize w112.drew = w113 at Ha_ Hb_ Hc_ BK295 BK313 BK322 BK330 HB hHeld ⊢
             refine pure_ (i := 0) (N := some 114) (v := ?_) (a' := ?_) (bs_ 14 1) rfl rfl (any_of HT_.out (by kernel_rfl)) (fun _ _ _ h => h) (Or.inl ⟨by rfl, ?_⟩) ?_ ?_
             rotate_left
             ·intro w'
              go_simp
              with_reducible rfl
             rotate_left
             ·simp only [Act.put, s1_, s2_, s3_, i64_w, i32_w]
              rfl
             refine pure_ (i := 4) (N := some 118) (v := ?_) (a' := ?_) (bs_ 14 17) rfl rfl (any_of HT_.out (by kernel_rfl)) (fun _ _ _ h => h) (Or.inl ⟨by rfl, ?_⟩) ?_ ?_
             rotate_left
             ·intro w'
              go_simp
              with_reducible rfl
             rotate_left
             ·simp only [Act.put, s1_, s2_, s3_, i64_w, i32_w]
              rfl
             refine take_ (i := 2) (N := some 116) (v := ?_) (a' := ?_) (bs_ 14 21) rfl rfl (take_ofW HT_.out HW_.out (by kernel_rfl)) (fun _ _ _ h => h) (Or.inl ⟨by rfl, ?_⟩) hHeld ?_ ?_
             rotate_left
             ·rintro w' ⟨s0, s1, s2⟩
              go_simp
              with_reducible rfl
             rotate_left
             ·simp only [Act.put, s1_, s2_, s3_, i64_w, i32_w]
              rfl
             refine join_ (σ := Value × Value × Value × Nat) 3 (bs_ 14 2047) (fun s_ => [(115, s_.1), (117, .agg #[.int .i64 t353, .int .i64 t354, s_.2.1]), (119, .tuple #[.agg #[.int .i64 t358, .int .i64 t359, s_.2.2.1], .int .i64 t363, .bool t364]), (19, .pointer (some ⟨s_.2.2.2, 0, none⟩)), (113, .tuple #[.agg #[.int .i64 t358, .int .i64 t359, s_.2.2.1], .int .i64 t363, .bool t364]), (120, .agg #[.int .i64 t358, .int .i64 t359, s_.2.2.1]), (121, .int .i64 t363), (122, .bool t364)]) (fun s_ w' => (w'.cell? ⟨gb295, 0, none⟩ = some (.int .i64 a1_0) ∧ w'.cell? ⟨gb295, 1, none⟩ = some (.int .i64 a1_1) ∧ w'.cell? ⟨gb295, 2, none⟩ = some (.slice A1_2 l1_2.length c1_2)) ∧ (Kd.R k60 60 w' w.heap.size (fun _ => True) s_.1 t350) ∧ (Kd.R (Kd.int .i64) 3 w' w.heap.size (fun k_ => some k_ ≠ (s_.2.2.1 : Value).ownBlock ∧ some k_ ≠ (.slice Ao32 t308.length co32 : Value).ownBlock ∧ some k_ ≠ (.slice Ao42 t345.length co42 : Value).ownBlock ∧ some k_ ≠ (.slice Ao50 t325.length co50 : Value).ownBlock) s_.2.1 t355) ∧ (Kd.R (Kd.int .i64) 3 w' w.heap.size (fun k_ => some k_ ≠ (s_.2.1 : Value).ownBlock ∧ some k_ ≠ (.slice Ao32 t308.length co32 : Value).ownBlock ∧ some k_ ≠ (.slice Ao42 t345.length co42 : Value).ownBlock ∧ some k_ ≠ (.slice Ao50 t325.length co50 : Value).ownBlock) s_.2.2.1 t360) ∧ (Kd.R (Kd.int .i64) 3 w' w.heap.size (fun k_ => some k_ ≠ (s_.2.1 : Value).ownBlock ∧ some k_ ≠ (s_.2.2.1 : Value).ownBlock ∧ some k_ ≠ (.slice Ao42 t345.length co42 : Value).ownBlock ∧ some k_ ≠ (.slice Ao50 t325.length co50 : Value).ownBlock) (.slice Ao32 t308.length co32) t308) ∧ (Kd.R (Kd.int .i64) 3 w' w.heap.size (fun k_ => some k_ ≠ (s_.2.1 : Value).ownBlock ∧ some k_ ≠ (s_.2.2.1 : Value).ownBlock ∧ some k_ ≠ (.slice Ao32 t308.length co32 : Value).ownBlock ∧ some k_ ≠ (.slice Ao50 t325.length co50 : Value).ownBlock) (.slice Ao42 t345.length co42) t345) ∧ (Kd.R (Kd.int .i64) 3 w' w.heap.size (fun k_ => some k_ ≠ (s_.2.1 : Value).ownBlock ∧ some k_ ≠ (s_.2.2.1 : Value).ownBlock ∧ some k_ ≠ (.slice Ao32 t308.length co32 : Value).ownBlock ∧ some k_ ≠ (.slice Ao42 t345.length co42 : Value).ownBlock) (.slice Ao50 t325.length co50) t348) ∧ (w'.heap[gb295]? = some (.cells #[.int .i64 a1_0, .int .i64 a1_1, .slice A1_2 l1_2.length c1_2] 44 (0, 0))) ∧ (w'.heap[gb313]? = some (.cells #[.int .i64 t306, .int .i64 t307, .slice Ao32 t308.length co32] 31 (0, 0))) ∧ (w'.heap[gb322]? = some (.cells #[.int .i64 t317, .int .i64 t318, .slice Ao42 t345.length co42] 31 (0, 0))) ∧ (w'.heap[gb330]? = some (.cells #[.int .i64 t323, .int .i64 t324, .slice Ao50 t325.length co50] 31 (0, 0))) ∧ (w'.heap[s_.2.2.2]? = some (.cells #[.int .i64 0, .int .i64 0, .slice none 0 0] 31 (0, 0))) ∧ (w.heap.size ≤ s_.2.2.2) ∧ (w.heap.size ≤ s_.2.2.2) ∧ (gb295 ≠ s_.2.2.2) ∧ (s_.2.2.2 ≠ gb295) ∧ (gb313 ≠ s_.2.2.2) ∧ (s_.2.2.2 ≠ gb313) ∧ (gb322 ≠ s_.2.2.2) ∧ (s_.2.2.2 ≠ gb322) ∧ (gb330 ≠ s_.2.2.2) ∧ (s_.2.2.2 ≠ gb330) ∧ (Below w.heap.size w w')) ?_ ?_
             rotate_left
             ·intro hCont
              refine two_ (i := 1) (j := 10) (Ni := some 115) (Nj := some 19) (bs_ 14 23) (bs_ 14 1045) rfl rfl rfl rfl (two_of HT_.out (by kernel_rfl)) (by decide) (by decide) (fun K hK => ?_) (fun K hK => ?_)
              ·skip
               refine goes_ Try.func25 (by kernel_rfl) rfl #[.slice A0 l0.length c0] (by rfl) rfl rfl (by (try simp only [List.map_toArray, List.map_cons, List.map_nil]);first | done | rfl) ?_
               with_reducible refine (laws_toPartS.calls kj70 _ _ l0 t350 _ ?side1 ?side2 A102.out).mono ?_
               (case side1 => repeat (first|exact (y9 HR0.out HB.out) | (with_reducible refine y3 ?_ _) | (with_reducible refine y4 ?_)))
               (case side2 => exact HC0.out)
               rintro e w114 ⟨v351, rfl, ho0, hb⟩
               refine ⟨_, rfl, ?_⟩
               have n0_ := z0 (x4 (by (with_reducible repeat (first|apply z9|apply y1));exact Ha_.out) hb)
               have n1_ := z0 (x4 (by (with_reducible repeat (first|apply z9|apply y1));exact Hb_.out) hb)
               have n2_ := z0 (x4 (by (with_reducible repeat (first|apply z9|apply y1));exact Hc_.out) hb)
               have n3_ := z0 (w1_ ho0 (y7 (by repeat (first | (with_reducible first|exact HB.out|apply z5|apply z6|refine z7 ?_ GE295.out|refine z7 ?_ GE313.out|refine z7 ?_ GE322.out|refine z7 ?_ GE330.out)|exact HB.out))))
               have n4_ := z0 (y5 (g := gb295) (o := .cells #[.int .i64 a1_0, .int .i64 a1_1, .slice A1_2 l1_2.length c1_2] 44 (0, 0)) (by (with_reducible repeat (first|refine z1 ?_ _|refine z3 ?_));exact BK295.out) hb)
               have n5_ := z0 (y5 (g := gb313) (o := .cells #[.int .i64 t306, .int .i64 t307, .slice Ao32 t308.length co32] 31 (0, 0)) (by (with_reducible repeat (first|refine z1 ?_ _|refine z3 ?_));exact BK313.out) hb)
               have n6_ := z0 (y5 (g := gb322) (o := .cells #[.int .i64 t317, .int .i64 t318, .slice Ao42 t345.length co42] 31 (0, 0)) (by (with_reducible repeat (first|refine z1 ?_ _|refine z3 ?_));exact BK322.out) hb)
               have n7_ := z0 (y5 (g := gb330) (o := .cells #[.int .i64 t323, .int .i64 t324, .slice Ao50 t325.length co50] 31 (0, 0)) (by (with_reducible repeat (first|refine z1 ?_ _|refine z3 ?_));exact BK330.out) hb)
               have n8_ := z0 (y6 (by repeat (first | (with_reducible first|exact HB.out|apply z5|apply z6|refine z7 ?_ GE295.out|refine z7 ?_ GE313.out|refine z7 ?_ GE322.out|refine z7 ?_ GE330.out)|exact HB.out)) hb)
               clear Ha_
               clear Hb_
               clear Hc_
               clear BK295
               clear BK313
               clear BK322
               clear BK330
               clear HB
               have Ha_ := n0_
               have Hb_ := n1_
               have Hc_ := n2_
               have HO352 := n3_
               have BK295 := n4_
               have BK313 := n5_
               have BK322 := n6_
               have BK330 := n7_
               have HB := n8_
               clear n0_ n1_ n2_ n3_ n4_ n5_ n6_ n7_ n8_
               (try clear hb)
               (try clear hb2)
               (try clear hk)
               (try clear hi)
               (try clear ho0)
               refine hK.out _ _ ⟨(x3 BK295.out 0).trans rfl, (x3 BK295.out 1).trans rfl, (x3 BK295.out 2).trans rfl⟩ (fun hHeld => ?_)
               clear hK K
               refine norm_ (a' := ?_) ?_ ?_
               rotate_left
               ·show Act.put _ (some 115) _ = _
                simp only [Act.put, s1_, s2_, s3_, i64_w, i32_w]
                rfl
               refine two_ (i := 3) (j := 10) (Ni := some 117) (Nj := some 19) (bs_ 14 31) (bs_ 14 1047) rfl rfl rfl rfl (two_of HT_.out (by kernel_rfl)) (by decide) (by decide) (fun K hK => ?_) (fun K hK => ?_)
               ·skip
                refine goes_ Try.func26 (by kernel_rfl) rfl #[.agg #[.int .i64 a1_0, .int .i64 a1_1, .slice A1_2 l1_2.length c1_2]] (by rfl) rfl rfl (by (try simp only [List.map_toArray, List.map_cons, List.map_nil]);first | done | rfl) ?_
                with_reducible refine (laws_toPicture.calls kj70 a1_0 a1_1 _ _ l1_2 t353 t354 t355 _ ?side1 ?side2 A103.out).mono ?_
                (case side1 => repeat (first|exact HR1_2.out|exact (y9 HR1_2.out HB.out) | (with_reducible refine y3 ?_ _) | (with_reducible refine y4 ?_)))
                (case side2 => exact HC1_2.out)
                rintro e w115 ⟨v356, rfl, ho0, hb⟩
                refine ⟨_, rfl, ?_⟩
                have n0_ := z0 (y8 (by (with_reducible repeat (first|apply z9|apply y1));exact Ha_.out) (w2_ ho0) hb)
                have n1_ := z0 (y8 (by (with_reducible repeat (first|apply z9|apply y1));exact Hb_.out) (w2_ ho0) hb)
                have n2_ := z0 (y8 (by (with_reducible repeat (first|apply z9|apply y1));exact Hc_.out) (w2_ ho0) hb)
                have n3_ := z0 (x4 (by (with_reducible repeat (first|apply z9|apply y1));exact HO352.out) hb)
                have n4_ := z0 (w1_ (Kd.R_new' (Kd.R_new' (Kd.R_new' ho0 (Kd.R_lt (by (with_reducible repeat (first|apply z9|apply y1));exact Ha_.out))) (Kd.R_lt (by (with_reducible repeat (first|apply z9|apply y1));exact Hb_.out))) (Kd.R_lt (by (with_reducible repeat (first|apply z9|apply y1));exact Hc_.out))) (y7 (by repeat (first | (with_reducible first|exact HB.out|apply z5|apply z6|refine z7 ?_ GE295.out|refine z7 ?_ GE313.out|refine z7 ?_ GE322.out|refine z7 ?_ GE330.out)|exact HB.out))))
                have n5_ := z0 (y5 (g := gb295) (o := .cells #[.int .i64 a1_0, .int .i64 a1_1, .slice A1_2 l1_2.length c1_2] 44 (0, 0)) (by (with_reducible repeat (first|refine z1 ?_ _|refine z3 ?_));exact BK295.out) hb)
                have n6_ := z0 (y5 (g := gb313) (o := .cells #[.int .i64 t306, .int .i64 t307, .slice Ao32 t308.length co32] 31 (0, 0)) (by (with_reducible repeat (first|refine z1 ?_ _|refine z3 ?_));exact BK313.out) hb)
                have n7_ := z0 (y5 (g := gb322) (o := .cells #[.int .i64 t317, .int .i64 t318, .slice Ao42 t345.length co42] 31 (0, 0)) (by (with_reducible repeat (first|refine z1 ?_ _|refine z3 ?_));exact BK322.out) hb)
                have n8_ := z0 (y5 (g := gb330) (o := .cells #[.int .i64 t323, .int .i64 t324, .slice Ao50 t325.length co50] 31 (0, 0)) (by (with_reducible repeat (first|refine z1 ?_ _|refine z3 ?_));exact BK330.out) hb)
                have n9_ := z0 (y6 (by repeat (first | (with_reducible first|exact HB.out|apply z5|apply z6|refine z7 ?_ GE295.out|refine z7 ?_ GE313.out|refine z7 ?_ GE322.out|refine z7 ?_ GE330.out)|exact HB.out)) hb)
                clear Ha_
                clear Hb_
                clear Hc_
                clear HO352
                clear BK295
                clear BK313
                clear BK322
                clear BK330
                clear HB
                have Ha_ := n0_
                have Hb_ := n1_
                have Hc_ := n2_
                have HO352 := n3_
                have HO357 := n4_
                have BK295 := n5_
                have BK313 := n6_
                have BK322 := n7_
                have BK330 := n8_
                have HB := n9_
                clear n0_ n1_ n2_ n3_ n4_ n5_ n6_ n7_ n8_ n9_
                (try clear hb)
                (try clear hb2)
                (try clear hk)
                (try clear hi)
                (try clear ho0)
                obtain ⟨Ao116, co116, eo116⟩ := Kd.R_slice HO352.out
                (first | subst eo116 | (injection eo116 with f1_ f2_ f3_;have f4_ := f1_.symm;have f5_ := f3_.symm;clear f1_ f2_ f3_;subst f4_;subst f5_))
                obtain ⟨Ao117, co117, eo117⟩ := Kd.R_slice HO357.out
                (first | subst eo117 | (injection eo117 with f1_ f2_ f3_;have f4_ := f1_.symm;have f5_ := f3_.symm;clear f1_ f2_ f3_;subst f4_;subst f5_))
                refine hK.out _ _ ⟨(x3 BK295.out 0).trans rfl, (x3 BK295.out 1).trans rfl, (x3 BK295.out 2).trans rfl⟩ (fun hHeld => ?_)
                clear hK K
                refine norm_ (a' := ?_) ?_ ?_
                rotate_left
                ·show Act.put _ (some 117) _ = _
                 simp only [Act.put, s1_, s2_, s3_, i64_w, i32_w]
                 rfl
                refine two_ (i := 5) (j := 10) (Ni := some 119) (Nj := some 19) (bs_ 14 63) (bs_ 14 1055) rfl rfl rfl rfl (two_of HT_.out (by kernel_rfl)) (by decide) (by decide) (fun K hK => ?_) (fun K hK => ?_)
                ·skip
                 refine goes_ Try.func13 (by kernel_rfl) rfl #[.slice Ao116 t350.length co116, .agg #[.int .i64 t353, .int .i64 t354, .slice Ao117 t355.length co117], .bool a2] (by rfl) rfl rfl (by (try simp only [List.map_toArray, List.map_cons, List.map_nil]);first | done | rfl) ?_
                 with_reducible refine (impl_DiffusePicture.calls kj70 _ _ t350 t353 t354 _ _ t355 a2 t358 t359 t360 t363 t364 _ ?side1 ?side2 ?side3 ?side4 A104.out).mono ?_
                 (case side1 => repeat (first|exact (x5 HO352.out).2.2 | (with_reducible refine y3 ?_ _) | (with_reducible refine y4 ?_)))
                 (case side2 => exact (x5 HO352.out).2.1)
                 (case side3 => repeat (first|exact (x5 HO357.out).2.2 | (with_reducible refine y3 ?_ _) | (with_reducible refine y4 ?_)))
                 (case side4 => exact (x5 HO357.out).2.1)
                 rintro e w118 ⟨v361, rfl, ho0, hb⟩
                 refine ⟨_, rfl, ?_⟩
                 have n0_ := z0 (y8 (by (with_reducible repeat (first|apply z9|apply y1));exact Ha_.out) (w2_ ho0) hb)
                 have n1_ := z0 (y8 (by (with_reducible repeat (first|apply z9|apply y1));exact Hb_.out) (w2_ ho0) hb)
                 have n2_ := z0 (y8 (by (with_reducible repeat (first|apply z9|apply y1));exact Hc_.out) (w2_ ho0) hb)
                 have n3_ := z0 (x4 (by (with_reducible repeat (first|apply z9|apply y1));exact HO352.out) hb)
                 have n4_ := z0 (y8 (by (with_reducible repeat (first|apply z9|apply y1));exact HO357.out) (w2_ ho0) hb)
                 have n5_ := z0 (w1_ (Kd.R_new' (Kd.R_new' (Kd.R_new' (Kd.R_new' ho0 (Kd.R_lt (by (with_reducible repeat (first|apply z9|apply y1));exact Ha_.out))) (Kd.R_lt (by (with_reducible repeat (first|apply z9|apply y1));exact Hb_.out))) (Kd.R_lt (by (with_reducible repeat (first|apply z9|apply y1));exact Hc_.out))) (Kd.R_lt (by (with_reducible repeat (first|apply z9|apply y1));exact HO357.out))) (y7 (by repeat (first | (with_reducible first|exact HB.out|apply z5|apply z6|refine z7 ?_ GE295.out|refine z7 ?_ GE313.out|refine z7 ?_ GE322.out|refine z7 ?_ GE330.out)|exact HB.out))))
                 have n6_ := z0 (y5 (g := gb295) (o := .cells #[.int .i64 a1_0, .int .i64 a1_1, .slice A1_2 l1_2.length c1_2] 44 (0, 0)) (by (with_reducible repeat (first|refine z1 ?_ _|refine z3 ?_));exact BK295.out) hb)
                 have n7_ := z0 (y5 (g := gb313) (o := .cells #[.int .i64 t306, .int .i64 t307, .slice Ao32 t308.length co32] 31 (0, 0)) (by (with_reducible repeat (first|refine z1 ?_ _|refine z3 ?_));exact BK313.out) hb)
                 have n8_ := z0 (y5 (g := gb322) (o := .cells #[.int .i64 t317, .int .i64 t318, .slice Ao42 t345.length co42] 31 (0, 0)) (by (with_reducible repeat (first|refine z1 ?_ _|refine z3 ?_));exact BK322.out) hb)
                 have n9_ := z0 (y5 (g := gb330) (o := .cells #[.int .i64 t323, .int .i64 t324, .slice Ao50 t325.length co50] 31 (0, 0)) (by (with_reducible repeat (first|refine z1 ?_ _|refine z3 ?_));exact BK330.out) hb)
                 have n10_ := z0 (y6 (by repeat (first | (with_reducible first|exact HB.out|apply z5|apply z6|refine z7 ?_ GE295.out|refine z7 ?_ GE313.out|refine z7 ?_ GE322.out|refine z7 ?_ GE330.out)|exact HB.out)) hb)
                 clear Ha_
                 clear Hb_
                 clear Hc_
                 clear HO352
                 clear HO357
                 clear BK295
                 clear BK313
                 clear BK322
                 clear BK330
                 clear HB
                 have Ha_ := n0_
                 have Hb_ := n1_
                 have Hc_ := n2_
                 have HO352 := n3_
                 have HO357 := n4_
                 have HO362 := n5_
                 have BK295 := n6_
                 have BK313 := n7_
                 have BK322 := n8_
                 have BK330 := n9_
                 have HB := n10_
                 clear n0_ n1_ n2_ n3_ n4_ n5_ n6_ n7_ n8_ n9_ n10_
                 (try clear hb)
                 (try clear hb2)
                 (try clear hk)
                 (try clear hi)
                 (try clear ho0)
                 refine hK.out _ _ ⟨(x3 BK295.out 0).trans rfl, (x3 BK295.out 1).trans rfl, (x3 BK295.out 2).trans rfl⟩ (fun hHeld => ?_)
                 clear hK K
                 refine norm_ (a' := ?_) ?_ ?_
                 rotate_left
                 ·show Act.put _ (some 119) _ = _
                  simp only [Act.put, s1_, s2_, s3_, i64_w, i32_w]
                  rfl
                 refine pure_ (i := 6) (N := some 113) (v := ?_) (a' := ?_) (bs_ 14 127) rfl rfl (any_of HT_.out (by kernel_rfl)) (fun _ _ _ h => h) (Or.inl ⟨by rfl, ?_⟩) ?_ ?_
                 rotate_left
                 ·intro w'
                  go_simp
                  with_reducible rfl
                 rotate_left
                 ·simp only [Act.put, s1_, s2_, s3_, i64_w, i32_w]
                  rfl
                 refine pure_ (i := 7) (N := some 120) (v := ?_) (a' := ?_) (bs_ 14 255) rfl rfl (any_of HT_.out (by kernel_rfl)) (fun _ _ _ h => h) (Or.inl ⟨by rfl, ?_⟩) ?_ ?_
                 rotate_left
                 ·intro w'
                  go_simp
                  with_reducible rfl
                 rotate_left
                 ·simp only [Act.put, s1_, s2_, s3_, i64_w, i32_w]
                  rfl
                 refine pure_ (i := 8) (N := some 121) (v := ?_) (a' := ?_) (bs_ 14 511) rfl rfl (any_of HT_.out (by kernel_rfl)) (fun _ _ _ h => h) (Or.inl ⟨by rfl, ?_⟩) ?_ ?_
                 rotate_left
                 ·intro w'
                  go_simp
                  with_reducible rfl
                 rotate_left
                 ·simp only [Act.put, s1_, s2_, s3_, i64_w, i32_w]
                  rfl
                 refine pure_ (i := 9) (N := some 122) (v := ?_) (a' := ?_) (bs_ 14 1023) rfl rfl (any_of HT_.out (by kernel_rfl)) (fun _ _ _ h => h) (Or.inl ⟨by rfl, ?_⟩) ?_ ?_
                 rotate_left
                 ·intro w'
                  go_simp
                  with_reducible rfl
                 rotate_left
                 ·simp only [Act.put, s1_, s2_, s3_, i64_w, i32_w]
                  rfl
                 refine one_ (i := 10) (N := some 19) (bs_ 14 2047) rfl rfl (one_of HT_.out (by kernel_rfl)) (by decide) (fun K hK => ?_)
                 refine box_step ?hg (N := 19) ?hd (cs := #[.int .i64 0, .int .i64 0, .slice none 0 0]) (t := 31) ?hr ?_;(case hd => rfl);(case hg => rfl);(case hr => first | (go_simp;done) | (go_simp;rfl))
                 intro gb365 hg w119 hbox hb
                 have n0_ := z0 (x4 (by (with_reducible repeat (first|apply z9|apply y1));exact Ha_.out) hb)
                 have n1_ := z0 (x4 (by (with_reducible repeat (first|apply z9|apply y1));exact Hb_.out) hb)
                 have n2_ := z0 (x4 (by (with_reducible repeat (first|apply z9|apply y1));exact Hc_.out) hb)
                 have n3_ := z0 (x4 (by (with_reducible repeat (first|apply z9|apply y1));exact HO352.out) hb)
                 have n4_ := z0 (x4 (by (with_reducible repeat (first|apply z9|apply y1));exact HO357.out) hb)
                 have n5_ := z0 (x4 (by (with_reducible repeat (first|apply z9|apply y1));exact HO362.out) hb)
                 have n6_ := z0 (y5 (g := gb295) (o := .cells #[.int .i64 a1_0, .int .i64 a1_1, .slice A1_2 l1_2.length c1_2] 44 (0, 0)) (by (with_reducible repeat (first|refine z1 ?_ _|refine z3 ?_));exact BK295.out) hb)
                 have n7_ := z0 (y5 (g := gb313) (o := .cells #[.int .i64 t306, .int .i64 t307, .slice Ao32 t308.length co32] 31 (0, 0)) (by (with_reducible repeat (first|refine z1 ?_ _|refine z3 ?_));exact BK313.out) hb)
                 have n8_ := z0 (y5 (g := gb322) (o := .cells #[.int .i64 t317, .int .i64 t318, .slice Ao42 t345.length co42] 31 (0, 0)) (by (with_reducible repeat (first|refine z1 ?_ _|refine z3 ?_));exact BK322.out) hb)
                 have n9_ := z0 (y5 (g := gb330) (o := .cells #[.int .i64 t323, .int .i64 t324, .slice Ao50 t325.length co50] 31 (0, 0)) (by (with_reducible repeat (first|refine z1 ?_ _|refine z3 ?_));exact BK330.out) hb)
                 have n10_ := z0 (y6 (by repeat (first | (with_reducible first|exact HB.out|apply z5|apply z6|refine z7 ?_ GE295.out|refine z7 ?_ GE313.out|refine z7 ?_ GE322.out|refine z7 ?_ GE330.out)|exact HB.out)) hb)
                 have n11_ := z0 (hbox)
                 have n12_ := z0 ((by rw [hg];exact (y7 (by repeat (first | (with_reducible first|exact HB.out|apply z5|apply z6|refine z7 ?_ GE295.out|refine z7 ?_ GE313.out|refine z7 ?_ GE322.out|refine z7 ?_ GE330.out)|exact HB.out))) : w.heap.size ≤ gb365))
                 have n13_ := z0 ((by rw [hg];exact (y7 (by repeat (first | (with_reducible first|exact HB.out|apply z5|apply z6|refine z7 ?_ GE295.out|refine z7 ?_ GE313.out|refine z7 ?_ GE322.out|refine z7 ?_ GE330.out)|exact HB.out))) : w.heap.size ≤ gb365))
                 have n14_ := z0 ((by rw [hg];exact Nat.ne_of_lt (blk_lt (g := gb295) (o := .cells #[.int .i64 a1_0, .int .i64 a1_1, .slice A1_2 l1_2.length c1_2] 44 (0, 0)) (by (with_reducible repeat (first|refine z1 ?_ _|refine z3 ?_));exact BK295.out)) : gb295 ≠ gb365))
                 have n15_ := z0 ((by rw [hg];exact Nat.ne_of_gt (blk_lt (g := gb295) (o := .cells #[.int .i64 a1_0, .int .i64 a1_1, .slice A1_2 l1_2.length c1_2] 44 (0, 0)) (by (with_reducible repeat (first|refine z1 ?_ _|refine z3 ?_));exact BK295.out)) : gb365 ≠ gb295))
                 have n16_ := z0 ((by rw [hg];exact Nat.ne_of_lt (blk_lt (g := gb313) (o := .cells #[.int .i64 t306, .int .i64 t307, .slice Ao32 t308.length co32] 31 (0, 0)) (by (with_reducible repeat (first|refine z1 ?_ _|refine z3 ?_));exact BK313.out)) : gb313 ≠ gb365))
                 have n17_ := z0 ((by rw [hg];exact Nat.ne_of_gt (blk_lt (g := gb313) (o := .cells #[.int .i64 t306, .int .i64 t307, .slice Ao32 t308.length co32] 31 (0, 0)) (by (with_reducible repeat (first|refine z1 ?_ _|refine z3 ?_));exact BK313.out)) : gb365 ≠ gb313))
                 have n18_ := z0 ((by rw [hg];exact Nat.ne_of_lt (blk_lt (g := gb322) (o := .cells #[.int .i64 t317, .int .i64 t318, .slice Ao42 t345.length co42] 31 (0, 0)) (by (with_reducible repeat (first|refine z1 ?_ _|refine z3 ?_));exact BK322.out)) : gb322 ≠ gb365))
                 have n19_ := z0 ((by rw [hg];exact Nat.ne_of_gt (blk_lt (g := gb322) (o := .cells #[.int .i64 t317, .int .i64 t318, .slice Ao42 t345.length co42] 31 (0, 0)) (by (with_reducible repeat (first|refine z1 ?_ _|refine z3 ?_));exact BK322.out)) : gb365 ≠ gb322))
                 have n20_ := z0 ((by rw [hg];exact Nat.ne_of_lt (blk_lt (g := gb330) (o := .cells #[.int .i64 t323, .int .i64 t324, .slice Ao50 t325.length co50] 31 (0, 0)) (by (with_reducible repeat (first|refine z1 ?_ _|refine z3 ?_));exact BK330.out)) : gb330 ≠ gb365))
                 have n21_ := z0 ((by rw [hg];exact Nat.ne_of_gt (blk_lt (g := gb330) (o := .cells #[.int .i64 t323, .int .i64 t324, .slice Ao50 t325.length co50] 31 (0, 0)) (by (with_reducible repeat (first|refine z1 ?_ _|refine z3 ?_));exact BK330.out)) : gb365 ≠ gb330))
                 clear Ha_
                 clear Hb_
                 clear Hc_
                 clear HO352
                 clear HO357
                 clear HO362
                 clear BK295
                 clear BK313
                 clear BK322
                 clear BK330
                 clear HB
                 have Ha_ := n0_
                 have Hb_ := n1_
                 have Hc_ := n2_
                 have HO352 := n3_
                 have HO357 := n4_
                 have HO362 := n5_
                 have BK295 := n6_
                 have BK313 := n7_
                 have BK322 := n8_
                 have BK330 := n9_
                 have HB := n10_
                 have BK365 := n11_
                 have GW365 := n12_
                 have GE365 := n13_
                 have NB295_365 := n14_
                 have NB365_295 := n15_
                 have NB313_365 := n16_
                 have NB365_313 := n17_
                 have NB322_365 := n18_
                 have NB365_322 := n19_
                 have NB330_365 := n20_
                 have NB365_330 := n21_
                 clear n0_ n1_ n2_ n3_ n4_ n5_ n6_ n7_ n8_ n9_ n10_ n11_ n12_ n13_ n14_ n15_ n16_ n17_ n18_ n19_ n20_ n21_
                 clear hb hbox hg
                 refine hK.out _ _ ⟨(x3 BK295.out 0).trans rfl, (x3 BK295.out 1).trans rfl, (x3 BK295.out 2).trans rfl⟩ (fun hHeld => ?_)
                 clear hK K
                 refine norm_ (a' := ?_) ?_ ?_
                 rotate_left
                 ·show Act.put _ (some 19) _ = _
                  simp only [Act.put, s1_, s2_, s3_, i64_w, i32_w]
                  rfl
                 exact norm_ (by simp only [putAll, Act.put, s1_, s2_, s3_]) (hCont (.slice Ao116 t350.length co116, .slice Ao117 t355.length co117, v361, gb365) _ ⟨hHeld, (by (with_reducible repeat (first|apply z9|apply y1));exact HO352.out), (by (with_reducible repeat (first|apply z9|apply y1));exact x6 HO357.out (fun _ hk => ⟨hk.2, ⟨hk.1.1.1.2, ⟨hk.1.1.2, hk.1.2⟩⟩⟩)), (by (with_reducible repeat (first|apply z9|apply y1));exact x6 HO362.out (fun _ hk => ⟨hk.2, ⟨hk.1.1.1.2, ⟨hk.1.1.2, hk.1.2⟩⟩⟩)), (by (with_reducible repeat (first|apply z9|apply y1));exact x6 Ha_.out (fun _ hk => ⟨hk.1.2, ⟨hk.2, ⟨hk.1.1.1, hk.1.1.2⟩⟩⟩)), (by (with_reducible repeat (first|apply z9|apply y1));exact x6 Hb_.out (fun _ hk => ⟨hk.1.2, ⟨hk.2, ⟨hk.1.1.1, hk.1.1.2⟩⟩⟩)), (by (with_reducible repeat (first|apply z9|apply y1));exact x6 Hc_.out (fun _ hk => ⟨hk.1.2, ⟨hk.2, ⟨hk.1.1.1, hk.1.1.2⟩⟩⟩)), (by (with_reducible repeat (first|refine z1 ?_ _|refine z3 ?_));exact BK295.out), (by (with_reducible repeat (first|refine z1 ?_ _|refine z3 ?_));exact BK313.out), (by (with_reducible repeat (first|refine z1 ?_ _|refine z3 ?_));exact BK322.out), (by (with_reducible repeat (first|refine z1 ?_ _|refine z3 ?_));exact BK330.out), (by (with_reducible repeat (first|refine z1 ?_ _|refine z3 ?_));exact BK365.out), GW365.out, GE365.out, NB295_365.out, NB365_295.out, NB313_365.out, NB365_313.out, NB322_365.out, NB365_322.out, NB330_365.out, NB365_330.out, (by repeat (first | (with_reducible first|exact HB.out|apply z5|apply z6|refine z7 ?_ GE295.out|refine z7 ?_ GE313.out|refine z7 ?_ GE322.out|refine z7 ?_ GE330.out|refine z7 ?_ GE365.out)|exact HB.out))⟩)
                ·skip
                 refine box_step ?hg (N := 19) ?hd (cs := #[.int .i64 0, .int .i64 0, .slice none 0 0]) (t := 31) ?hr ?_;(case hd => rfl);(case hg => rfl);(case hr => first | (go_simp;done) | (go_simp;rfl))
                 intro gb365 hg w116 hbox hb
                 have n0_ := z0 (x4 (by (with_reducible repeat (first|apply z9|apply y1));exact Ha_.out) hb)
                 have n1_ := z0 (x4 (by (with_reducible repeat (first|apply z9|apply y1));exact Hb_.out) hb)
                 have n2_ := z0 (x4 (by (with_reducible repeat (first|apply z9|apply y1));exact Hc_.out) hb)
                 have n3_ := z0 (x4 (by (with_reducible repeat (first|apply z9|apply y1));exact HO352.out) hb)
                 have n4_ := z0 (x4 (by (with_reducible repeat (first|apply z9|apply y1));exact HO357.out) hb)
                 have n5_ := z0 (y5 (g := gb295) (o := .cells #[.int .i64 a1_0, .int .i64 a1_1, .slice A1_2 l1_2.length c1_2] 44 (0, 0)) (by (with_reducible repeat (first|refine z1 ?_ _|refine z3 ?_));exact BK295.out) hb)
                 have n6_ := z0 (y5 (g := gb313) (o := .cells #[.int .i64 t306, .int .i64 t307, .slice Ao32 t308.length co32] 31 (0, 0)) (by (with_reducible repeat (first|refine z1 ?_ _|refine z3 ?_));exact BK313.out) hb)
                 have n7_ := z0 (y5 (g := gb322) (o := .cells #[.int .i64 t317, .int .i64 t318, .slice Ao42 t345.length co42] 31 (0, 0)) (by (with_reducible repeat (first|refine z1 ?_ _|refine z3 ?_));exact BK322.out) hb)
                 have n8_ := z0 (y5 (g := gb330) (o := .cells #[.int .i64 t323, .int .i64 t324, .slice Ao50 t325.length co50] 31 (0, 0)) (by (with_reducible repeat (first|refine z1 ?_ _|refine z3 ?_));exact BK330.out) hb)
                 have n9_ := z0 (y6 (by repeat (first | (with_reducible first|exact HB.out|apply z5|apply z6|refine z7 ?_ GE295.out|refine z7 ?_ GE313.out|refine z7 ?_ GE322.out|refine z7 ?_ GE330.out)|exact HB.out)) hb)
                 have n10_ := z0 (hbox)
                 have n11_ := z0 ((by rw [hg];exact (y7 (by repeat (first | (with_reducible first|exact HB.out|apply z5|apply z6|refine z7 ?_ GE295.out|refine z7 ?_ GE313.out|refine z7 ?_ GE322.out|refine z7 ?_ GE330.out)|exact HB.out))) : w.heap.size ≤ gb365))
                 have n12_ := z0 ((by rw [hg];exact (y7 (by repeat (first | (with_reducible first|exact HB.out|apply z5|apply z6|refine z7 ?_ GE295.out|refine z7 ?_ GE313.out|refine z7 ?_ GE322.out|refine z7 ?_ GE330.out)|exact HB.out))) : w.heap.size ≤ gb365))
                 have n13_ := z0 ((by rw [hg];exact Nat.ne_of_lt (blk_lt (g := gb295) (o := .cells #[.int .i64 a1_0, .int .i64 a1_1, .slice A1_2 l1_2.length c1_2] 44 (0, 0)) (by (with_reducible repeat (first|refine z1 ?_ _|refine z3 ?_));exact BK295.out)) : gb295 ≠ gb365))
                 have n14_ := z0 ((by rw [hg];exact Nat.ne_of_gt (blk_lt (g := gb295) (o := .cells #[.int .i64 a1_0, .int .i64 a1_1, .slice A1_2 l1_2.length c1_2] 44 (0, 0)) (by (with_reducible repeat (first|refine z1 ?_ _|refine z3 ?_));exact BK295.out)) : gb365 ≠ gb295))
                 have n15_ := z0 ((by rw [hg];exact Nat.ne_of_lt (blk_lt (g := gb313) (o := .cells #[.int .i64 t306, .int .i64 t307, .slice Ao32 t308.length co32] 31 (0, 0)) (by (with_reducible repeat (first|refine z1 ?_ _|refine z3 ?_));exact BK313.out)) : gb313 ≠ gb365))
                 have n16_ := z0 ((by rw [hg];exact Nat.ne_of_gt (blk_lt (g := gb313) (o := .cells #[.int .i64 t306, .int .i64 t307, .slice Ao32 t308.length co32] 31 (0, 0)) (by (with_reducible repeat (first|refine z1 ?_ _|refine z3 ?_));exact BK313.out)) : gb365 ≠ gb313))
                 have n17_ := z0 ((by rw [hg];exact Nat.ne_of_lt (blk_lt (g := gb322) (o := .cells #[.int .i64 t317, .int .i64 t318, .slice Ao42 t345.length co42] 31 (0, 0)) (by (with_reducible repeat (first|refine z1 ?_ _|refine z3 ?_));exact BK322.out)) : gb322 ≠ gb365))
                 have n18_ := z0 ((by rw [hg];exact Nat.ne_of_gt (blk_lt (g := gb322) (o := .cells #[.int .i64 t317, .int .i64 t318, .slice Ao42 t345.length co42] 31 (0, 0)) (by (with_reducible repeat (first|refine z1 ?_ _|refine z3 ?_));exact BK322.out)) : gb365 ≠ gb322))
                 have n19_ := z0 ((by rw [hg];exact Nat.ne_of_lt (blk_lt (g := gb330) (o := .cells #[.int .i64 t323, .int .i64 t324, .slice Ao50 t325.length co50] 31 (0, 0)) (by (with_reducible repeat (first|refine z1 ?_ _|refine z3 ?_));exact BK330.out)) : gb330 ≠ gb365))
                 have n20_ := z0 ((by rw [hg];exact Nat.ne_of_gt (blk_lt (g := gb330) (o := .cells #[.int .i64 t323, .int .i64 t324, .slice Ao50 t325.length co50] 31 (0, 0)) (by (with_reducible repeat (first|refine z1 ?_ _|refine z3 ?_));exact BK330.out)) : gb365 ≠ gb330))
                 clear Ha_
                 clear Hb_
                 clear Hc_
                 clear HO352
                 clear HO357
                 clear BK295
                 clear BK313
                 clear BK322
                 clear BK330
                 clear HB
                 have Ha_ := n0_
                 have Hb_ := n1_
                 have Hc_ := n2_
                 have HO352 := n3_
                 have HO357 := n4_
                 have BK295 := n5_
                 have BK313 := n6_
                 have BK322 := n7_
                 have BK330 := n8_
                 have HB := n9_
                 have BK365 := n10_
                 have GW365 := n11_
                 have GE365 := n12_
                 have NB295_365 := n13_
                 have NB365_295 := n14_
                 have NB313_365 := n15_
                 have NB365_313 := n16_
                 have NB322_365 := n17_
                 have NB365_322 := n18_
                 have NB330_365 := n19_
                 have NB365_330 := n20_
                 clear n0_ n1_ n2_ n3_ n4_ n5_ n6_ n7_ n8_ n9_ n10_ n11_ n12_ n13_ n14_ n15_ n16_ n17_ n18_ n19_ n20_
                 clear hb hbox hg
                 obtain ⟨Ao117, co117, eo117⟩ := Kd.R_slice HO352.out
                 (first | subst eo117 | (injection eo117 with f1_ f2_ f3_;have f4_ := f1_.symm;have f5_ := f3_.symm;clear f1_ f2_ f3_;subst f4_;subst f5_))
                 obtain ⟨Ao118, co118, eo118⟩ := Kd.R_slice HO357.out
                 (first | subst eo118 | (injection eo118 with f1_ f2_ f3_;have f4_ := f1_.symm;have f5_ := f3_.symm;clear f1_ f2_ f3_;subst f4_;subst f5_))
                 refine hK.out _ _ ⟨(x3 BK295.out 0).trans rfl, (x3 BK295.out 1).trans rfl, (x3 BK295.out 2).trans rfl⟩ (fun hHeld => ?_)
                 clear hK K
                 refine norm_ (a' := ?_) ?_ ?_
                 rotate_left
                 ·show Act.put _ (some 19) _ = _
                  simp only [Act.put, s1_, s2_, s3_, i64_w, i32_w]
                  rfl
                 refine one_ (i := 5) (N := some 119) (bs_ 14 1087) rfl rfl (one_of HT_.out (by kernel_rfl)) (by decide) (fun K hK => ?_)
                 refine goes_ Try.func13 (by kernel_rfl) rfl #[.slice Ao117 t350.length co117, .agg #[.int .i64 t353, .int .i64 t354, .slice Ao118 t355.length co118], .bool a2] (by rfl) rfl rfl (by (try simp only [List.map_toArray, List.map_cons, List.map_nil]);first | done | rfl) ?_
                 with_reducible refine (impl_DiffusePicture.calls kj70 _ _ t350 t353 t354 _ _ t355 a2 t358 t359 t360 t363 t364 _ ?side1 ?side2 ?side3 ?side4 A104.out).mono ?_
                 (case side1 => repeat (first|exact (x5 HO352.out).2.2 | (with_reducible refine y3 ?_ _) | (with_reducible refine y4 ?_)))
                 (case side2 => exact (x5 HO352.out).2.1)
                 (case side3 => repeat (first|exact (x5 HO357.out).2.2 | (with_reducible refine y3 ?_ _) | (with_reducible refine y4 ?_)))
                 (case side4 => exact (x5 HO357.out).2.1)
                 rintro e w119 ⟨v361, rfl, ho0, hb⟩
                 refine ⟨_, rfl, ?_⟩
                 have n0_ := z0 (y8 (by (with_reducible repeat (first|apply z9|apply y1));exact Ha_.out) (w2_ ho0) hb)
                 have n1_ := z0 (y8 (by (with_reducible repeat (first|apply z9|apply y1));exact Hb_.out) (w2_ ho0) hb)
                 have n2_ := z0 (y8 (by (with_reducible repeat (first|apply z9|apply y1));exact Hc_.out) (w2_ ho0) hb)
                 have n3_ := z0 (x4 (by (with_reducible repeat (first|apply z9|apply y1));exact HO352.out) hb)
                 have n4_ := z0 (y8 (by (with_reducible repeat (first|apply z9|apply y1));exact HO357.out) (w2_ ho0) hb)
                 have n5_ := z0 (w1_ (Kd.R_new' (Kd.R_new' (Kd.R_new' (Kd.R_new' ho0 (Kd.R_lt (by (with_reducible repeat (first|apply z9|apply y1));exact Ha_.out))) (Kd.R_lt (by (with_reducible repeat (first|apply z9|apply y1));exact Hb_.out))) (Kd.R_lt (by (with_reducible repeat (first|apply z9|apply y1));exact Hc_.out))) (Kd.R_lt (by (with_reducible repeat (first|apply z9|apply y1));exact HO357.out))) (y7 (by repeat (first | (with_reducible first|exact HB.out|apply z5|apply z6|refine z7 ?_ GE295.out|refine z7 ?_ GE313.out|refine z7 ?_ GE322.out|refine z7 ?_ GE330.out|refine z7 ?_ GE365.out)|exact HB.out))))
                 have n6_ := z0 (y5 (g := gb295) (o := .cells #[.int .i64 a1_0, .int .i64 a1_1, .slice A1_2 l1_2.length c1_2] 44 (0, 0)) (by (with_reducible repeat (first|refine z1 ?_ _|refine z3 ?_));exact BK295.out) hb)
                 have n7_ := z0 (y5 (g := gb313) (o := .cells #[.int .i64 t306, .int .i64 t307, .slice Ao32 t308.length co32] 31 (0, 0)) (by (with_reducible repeat (first|refine z1 ?_ _|refine z3 ?_));exact BK313.out) hb)
                 have n8_ := z0 (y5 (g := gb322) (o := .cells #[.int .i64 t317, .int .i64 t318, .slice Ao42 t345.length co42] 31 (0, 0)) (by (with_reducible repeat (first|refine z1 ?_ _|refine z3 ?_));exact BK322.out) hb)
                 have n9_ := z0 (y5 (g := gb330) (o := .cells #[.int .i64 t323, .int .i64 t324, .slice Ao50 t325.length co50] 31 (0, 0)) (by (with_reducible repeat (first|refine z1 ?_ _|refine z3 ?_));exact BK330.out) hb)
                 have n10_ := z0 (y5 (g := gb365) (o := .cells #[.int .i64 0, .int .i64 0, .slice none 0 0] 31 (0, 0)) (by (with_reducible repeat (first|refine z1 ?_ _|refine z3 ?_));exact BK365.out) hb)
                 have n11_ := z0 (y6 (by repeat (first | (with_reducible first|exact HB.out|apply z5|apply z6|refine z7 ?_ GE295.out|refine z7 ?_ GE313.out|refine z7 ?_ GE322.out|refine z7 ?_ GE330.out|refine z7 ?_ GE365.out)|exact HB.out)) hb)
                 clear Ha_
                 clear Hb_
                 clear Hc_
                 clear HO352
                 clear HO357
                 clear BK295
                 clear BK313
                 clear BK322
                 clear BK330
                 clear BK365
                 clear HB
                 have Ha_ := n0_
                 have Hb_ := n1_
                 have Hc_ := n2_
                 have HO352 := n3_
                 have HO357 := n4_
                 have HO362 := n5_
                 have BK295 := n6_
                 have BK313 := n7_
                 have BK322 := n8_
                 have BK330 := n9_
                 have BK365 := n10_
                 have HB := n11_
                 clear n0_ n1_ n2_ n3_ n4_ n5_ n6_ n7_ n8_ n9_ n10_ n11_
                 (try clear hb)
                 (try clear hb2)
                 (try clear hk)
                 (try clear hi)
                 (try clear ho0)
                 refine hK.out _ _ ⟨(x3 BK295.out 0).trans rfl, (x3 BK295.out 1).trans rfl, (x3 BK295.out 2).trans rfl⟩ (fun hHeld => ?_)
                 clear hK K
                 refine norm_ (a' := ?_) ?_ ?_
                 rotate_left
                 ·show Act.put _ (some 119) _ = _
                  simp only [Act.put, s1_, s2_, s3_, i64_w, i32_w]
                  rfl
                 refine pure_ (i := 6) (N := some 113) (v := ?_) (a' := ?_) (bs_ 14 1151) rfl rfl (any_of HT_.out (by kernel_rfl)) (fun _ _ _ h => h) (Or.inl ⟨by rfl, ?_⟩) ?_ ?_
                 rotate_left
                 ·intro w'
                  go_simp
                  with_reducible rfl
                 rotate_left
                 ·simp only [Act.put, s1_, s2_, s3_, i64_w, i32_w]
                  rfl
                 refine pure_ (i := 7) (N := some 120) (v := ?_) (a' := ?_) (bs_ 14 1279) rfl rfl (any_of HT_.out (by kernel_rfl)) (fun _ _ _ h => h) (Or.inl ⟨by rfl, ?_⟩) ?_ ?_
                 rotate_left
                 ·intro w'
                  go_simp
                  with_reducible rfl
                 rotate_left
                 ·simp only [Act.put, s1_, s2_, s3_, i64_w, i32_w]
                  rfl
                 refine pure_ (i := 8) (N := some 121) (v := ?_) (a' := ?_) (bs_ 14 1535) rfl rfl (any_of HT_.out (by kernel_rfl)) (fun _ _ _ h => h) (Or.inl ⟨by rfl, ?_⟩) ?_ ?_
                 rotate_left
                 ·intro w'
                  go_simp
                  with_reducible rfl
                 rotate_left
                 ·simp only [Act.put, s1_, s2_, s3_, i64_w, i32_w]
                  rfl
                 refine pure_ (i := 9) (N := some 122) (v := ?_) (a' := ?_) (bs_ 14 2047) rfl rfl (any_of HT_.out (by kernel_rfl)) (fun _ _ _ h => h) (Or.inl ⟨by rfl, ?_⟩) ?_ ?_
                 rotate_left
                 ·intro w'
                  go_simp
                  with_reducible rfl
                 rotate_left
                 ·simp only [Act.put, s1_, s2_, s3_, i64_w, i32_w]
                  rfl
                 exact norm_ (by simp only [putAll, Act.put, s1_, s2_, s3_]) (hCont (.slice Ao117 t350.length co117, .slice Ao118 t355.length co118, v361, gb365) _ ⟨hHeld, (by (with_reducible repeat (first|apply z9|apply y1));exact HO352.out), (by (with_reducible repeat (first|apply z9|apply y1));exact x6 HO357.out (fun _ hk => ⟨hk.2, ⟨hk.1.1.1.2, ⟨hk.1.1.2, hk.1.2⟩⟩⟩)), (by (with_reducible repeat (first|apply z9|apply y1));exact x6 HO362.out (fun _ hk => ⟨hk.2, ⟨hk.1.1.1.2, ⟨hk.1.1.2, hk.1.2⟩⟩⟩)), (by (with_reducible repeat (first|apply z9|apply y1));exact x6 Ha_.out (fun _ hk => ⟨hk.1.2, ⟨hk.2, ⟨hk.1.1.1, hk.1.1.2⟩⟩⟩)), (by (with_reducible repeat (first|apply z9|apply y1));exact x6 Hb_.out (fun _ hk => ⟨hk.1.2, ⟨hk.2, ⟨hk.1.1.1, hk.1.1.2⟩⟩⟩)), (by (with_reducible repeat (first|apply z9|apply y1));exact x6 Hc_.out (fun _ hk => ⟨hk.1.2, ⟨hk.2, ⟨hk.1.1.1, hk.1.1.2⟩⟩⟩)), (by (with_reducible repeat (first|refine z1 ?_ _|refine z3 ?_));exact BK295.out), (by (with_reducible repeat (first|refine z1 ?_ _|refine z3 ?_));exact BK313.out), (by (with_reducible repeat (first|refine z1 ?_ _|refine z3 ?_));exact BK322.out), (by (with_reducible repeat (first|refine z1 ?_ _|refine z3 ?_));exact BK330.out), (by (with_reducible repeat (first|refine z1 ?_ _|refine z3 ?_));exact BK365.out), GW365.out, GE365.out, NB295_365.out, NB365_295.out, NB313_365.out, NB365_313.out, NB322_365.out, NB365_322.out, NB330_365.out, NB365_330.out, (by repeat (first | (with_reducible first|exact HB.out|apply z5|apply z6|refine z7 ?_ GE295.out|refine z7 ?_ GE313.out|refine z7 ?_ GE322.out|refine z7 ?_ GE330.out|refine z7 ?_ GE365.out)|exact HB.out))⟩)
               ·skip
                refine box_step ?hg (N := 19) ?hd (cs := #[.int .i64 0, .int .i64 0, .slice none 0 0]) (t := 31) ?hr ?_;(case hd => rfl);(case hg => rfl);(case hr => first | (go_simp;done) | (go_simp;rfl))
                intro gb365 hg w115 hbox hb
                have n0_ := z0 (x4 (by (with_reducible repeat (first|apply z9|apply y1));exact Ha_.out) hb)
                have n1_ := z0 (x4 (by (with_reducible repeat (first|apply z9|apply y1));exact Hb_.out) hb)
                have n2_ := z0 (x4 (by (with_reducible repeat (first|apply z9|apply y1));exact Hc_.out) hb)
                have n3_ := z0 (x4 (by (with_reducible repeat (first|apply z9|apply y1));exact HO352.out) hb)
                have n4_ := z0 (y5 (g := gb295) (o := .cells #[.int .i64 a1_0, .int .i64 a1_1, .slice A1_2 l1_2.length c1_2] 44 (0, 0)) (by (with_reducible repeat (first|refine z1 ?_ _|refine z3 ?_));exact BK295.out) hb)
                have n5_ := z0 (y5 (g := gb313) (o := .cells #[.int .i64 t306, .int .i64 t307, .slice Ao32 t308.length co32] 31 (0, 0)) (by (with_reducible repeat (first|refine z1 ?_ _|refine z3 ?_));exact BK313.out) hb)
                have n6_ := z0 (y5 (g := gb322) (o := .cells #[.int .i64 t317, .int .i64 t318, .slice Ao42 t345.length co42] 31 (0, 0)) (by (with_reducible repeat (first|refine z1 ?_ _|refine z3 ?_));exact BK322.out) hb)
                have n7_ := z0 (y5 (g := gb330) (o := .cells #[.int .i64 t323, .int .i64 t324, .slice Ao50 t325.length co50] 31 (0, 0)) (by (with_reducible repeat (first|refine z1 ?_ _|refine z3 ?_));exact BK330.out) hb)
                have n8_ := z0 (y6 (by repeat (first | (with_reducible first|exact HB.out|apply z5|apply z6|refine z7 ?_ GE295.out|refine z7 ?_ GE313.out|refine z7 ?_ GE322.out|refine z7 ?_ GE330.out)|exact HB.out)) hb)
                have n9_ := z0 (hbox)
                have n10_ := z0 ((by rw [hg];exact (y7 (by repeat (first | (with_reducible first|exact HB.out|apply z5|apply z6|refine z7 ?_ GE295.out|refine z7 ?_ GE313.out|refine z7 ?_ GE322.out|refine z7 ?_ GE330.out)|exact HB.out))) : w.heap.size ≤ gb365))
                have n11_ := z0 ((by rw [hg];exact (y7 (by repeat (first | (with_reducible first|exact HB.out|apply z5|apply z6|refine z7 ?_ GE295.out|refine z7 ?_ GE313.out|refine z7 ?_ GE322.out|refine z7 ?_ GE330.out)|exact HB.out))) : w.heap.size ≤ gb365))
                have n12_ := z0 ((by rw [hg];exact Nat.ne_of_lt (blk_lt (g := gb295) (o := .cells #[.int .i64 a1_0, .int .i64 a1_1, .slice A1_2 l1_2.length c1_2] 44 (0, 0)) (by (with_reducible repeat (first|refine z1 ?_ _|refine z3 ?_));exact BK295.out)) : gb295 ≠ gb365))
                have n13_ := z0 ((by rw [hg];exact Nat.ne_of_gt (blk_lt (g := gb295) (o := .cells #[.int .i64 a1_0, .int .i64 a1_1, .slice A1_2 l1_2.length c1_2] 44 (0, 0)) (by (with_reducible repeat (first|refine z1 ?_ _|refine z3 ?_));exact BK295.out)) : gb365 ≠ gb295))
                have n14_ := z0 ((by rw [hg];exact Nat.ne_of_lt (blk_lt (g := gb313) (o := .cells #[.int .i64 t306, .int .i64 t307, .slice Ao32 t308.length co32] 31 (0, 0)) (by (with_reducible repeat (first|refine z1 ?_ _|refine z3 ?_));exact BK313.out)) : gb313 ≠ gb365))
                have n15_ := z0 ((by rw [hg];exact Nat.ne_of_gt (blk_lt (g := gb313) (o := .cells #[.int .i64 t306, .int .i64 t307, .slice Ao32 t308.length co32] 31 (0, 0)) (by (with_reducible repeat (first|refine z1 ?_ _|refine z3 ?_));exact BK313.out)) : gb365 ≠ gb313))
                have n16_ := z0 ((by rw [hg];exact Nat.ne_of_lt (blk_lt (g := gb322) (o := .cells #[.int .i64 t317, .int .i64 t318, .slice Ao42 t345.length co42] 31 (0, 0)) (by (with_reducible repeat (first|refine z1 ?_ _|refine z3 ?_));exact BK322.out)) : gb322 ≠ gb365))
                have n17_ := z0 ((by rw [hg];exact Nat.ne_of_gt (blk_lt (g := gb322) (o := .cells #[.int .i64 t317, .int .i64 t318, .slice Ao42 t345.length co42] 31 (0, 0)) (by (with_reducible repeat (first|refine z1 ?_ _|refine z3 ?_));exact BK322.out)) : gb365 ≠ gb322))
                have n18_ := z0 ((by rw [hg];exact Nat.ne_of_lt (blk_lt (g := gb330) (o := .cells #[.int .i64 t323, .int .i64 t324, .slice Ao50 t325.length co50] 31 (0, 0)) (by (with_reducible repeat (first|refine z1 ?_ _|refine z3 ?_));exact BK330.out)) : gb330 ≠ gb365))
                have n19_ := z0 ((by rw [hg];exact Nat.ne_of_gt (blk_lt (g := gb330) (o := .cells #[.int .i64 t323, .int .i64 t324, .slice Ao50 t325.length co50] 31 (0, 0)) (by (with_reducible repeat (first|refine z1 ?_ _|refine z3 ?_));exact BK330.out)) : gb365 ≠ gb330))
                clear Ha_
                clear Hb_
                clear Hc_
                clear HO352
                clear BK295
                clear BK313
                clear BK322
                clear BK330
                clear HB
                have Ha_ := n0_
                have Hb_ := n1_
                have Hc_ := n2_
                have HO352 := n3_
                have BK295 := n4_
                have BK313 := n5_
                have BK322 := n6_
                have BK330 := n7_
                have HB := n8_
                have BK365 := n9_
                have GW365 := n10_
                have GE365 := n11_
                have NB295_365 := n12_
                have NB365_295 := n13_
                have NB313_365 := n14_
                have NB365_313 := n15_
                have NB322_365 := n16_
                have NB365_322 := n17_
                have NB330_365 := n18_
                have NB365_330 := n19_
                clear n0_ n1_ n2_ n3_ n4_ n5_ n6_ n7_ n8_ n9_ n10_ n11_ n12_ n13_ n14_ n15_ n16_ n17_ n18_ n19_
                clear hb hbox hg
                refine hK.out _ _ ⟨(x3 BK295.out 0).trans rfl, (x3 BK295.out 1).trans rfl, (x3 BK295.out 2).trans rfl⟩ (fun hHeld => ?_)
                clear hK K
                refine norm_ (a' := ?_) ?_ ?_
                rotate_left
                ·show Act.put _ (some 19) _ = _
                 simp only [Act.put, s1_, s2_, s3_, i64_w, i32_w]
                 rfl
                refine one_ (i := 3) (N := some 117) (bs_ 14 1055) rfl rfl (one_of HT_.out (by kernel_rfl)) (by decide) (fun K hK => ?_)
                refine goes_ Try.func26 (by kernel_rfl) rfl #[.agg #[.int .i64 a1_0, .int .i64 a1_1, .slice A1_2 l1_2.length c1_2]] (by rfl) rfl rfl (by (try simp only [List.map_toArray, List.map_cons, List.map_nil]);first | done | rfl) ?_
                with_reducible refine (laws_toPicture.calls kj70 a1_0 a1_1 _ _ l1_2 t353 t354 t355 _ ?side1 ?side2 A103.out).mono ?_
                (case side1 => repeat (first|exact HR1_2.out|exact (y9 HR1_2.out HB.out) | (with_reducible refine y3 ?_ _) | (with_reducible refine y4 ?_)))
                (case side2 => exact HC1_2.out)
                rintro e w116 ⟨v356, rfl, ho0, hb⟩
                refine ⟨_, rfl, ?_⟩
                have n0_ := z0 (y8 (by (with_reducible repeat (first|apply z9|apply y1));exact Ha_.out) (w2_ ho0) hb)
                have n1_ := z0 (y8 (by (with_reducible repeat (first|apply z9|apply y1));exact Hb_.out) (w2_ ho0) hb)
                have n2_ := z0 (y8 (by (with_reducible repeat (first|apply z9|apply y1));exact Hc_.out) (w2_ ho0) hb)
                have n3_ := z0 (x4 (by (with_reducible repeat (first|apply z9|apply y1));exact HO352.out) hb)
                have n4_ := z0 (w1_ (Kd.R_new' (Kd.R_new' (Kd.R_new' ho0 (Kd.R_lt (by (with_reducible repeat (first|apply z9|apply y1));exact Ha_.out))) (Kd.R_lt (by (with_reducible repeat (first|apply z9|apply y1));exact Hb_.out))) (Kd.R_lt (by (with_reducible repeat (first|apply z9|apply y1));exact Hc_.out))) (y7 (by repeat (first | (with_reducible first|exact HB.out|apply z5|apply z6|refine z7 ?_ GE295.out|refine z7 ?_ GE313.out|refine z7 ?_ GE322.out|refine z7 ?_ GE330.out|refine z7 ?_ GE365.out)|exact HB.out))))
                have n5_ := z0 (y5 (g := gb295) (o := .cells #[.int .i64 a1_0, .int .i64 a1_1, .slice A1_2 l1_2.length c1_2] 44 (0, 0)) (by (with_reducible repeat (first|refine z1 ?_ _|refine z3 ?_));exact BK295.out) hb)
                have n6_ := z0 (y5 (g := gb313) (o := .cells #[.int .i64 t306, .int .i64 t307, .slice Ao32 t308.length co32] 31 (0, 0)) (by (with_reducible repeat (first|refine z1 ?_ _|refine z3 ?_));exact BK313.out) hb)
                have n7_ := z0 (y5 (g := gb322) (o := .cells #[.int .i64 t317, .int .i64 t318, .slice Ao42 t345.length co42] 31 (0, 0)) (by (with_reducible repeat (first|refine z1 ?_ _|refine z3 ?_));exact BK322.out) hb)
                have n8_ := z0 (y5 (g := gb330) (o := .cells #[.int .i64 t323, .int .i64 t324, .slice Ao50 t325.length co50] 31 (0, 0)) (by (with_reducible repeat (first|refine z1 ?_ _|refine z3 ?_));exact BK330.out) hb)
                have n9_ := z0 (y5 (g := gb365) (o := .cells #[.int .i64 0, .int .i64 0, .slice none 0 0] 31 (0, 0)) (by (with_reducible repeat (first|refine z1 ?_ _|refine z3 ?_));exact BK365.out) hb)
                have n10_ := z0 (y6 (by repeat (first | (with_reducible first|exact HB.out|apply z5|apply z6|refine z7 ?_ GE295.out|refine z7 ?_ GE313.out|refine z7 ?_ GE322.out|refine z7 ?_ GE330.out|refine z7 ?_ GE365.out)|exact HB.out)) hb)
                clear Ha_
                clear Hb_
                clear Hc_
                clear HO352
                clear BK295
                clear BK313
                clear BK322
                clear BK330
                clear BK365
                clear HB
                have Ha_ := n0_
                have Hb_ := n1_
                have Hc_ := n2_
                have HO352 := n3_
                have HO357 := n4_
                have BK295 := n5_
                have BK313 := n6_
                have BK322 := n7_
                have BK330 := n8_
                have BK365 := n9_
                have HB := n10_
                clear n0_ n1_ n2_ n3_ n4_ n5_ n6_ n7_ n8_ n9_ n10_
                (try clear hb)
                (try clear hb2)
                (try clear hk)
                (try clear hi)
                (try clear ho0)
                obtain ⟨Ao117, co117, eo117⟩ := Kd.R_slice HO352.out
                (first | subst eo117 | (injection eo117 with f1_ f2_ f3_;have f4_ := f1_.symm;have f5_ := f3_.symm;clear f1_ f2_ f3_;subst f4_;subst f5_))
                obtain ⟨Ao118, co118, eo118⟩ := Kd.R_slice HO357.out
                (first | subst eo118 | (injection eo118 with f1_ f2_ f3_;have f4_ := f1_.symm;have f5_ := f3_.symm;clear f1_ f2_ f3_;subst f4_;subst f5_))
                refine hK.out _ _ ⟨(x3 BK295.out 0).trans rfl, (x3 BK295.out 1).trans rfl, (x3 BK295.out 2).trans rfl⟩ (fun hHeld => ?_)
                clear hK K
                refine norm_ (a' := ?_) ?_ ?_
                rotate_left
                ·show Act.put _ (some 117) _ = _
                 simp only [Act.put, s1_, s2_, s3_, i64_w, i32_w]
                 rfl
                refine one_ (i := 5) (N := some 119) (bs_ 14 1087) rfl rfl (one_of HT_.out (by kernel_rfl)) (by decide) (fun K hK => ?_)
                refine goes_ Try.func13 (by kernel_rfl) rfl #[.slice Ao117 t350.length co117, .agg #[.int .i64 t353, .int .i64 t354, .slice Ao118 t355.length co118], .bool a2] (by rfl) rfl rfl (by (try simp only [List.map_toArray, List.map_cons, List.map_nil]);first | done | rfl) ?_
                with_reducible refine (impl_DiffusePicture.calls kj70 _ _ t350 t353 t354 _ _ t355 a2 t358 t359 t360 t363 t364 _ ?side1 ?side2 ?side3 ?side4 A104.out).mono ?_
                (case side1 => repeat (first|exact (x5 HO352.out).2.2 | (with_reducible refine y3 ?_ _) | (with_reducible refine y4 ?_)))
                (case side2 => exact (x5 HO352.out).2.1)
                (case side3 => repeat (first|exact (x5 HO357.out).2.2 | (with_reducible refine y3 ?_ _) | (with_reducible refine y4 ?_)))
                (case side4 => exact (x5 HO357.out).2.1)
                rintro e w119 ⟨v361, rfl, ho0, hb⟩
                refine ⟨_, rfl, ?_⟩
                have n0_ := z0 (y8 (by (with_reducible repeat (first|apply z9|apply y1));exact Ha_.out) (w2_ ho0) hb)
                have n1_ := z0 (y8 (by (with_reducible repeat (first|apply z9|apply y1));exact Hb_.out) (w2_ ho0) hb)
                have n2_ := z0 (y8 (by (with_reducible repeat (first|apply z9|apply y1));exact Hc_.out) (w2_ ho0) hb)
                have n3_ := z0 (x4 (by (with_reducible repeat (first|apply z9|apply y1));exact HO352.out) hb)
                have n4_ := z0 (y8 (by (with_reducible repeat (first|apply z9|apply y1));exact HO357.out) (w2_ ho0) hb)
                have n5_ := z0 (w1_ (Kd.R_new' (Kd.R_new' (Kd.R_new' (Kd.R_new' ho0 (Kd.R_lt (by (with_reducible repeat (first|apply z9|apply y1));exact Ha_.out))) (Kd.R_lt (by (with_reducible repeat (first|apply z9|apply y1));exact Hb_.out))) (Kd.R_lt (by (with_reducible repeat (first|apply z9|apply y1));exact Hc_.out))) (Kd.R_lt (by (with_reducible repeat (first|apply z9|apply y1));exact HO357.out))) (y7 (by repeat (first | (with_reducible first|exact HB.out|apply z5|apply z6|refine z7 ?_ GE295.out|refine z7 ?_ GE313.out|refine z7 ?_ GE322.out|refine z7 ?_ GE330.out|refine z7 ?_ GE365.out)|exact HB.out))))
                have n6_ := z0 (y5 (g := gb295) (o := .cells #[.int .i64 a1_0, .int .i64 a1_1, .slice A1_2 l1_2.length c1_2] 44 (0, 0)) (by (with_reducible repeat (first|refine z1 ?_ _|refine z3 ?_));exact BK295.out) hb)
                have n7_ := z0 (y5 (g := gb313) (o := .cells #[.int .i64 t306, .int .i64 t307, .slice Ao32 t308.length co32] 31 (0, 0)) (by (with_reducible repeat (first|refine z1 ?_ _|refine z3 ?_));exact BK313.out) hb)
                have n8_ := z0 (y5 (g := gb322) (o := .cells #[.int .i64 t317, .int .i64 t318, .slice Ao42 t345.length co42] 31 (0, 0)) (by (with_reducible repeat (first|refine z1 ?_ _|refine z3 ?_));exact BK322.out) hb)
                have n9_ := z0 (y5 (g := gb330) (o := .cells #[.int .i64 t323, .int .i64 t324, .slice Ao50 t325.length co50] 31 (0, 0)) (by (with_reducible repeat (first|refine z1 ?_ _|refine z3 ?_));exact BK330.out) hb)
                have n10_ := z0 (y5 (g := gb365) (o := .cells #[.int .i64 0, .int .i64 0, .slice none 0 0] 31 (0, 0)) (by (with_reducible repeat (first|refine z1 ?_ _|refine z3 ?_));exact BK365.out) hb)
                have n11_ := z0 (y6 (by repeat (first | (with_reducible first|exact HB.out|apply z5|apply z6|refine z7 ?_ GE295.out|refine z7 ?_ GE313.out|refine z7 ?_ GE322.out|refine z7 ?_ GE330.out|refine z7 ?_ GE365.out)|exact HB.out)) hb)
                clear Ha_
                clear Hb_
                clear Hc_
                clear HO352
                clear HO357
                clear BK295
                clear BK313
                clear BK322
                clear BK330
                clear BK365
                clear HB
                have Ha_ := n0_
                have Hb_ := n1_
                have Hc_ := n2_
                have HO352 := n3_
                have HO357 := n4_
                have HO362 := n5_
                have BK295 := n6_
                have BK313 := n7_
                have BK322 := n8_
                have BK330 := n9_
                have BK365 := n10_
                have HB := n11_
                clear n0_ n1_ n2_ n3_ n4_ n5_ n6_ n7_ n8_ n9_ n10_ n11_
                (try clear hb)
                (try clear hb2)
                (try clear hk)
                (try clear hi)
                (try clear ho0)
                refine hK.out _ _ ⟨(x3 BK295.out 0).trans rfl, (x3 BK295.out 1).trans rfl, (x3 BK295.out 2).trans rfl⟩ (fun hHeld => ?_)
                clear hK K
                refine norm_ (a' := ?_) ?_ ?_
                rotate_left
                ·show Act.put _ (some 119) _ = _
                 simp only [Act.put, s1_, s2_, s3_, i64_w, i32_w]
                 rfl
                refine pure_ (i := 6) (N := some 113) (v := ?_) (a' := ?_) (bs_ 14 1151) rfl rfl (any_of HT_.out (by kernel_rfl)) (fun _ _ _ h => h) (Or.inl ⟨by rfl, ?_⟩) ?_ ?_
                rotate_left
                ·intro w'
                 go_simp
                 with_reducible rfl
                rotate_left
                ·simp only [Act.put, s1_, s2_, s3_, i64_w, i32_w]
                 rfl
                refine pure_ (i := 7) (N := some 120) (v := ?_) (a' := ?_) (bs_ 14 1279) rfl rfl (any_of HT_.out (by kernel_rfl)) (fun _ _ _ h => h) (Or.inl ⟨by rfl, ?_⟩) ?_ ?_
                rotate_left
                ·intro w'
                 go_simp
                 with_reducible rfl
                rotate_left
                ·simp only [Act.put, s1_, s2_, s3_, i64_w, i32_w]
                 rfl
                refine pure_ (i := 8) (N := some 121) (v := ?_) (a' := ?_) (bs_ 14 1535) rfl rfl (any_of HT_.out (by kernel_rfl)) (fun _ _ _ h => h) (Or.inl ⟨by rfl, ?_⟩) ?_ ?_
                rotate_left
                ·intro w'
                 go_simp
                 with_reducible rfl
                rotate_left
                ·simp only [Act.put, s1_, s2_, s3_, i64_w, i32_w]
                 rfl
                refine pure_ (i := 9) (N := some 122) (v := ?_) (a' := ?_) (bs_ 14 2047) rfl rfl (any_of HT_.out (by kernel_rfl)) (fun _ _ _ h => h) (Or.inl ⟨by rfl, ?_⟩) ?_ ?_
                rotate_left
                ·intro w'
                 go_simp
                 with_reducible rfl
                rotate_left
                ·simp only [Act.put, s1_, s2_, s3_, i64_w, i32_w]
                 rfl
                exact norm_ (by simp only [putAll, Act.put, s1_, s2_, s3_]) (hCont (.slice Ao117 t350.length co117, .slice Ao118 t355.length co118, v361, gb365) _ ⟨hHeld, (by (with_reducible repeat (first|apply z9|apply y1));exact HO352.out), (by (with_reducible repeat (first|apply z9|apply y1));exact x6 HO357.out (fun _ hk => ⟨hk.2, ⟨hk.1.1.1.2, ⟨hk.1.1.2, hk.1.2⟩⟩⟩)), (by (with_reducible repeat (first|apply z9|apply y1));exact x6 HO362.out (fun _ hk => ⟨hk.2, ⟨hk.1.1.1.2, ⟨hk.1.1.2, hk.1.2⟩⟩⟩)), (by (with_reducible repeat (first|apply z9|apply y1));exact x6 Ha_.out (fun _ hk => ⟨hk.1.2, ⟨hk.2, ⟨hk.1.1.1, hk.1.1.2⟩⟩⟩)), (by (with_reducible repeat (first|apply z9|apply y1));exact x6 Hb_.out (fun _ hk => ⟨hk.1.2, ⟨hk.2, ⟨hk.1.1.1, hk.1.1.2⟩⟩⟩)), (by (with_reducible repeat (first|apply z9|apply y1));exact x6 Hc_.out (fun _ hk => ⟨hk.1.2, ⟨hk.2, ⟨hk.1.1.1, hk.1.1.2⟩⟩⟩)), (by (with_reducible repeat (first|refine z1 ?_ _|refine z3 ?_));exact BK295.out), (by (with_reducible repeat (first|refine z1 ?_ _|refine z3 ?_));exact BK313.out), (by (with_reducible repeat (first|refine z1 ?_ _|refine z3 ?_));exact BK322.out), (by (with_reducible repeat (first|refine z1 ?_ _|refine z3 ?_));exact BK330.out), (by (with_reducible repeat (first|refine z1 ?_ _|refine z3 ?_));exact BK365.out), GW365.out, GE365.out, NB295_365.out, NB365_295.out, NB313_365.out, NB365_313.out, NB322_365.out, NB365_322.out, NB330_365.out, NB365_330.out, (by repeat (first | (with_reducible first|exact HB.out|apply z5|apply z6|refine z7 ?_ GE295.out|refine z7 ?_ GE313.out|refine z7 ?_ GE322.out|refine z7 ?_ GE330.out|refine z7 ?_ GE365.out)|exact HB.out))⟩)
              ·skip
               refine box_step ?hg (N := 19) ?hd (cs := #[.int .i64 0, .int .i64 0, .slice none 0 0]) (t := 31) ?hr ?_;(case hd => rfl);(case hg => rfl);(case hr => first | (go_simp;done) | (go_simp;rfl))
               intro gb365 hg w114 hbox hb
               have n0_ := z0 (x4 (by (with_reducible repeat (first|apply z9|apply y1));exact Ha_.out) hb)
               have n1_ := z0 (x4 (by (with_reducible repeat (first|apply z9|apply y1));exact Hb_.out) hb)
               have n2_ := z0 (x4 (by (with_reducible repeat (first|apply z9|apply y1));exact Hc_.out) hb)
               have n3_ := z0 (y5 (g := gb295) (o := .cells #[.int .i64 a1_0, .int .i64 a1_1, .slice A1_2 l1_2.length c1_2] 44 (0, 0)) (by (with_reducible repeat (first|refine z1 ?_ _|refine z3 ?_));exact BK295.out) hb)
               have n4_ := z0 (y5 (g := gb313) (o := .cells #[.int .i64 t306, .int .i64 t307, .slice Ao32 t308.length co32] 31 (0, 0)) (by (with_reducible repeat (first|refine z1 ?_ _|refine z3 ?_));exact BK313.out) hb)
               have n5_ := z0 (y5 (g := gb322) (o := .cells #[.int .i64 t317, .int .i64 t318, .slice Ao42 t345.length co42] 31 (0, 0)) (by (with_reducible repeat (first|refine z1 ?_ _|refine z3 ?_));exact BK322.out) hb)
               have n6_ := z0 (y5 (g := gb330) (o := .cells #[.int .i64 t323, .int .i64 t324, .slice Ao50 t325.length co50] 31 (0, 0)) (by (with_reducible repeat (first|refine z1 ?_ _|refine z3 ?_));exact BK330.out) hb)
               have n7_ := z0 (y6 (by repeat (first | (with_reducible first|exact HB.out|apply z5|apply z6|refine z7 ?_ GE295.out|refine z7 ?_ GE313.out|refine z7 ?_ GE322.out|refine z7 ?_ GE330.out)|exact HB.out)) hb)
               have n8_ := z0 (hbox)
               have n9_ := z0 ((by rw [hg];exact (y7 (by repeat (first | (with_reducible first|exact HB.out|apply z5|apply z6|refine z7 ?_ GE295.out|refine z7 ?_ GE313.out|refine z7 ?_ GE322.out|refine z7 ?_ GE330.out)|exact HB.out))) : w.heap.size ≤ gb365))
               have n10_ := z0 ((by rw [hg];exact (y7 (by repeat (first | (with_reducible first|exact HB.out|apply z5|apply z6|refine z7 ?_ GE295.out|refine z7 ?_ GE313.out|refine z7 ?_ GE322.out|refine z7 ?_ GE330.out)|exact HB.out))) : w.heap.size ≤ gb365))
               have n11_ := z0 ((by rw [hg];exact Nat.ne_of_lt (blk_lt (g := gb295) (o := .cells #[.int .i64 a1_0, .int .i64 a1_1, .slice A1_2 l1_2.length c1_2] 44 (0, 0)) (by (with_reducible repeat (first|refine z1 ?_ _|refine z3 ?_));exact BK295.out)) : gb295 ≠ gb365))
               have n12_ := z0 ((by rw [hg];exact Nat.ne_of_gt (blk_lt (g := gb295) (o := .cells #[.int .i64 a1_0, .int .i64 a1_1, .slice A1_2 l1_2.length c1_2] 44 (0, 0)) (by (with_reducible repeat (first|refine z1 ?_ _|refine z3 ?_));exact BK295.out)) : gb365 ≠ gb295))
               have n13_ := z0 ((by rw [hg];exact Nat.ne_of_lt (blk_lt (g := gb313) (o := .cells #[.int .i64 t306, .int .i64 t307, .slice Ao32 t308.length co32] 31 (0, 0)) (by (with_reducible repeat (first|refine z1 ?_ _|refine z3 ?_));exact BK313.out)) : gb313 ≠ gb365))
               have n14_ := z0 ((by rw [hg];exact Nat.ne_of_gt (blk_lt (g := gb313) (o := .cells #[.int .i64 t306, .int .i64 t307, .slice Ao32 t308.length co32] 31 (0, 0)) (by (with_reducible repeat (first|refine z1 ?_ _|refine z3 ?_));exact BK313.out)) : gb365 ≠ gb313))
               have n15_ := z0 ((by rw [hg];exact Nat.ne_of_lt (blk_lt (g := gb322) (o := .cells #[.int .i64 t317, .int .i64 t318, .slice Ao42 t345.length co42] 31 (0, 0)) (by (with_reducible repeat (first|refine z1 ?_ _|refine z3 ?_));exact BK322.out)) : gb322 ≠ gb365))
               have n16_ := z0 ((by rw [hg];exact Nat.ne_of_gt (blk_lt (g := gb322) (o := .cells #[.int .i64 t317, .int .i64 t318, .slice Ao42 t345.length co42] 31 (0, 0)) (by (with_reducible repeat (first|refine z1 ?_ _|refine z3 ?_));exact BK322.out)) : gb365 ≠ gb322))
               have n17_ := z0 ((by rw [hg];exact Nat.ne_of_lt (blk_lt (g := gb330) (o := .cells #[.int .i64 t323, .int .i64 t324, .slice Ao50 t325.length co50] 31 (0, 0)) (by (with_reducible repeat (first|refine z1 ?_ _|refine z3 ?_));exact BK330.out)) : gb330 ≠ gb365))
               have n18_ := z0 ((by rw [hg];exact Nat.ne_of_gt (blk_lt (g := gb330) (o := .cells #[.int .i64 t323, .int .i64 t324, .slice Ao50 t325.length co50] 31 (0, 0)) (by (with_reducible repeat (first|refine z1 ?_ _|refine z3 ?_));exact BK330.out)) : gb365 ≠ gb330))
               clear Ha_
               clear Hb_
               clear Hc_
               clear BK295
               clear BK313
               clear BK322
               clear BK330
               clear HB
               have Ha_ := n0_
               have Hb_ := n1_
               have Hc_ := n2_
               have BK295 := n3_
               have BK313 := n4_
               have BK322 := n5_
               have BK330 := n6_
               have HB := n7_
               have BK365 := n8_
               have GW365 := n9_
               have GE365 := n10_
               have NB295_365 := n11_
               have NB365_295 := n12_
               have NB313_365 := n13_
               have NB365_313 := n14_
               have NB322_365 := n15_
               have NB365_322 := n16_
               have NB330_365 := n17_
               have NB365_330 := n18_
               clear n0_ n1_ n2_ n3_ n4_ n5_ n6_ n7_ n8_ n9_ n10_ n11_ n12_ n13_ n14_ n15_ n16_ n17_ n18_
               clear hb hbox hg
               refine hK.out _ _ ⟨(x3 BK295.out 0).trans rfl, (x3 BK295.out 1).trans rfl, (x3 BK295.out 2).trans rfl⟩ (fun hHeld => ?_)
               clear hK K
               refine norm_ (a' := ?_) ?_ ?_
               rotate_left
               ·show Act.put _ (some 19) _ = _
                simp only [Act.put, s1_, s2_, s3_, i64_w, i32_w]
                rfl
               refine one_ (i := 1) (N := some 115) (bs_ 14 1047) rfl rfl (one_of HT_.out (by kernel_rfl)) (by decide) (fun K hK => ?_)
               refine goes_ Try.func25 (by kernel_rfl) rfl #[.slice A0 l0.length c0] (by rfl) rfl rfl (by (try simp only [List.map_toArray, List.map_cons, List.map_nil]);first | done | rfl) ?_
               with_reducible refine (laws_toPartS.calls kj70 _ _ l0 t350 _ ?side1 ?side2 A102.out).mono ?_
               (case side1 => repeat (first|exact (y9 HR0.out HB.out) | (with_reducible refine y3 ?_ _) | (with_reducible refine y4 ?_)))
               (case side2 => exact HC0.out)
               rintro e w115 ⟨v351, rfl, ho0, hb⟩
               refine ⟨_, rfl, ?_⟩
               have n0_ := z0 (x4 (by (with_reducible repeat (first|apply z9|apply y1));exact Ha_.out) hb)
               have n1_ := z0 (x4 (by (with_reducible repeat (first|apply z9|apply y1));exact Hb_.out) hb)
               have n2_ := z0 (x4 (by (with_reducible repeat (first|apply z9|apply y1));exact Hc_.out) hb)
               have n3_ := z0 (w1_ ho0 (y7 (by repeat (first | (with_reducible first|exact HB.out|apply z5|apply z6|refine z7 ?_ GE295.out|refine z7 ?_ GE313.out|refine z7 ?_ GE322.out|refine z7 ?_ GE330.out|refine z7 ?_ GE365.out)|exact HB.out))))
               have n4_ := z0 (y5 (g := gb295) (o := .cells #[.int .i64 a1_0, .int .i64 a1_1, .slice A1_2 l1_2.length c1_2] 44 (0, 0)) (by (with_reducible repeat (first|refine z1 ?_ _|refine z3 ?_));exact BK295.out) hb)
               have n5_ := z0 (y5 (g := gb313) (o := .cells #[.int .i64 t306, .int .i64 t307, .slice Ao32 t308.length co32] 31 (0, 0)) (by (with_reducible repeat (first|refine z1 ?_ _|refine z3 ?_));exact BK313.out) hb)
               have n6_ := z0 (y5 (g := gb322) (o := .cells #[.int .i64 t317, .int .i64 t318, .slice Ao42 t345.length co42] 31 (0, 0)) (by (with_reducible repeat (first|refine z1 ?_ _|refine z3 ?_));exact BK322.out) hb)
               have n7_ := z0 (y5 (g := gb330) (o := .cells #[.int .i64 t323, .int .i64 t324, .slice Ao50 t325.length co50] 31 (0, 0)) (by (with_reducible repeat (first|refine z1 ?_ _|refine z3 ?_));exact BK330.out) hb)
               have n8_ := z0 (y5 (g := gb365) (o := .cells #[.int .i64 0, .int .i64 0, .slice none 0 0] 31 (0, 0)) (by (with_reducible repeat (first|refine z1 ?_ _|refine z3 ?_));exact BK365.out) hb)
               have n9_ := z0 (y6 (by repeat (first | (with_reducible first|exact HB.out|apply z5|apply z6|refine z7 ?_ GE295.out|refine z7 ?_ GE313.out|refine z7 ?_ GE322.out|refine z7 ?_ GE330.out|refine z7 ?_ GE365.out)|exact HB.out)) hb)
               clear Ha_
               clear Hb_
               clear Hc_
               clear BK295
               clear BK313
               clear BK322
               clear BK330
               clear BK365
               clear HB
               have Ha_ := n0_
               have Hb_ := n1_
               have Hc_ := n2_
               have HO352 := n3_
               have BK295 := n4_
               have BK313 := n5_
               have BK322 := n6_
               have BK330 := n7_
               have BK365 := n8_
               have HB := n9_
               clear n0_ n1_ n2_ n3_ n4_ n5_ n6_ n7_ n8_ n9_
               (try clear hb)
               (try clear hb2)
               (try clear hk)
               (try clear hi)
               (try clear ho0)
               refine hK.out _ _ ⟨(x3 BK295.out 0).trans rfl, (x3 BK295.out 1).trans rfl, (x3 BK295.out 2).trans rfl⟩ (fun hHeld => ?_)
               clear hK K
               refine norm_ (a' := ?_) ?_ ?_
               rotate_left
               ·show Act.put _ (some 115) _ = _
                simp only [Act.put, s1_, s2_, s3_, i64_w, i32_w]
                rfl
               refine one_ (i := 3) (N := some 117) (bs_ 14 1055) rfl rfl (one_of HT_.out (by kernel_rfl)) (by decide) (fun K hK => ?_)
               refine goes_ Try.func26 (by kernel_rfl) rfl #[.agg #[.int .i64 a1_0, .int .i64 a1_1, .slice A1_2 l1_2.length c1_2]] (by rfl) rfl rfl (by (try simp only [List.map_toArray, List.map_cons, List.map_nil]);first | done | rfl) ?_
               with_reducible refine (laws_toPicture.calls kj70 a1_0 a1_1 _ _ l1_2 t353 t354 t355 _ ?side1 ?side2 A103.out).mono ?_
               (case side1 => repeat (first|exact HR1_2.out|exact (y9 HR1_2.out HB.out) | (with_reducible refine y3 ?_ _) | (with_reducible refine y4 ?_)))
               (case side2 => exact HC1_2.out)
               rintro e w116 ⟨v356, rfl, ho0, hb⟩
               refine ⟨_, rfl, ?_⟩
               have n0_ := z0 (y8 (by (with_reducible repeat (first|apply z9|apply y1));exact Ha_.out) (w2_ ho0) hb)
               have n1_ := z0 (y8 (by (with_reducible repeat (first|apply z9|apply y1));exact Hb_.out) (w2_ ho0) hb)
               have n2_ := z0 (y8 (by (with_reducible repeat (first|apply z9|apply y1));exact Hc_.out) (w2_ ho0) hb)
               have n3_ := z0 (x4 (by (with_reducible repeat (first|apply z9|apply y1));exact HO352.out) hb)
               have n4_ := z0 (w1_ (Kd.R_new' (Kd.R_new' (Kd.R_new' ho0 (Kd.R_lt (by (with_reducible repeat (first|apply z9|apply y1));exact Ha_.out))) (Kd.R_lt (by (with_reducible repeat (first|apply z9|apply y1));exact Hb_.out))) (Kd.R_lt (by (with_reducible repeat (first|apply z9|apply y1));exact Hc_.out))) (y7 (by repeat (first | (with_reducible first|exact HB.out|apply z5|apply z6|refine z7 ?_ GE295.out|refine z7 ?_ GE313.out|refine z7 ?_ GE322.out|refine z7 ?_ GE330.out|refine z7 ?_ GE365.out)|exact HB.out))))
               have n5_ := z0 (y5 (g := gb295) (o := .cells #[.int .i64 a1_0, .int .i64 a1_1, .slice A1_2 l1_2.length c1_2] 44 (0, 0)) (by (with_reducible repeat (first|refine z1 ?_ _|refine z3 ?_));exact BK295.out) hb)
               have n6_ := z0 (y5 (g := gb313) (o := .cells #[.int .i64 t306, .int .i64 t307, .slice Ao32 t308.length co32] 31 (0, 0)) (by (with_reducible repeat (first|refine z1 ?_ _|refine z3 ?_));exact BK313.out) hb)
               have n7_ := z0 (y5 (g := gb322) (o := .cells #[.int .i64 t317, .int .i64 t318, .slice Ao42 t345.length co42] 31 (0, 0)) (by (with_reducible repeat (first|refine z1 ?_ _|refine z3 ?_));exact BK322.out) hb)
               have n8_ := z0 (y5 (g := gb330) (o := .cells #[.int .i64 t323, .int .i64 t324, .slice Ao50 t325.length co50] 31 (0, 0)) (by (with_reducible repeat (first|refine z1 ?_ _|refine z3 ?_));exact BK330.out) hb)
               have n9_ := z0 (y5 (g := gb365) (o := .cells #[.int .i64 0, .int .i64 0, .slice none 0 0] 31 (0, 0)) (by (with_reducible repeat (first|refine z1 ?_ _|refine z3 ?_));exact BK365.out) hb)
               have n10_ := z0 (y6 (by repeat (first | (with_reducible first|exact HB.out|apply z5|apply z6|refine z7 ?_ GE295.out|refine z7 ?_ GE313.out|refine z7 ?_ GE322.out|refine z7 ?_ GE330.out|refine z7 ?_ GE365.out)|exact HB.out)) hb)
               clear Ha_
               clear Hb_
               clear Hc_
               clear HO352
               clear BK295
               clear BK313
               clear BK322
               clear BK330
               clear BK365
               clear HB
               have Ha_ := n0_
               have Hb_ := n1_
               have Hc_ := n2_
               have HO352 := n3_
               have HO357 := n4_
               have BK295 := n5_
               have BK313 := n6_
               have BK322 := n7_
               have BK330 := n8_
               have BK365 := n9_
               have HB := n10_
               clear n0_ n1_ n2_ n3_ n4_ n5_ n6_ n7_ n8_ n9_ n10_
               (try clear hb)
               (try clear hb2)
               (try clear hk)
               (try clear hi)
               (try clear ho0)
               obtain ⟨Ao117, co117, eo117⟩ := Kd.R_slice HO352.out
               (first | subst eo117 | (injection eo117 with f1_ f2_ f3_;have f4_ := f1_.symm;have f5_ := f3_.symm;clear f1_ f2_ f3_;subst f4_;subst f5_))
               obtain ⟨Ao118, co118, eo118⟩ := Kd.R_slice HO357.out
               (first | subst eo118 | (injection eo118 with f1_ f2_ f3_;have f4_ := f1_.symm;have f5_ := f3_.symm;clear f1_ f2_ f3_;subst f4_;subst f5_))
               refine hK.out _ _ ⟨(x3 BK295.out 0).trans rfl, (x3 BK295.out 1).trans rfl, (x3 BK295.out 2).trans rfl⟩ (fun hHeld => ?_)
               clear hK K
               refine norm_ (a' := ?_) ?_ ?_
               rotate_left
               ·show Act.put _ (some 117) _ = _
                simp only [Act.put, s1_, s2_, s3_, i64_w, i32_w]
                rfl
               refine one_ (i := 5) (N := some 119) (bs_ 14 1087) rfl rfl (one_of HT_.out (by kernel_rfl)) (by decide) (fun K hK => ?_)
               refine goes_ Try.func13 (by kernel_rfl) rfl #[.slice Ao117 t350.length co117, .agg #[.int .i64 t353, .int .i64 t354, .slice Ao118 t355.length co118], .bool a2] (by rfl) rfl rfl (by (try simp only [List.map_toArray, List.map_cons, List.map_nil]);first | done | rfl) ?_
               with_reducible refine (impl_DiffusePicture.calls kj70 _ _ t350 t353 t354 _ _ t355 a2 t358 t359 t360 t363 t364 _ ?side1 ?side2 ?side3 ?side4 A104.out).mono ?_
               (case side1 => repeat (first|exact (x5 HO352.out).2.2 | (with_reducible refine y3 ?_ _) | (with_reducible refine y4 ?_)))
               (case side2 => exact (x5 HO352.out).2.1)
               (case side3 => repeat (first|exact (x5 HO357.out).2.2 | (with_reducible refine y3 ?_ _) | (with_reducible refine y4 ?_)))
               (case side4 => exact (x5 HO357.out).2.1)
               rintro e w119 ⟨v361, rfl, ho0, hb⟩
               refine ⟨_, rfl, ?_⟩
               have n0_ := z0 (y8 (by (with_reducible repeat (first|apply z9|apply y1));exact Ha_.out) (w2_ ho0) hb)
               have n1_ := z0 (y8 (by (with_reducible repeat (first|apply z9|apply y1));exact Hb_.out) (w2_ ho0) hb)
               have n2_ := z0 (y8 (by (with_reducible repeat (first|apply z9|apply y1));exact Hc_.out) (w2_ ho0) hb)
               have n3_ := z0 (x4 (by (with_reducible repeat (first|apply z9|apply y1));exact HO352.out) hb)
               have n4_ := z0 (y8 (by (with_reducible repeat (first|apply z9|apply y1));exact HO357.out) (w2_ ho0) hb)
               have n5_ := z0 (w1_ (Kd.R_new' (Kd.R_new' (Kd.R_new' (Kd.R_new' ho0 (Kd.R_lt (by (with_reducible repeat (first|apply z9|apply y1));exact Ha_.out))) (Kd.R_lt (by (with_reducible repeat (first|apply z9|apply y1));exact Hb_.out))) (Kd.R_lt (by (with_reducible repeat (first|apply z9|apply y1));exact Hc_.out))) (Kd.R_lt (by (with_reducible repeat (first|apply z9|apply y1));exact HO357.out))) (y7 (by repeat (first | (with_reducible first|exact HB.out|apply z5|apply z6|refine z7 ?_ GE295.out|refine z7 ?_ GE313.out|refine z7 ?_ GE322.out|refine z7 ?_ GE330.out|refine z7 ?_ GE365.out)|exact HB.out))))
               have n6_ := z0 (y5 (g := gb295) (o := .cells #[.int .i64 a1_0, .int .i64 a1_1, .slice A1_2 l1_2.length c1_2] 44 (0, 0)) (by (with_reducible repeat (first|refine z1 ?_ _|refine z3 ?_));exact BK295.out) hb)
               have n7_ := z0 (y5 (g := gb313) (o := .cells #[.int .i64 t306, .int .i64 t307, .slice Ao32 t308.length co32] 31 (0, 0)) (by (with_reducible repeat (first|refine z1 ?_ _|refine z3 ?_));exact BK313.out) hb)
               have n8_ := z0 (y5 (g := gb322) (o := .cells #[.int .i64 t317, .int .i64 t318, .slice Ao42 t345.length co42] 31 (0, 0)) (by (with_reducible repeat (first|refine z1 ?_ _|refine z3 ?_));exact BK322.out) hb)
               have n9_ := z0 (y5 (g := gb330) (o := .cells #[.int .i64 t323, .int .i64 t324, .slice Ao50 t325.length co50] 31 (0, 0)) (by (with_reducible repeat (first|refine z1 ?_ _|refine z3 ?_));exact BK330.out) hb)
               have n10_ := z0 (y5 (g := gb365) (o := .cells #[.int .i64 0, .int .i64 0, .slice none 0 0] 31 (0, 0)) (by (with_reducible repeat (first|refine z1 ?_ _|refine z3 ?_));exact BK365.out) hb)
               have n11_ := z0 (y6 (by repeat (first | (with_reducible first|exact HB.out|apply z5|apply z6|refine z7 ?_ GE295.out|refine z7 ?_ GE313.out|refine z7 ?_ GE322.out|refine z7 ?_ GE330.out|refine z7 ?_ GE365.out)|exact HB.out)) hb)
               clear Ha_
               clear Hb_
               clear Hc_
               clear HO352
               clear HO357
               clear BK295
               clear BK313
               clear BK322
               clear BK330
               clear BK365
               clear HB
               have Ha_ := n0_
               have Hb_ := n1_
               have Hc_ := n2_
               have HO352 := n3_
               have HO357 := n4_
               have HO362 := n5_
               have BK295 := n6_
               have BK313 := n7_
               have BK322 := n8_
               have BK330 := n9_
               have BK365 := n10_
               have HB := n11_
               clear n0_ n1_ n2_ n3_ n4_ n5_ n6_ n7_ n8_ n9_ n10_ n11_
               (try clear hb)
               (try clear hb2)
               (try clear hk)
               (try clear hi)
               (try clear ho0)
               refine hK.out _ _ ⟨(x3 BK295.out 0).trans rfl, (x3 BK295.out 1).trans rfl, (x3 BK295.out 2).trans rfl⟩ (fun hHeld => ?_)
               clear hK K
               refine norm_ (a' := ?_) ?_ ?_
               rotate_left
               ·show Act.put _ (some 119) _ = _
                simp only [Act.put, s1_, s2_, s3_, i64_w, i32_w]
                rfl
               refine pure_ (i := 6) (N := some 113) (v := ?_) (a' := ?_) (bs_ 14 1151) rfl rfl (any_of HT_.out (by kernel_rfl)) (fun _ _ _ h => h) (Or.inl ⟨by rfl, ?_⟩) ?_ ?_
               rotate_left
               ·intro w'
                go_simp
                with_reducible rfl
               rotate_left
               ·simp only [Act.put, s1_, s2_, s3_, i64_w, i32_w]
                rfl
               refine pure_ (i := 7) (N := some 120) (v := ?_) (a' := ?_) (bs_ 14 1279) rfl rfl (any_of HT_.out (by kernel_rfl)) (fun _ _ _ h => h) (Or.inl ⟨by rfl, ?_⟩) ?_ ?_
               rotate_left
               ·intro w'
                go_simp
                with_reducible rfl
               rotate_left
               ·simp only [Act.put, s1_, s2_, s3_, i64_w, i32_w]
                rfl
               refine pure_ (i := 8) (N := some 121) (v := ?_) (a' := ?_) (bs_ 14 1535) rfl rfl (any_of HT_.out (by kernel_rfl)) (fun _ _ _ h => h) (Or.inl ⟨by rfl, ?_⟩) ?_ ?_
               rotate_left
               ·intro w'
                go_simp
                with_reducible rfl
               rotate_left
               ·simp only [Act.put, s1_, s2_, s3_, i64_w, i32_w]
                rfl
               refine pure_ (i := 9) (N := some 122) (v := ?_) (a' := ?_) (bs_ 14 2047) rfl rfl (any_of HT_.out (by kernel_rfl)) (fun _ _ _ h => h) (Or.inl ⟨by rfl, ?_⟩) ?_ ?_
               rotate_left
               ·intro w'
                go_simp
                with_reducible rfl
               rotate_left
               ·simp only [Act.put, s1_, s2_, s3_, i64_w, i32_w]
                rfl
               exact norm_ (by simp only [putAll, Act.put, s1_, s2_, s3_]) (hCont (.slice Ao117 t350.length co117, .slice Ao118 t355.length co118, v361, gb365) _ ⟨hHeld, (by (with_reducible repeat (first|apply z9|apply y1));exact HO352.out), (by (with_reducible repeat (first|apply z9|apply y1));exact x6 HO357.out (fun _ hk => ⟨hk.2, ⟨hk.1.1.1.2, ⟨hk.1.1.2, hk.1.2⟩⟩⟩)), (by (with_reducible repeat (first|apply z9|apply y1));exact x6 HO362.out (fun _ hk => ⟨hk.2, ⟨hk.1.1.1.2, ⟨hk.1.1.2, hk.1.2⟩⟩⟩)), (by (with_reducible repeat (first|apply z9|apply y1));exact x6 Ha_.out (fun _ hk => ⟨hk.1.2, ⟨hk.2, ⟨hk.1.1.1, hk.1.1.2⟩⟩⟩)), (by (with_reducible repeat (first|apply z9|apply y1));exact x6 Hb_.out (fun _ hk => ⟨hk.1.2, ⟨hk.2, ⟨hk.1.1.1, hk.1.1.2⟩⟩⟩)), (by (with_reducible repeat (first|apply z9|apply y1));exact x6 Hc_.out (fun _ hk => ⟨hk.1.2, ⟨hk.2, ⟨hk.1.1.1, hk.1.1.2⟩⟩⟩)), (by (with_reducible repeat (first|refine z1 ?_ _|refine z3 ?_));exact BK295.out), (by (with_reducible repeat (first|refine z1 ?_ _|refine z3 ?_));exact BK313.out), (by (with_reducible repeat (first|refine z1 ?_ _|refine z3 ?_));exact BK322.out), (by (with_reducible repeat (first|refine z1 ?_ _|refine z3 ?_));exact BK330.out), (by (with_reducible repeat (first|refine z1 ?_ _|refine z3 ?_));exact BK365.out), GW365.out, GE365.out, NB295_365.out, NB365_295.out, NB313_365.out, NB365_313.out, NB322_365.out, NB365_322.out, NB330_365.out, NB365_330.out, (by repeat (first | (with_reducible first|exact HB.out|apply z5|apply z6|refine z7 ?_ GE295.out|refine z7 ?_ GE313.out|refine z7 ?_ GE322.out|refine z7 ?_ GE330.out|refine z7 ?_ GE365.out)|exact HB.out))⟩)
             rintro ⟨v351, v356, v361, gb365⟩ w120 ⟨hS_, h0_, h1_, h2_, h3_, h4_, h5_, h6_, h7_, h8_, h9_, h10_, h11_, h12_, h13_, h14_, h15_, h16_, h17_, h18_, h19_, h20_, h21_⟩
             have n0_ : Aside0 (Kd.R k60 60 w120 w.heap.size (fun _ => True) v351 t350) := ⟨h0_⟩
             have n1_ : Aside0 (Kd.R (Kd.int .i64) 3 w120 w.heap.size (fun k_ => some k_ ≠ (v361 : Value).ownBlock ∧ some k_ ≠ (.slice Ao32 t308.length co32 : Value).ownBlock ∧ some k_ ≠ (.slice Ao42 t345.length co42 : Value).ownBlock ∧ some k_ ≠ (.slice Ao50 t325.length co50 : Value).ownBlock) v356 t355) := ⟨h1_⟩
             have n2_ : Aside0 (Kd.R (Kd.int .i64) 3 w120 w.heap.size (fun k_ => some k_ ≠ (v356 : Value).ownBlock ∧ some k_ ≠ (.slice Ao32 t308.length co32 : Value).ownBlock ∧ some k_ ≠ (.slice Ao42 t345.length co42 : Value).ownBlock ∧ some k_ ≠ (.slice Ao50 t325.length co50 : Value).ownBlock) v361 t360) := ⟨h2_⟩
             have n3_ : Aside0 (Kd.R (Kd.int .i64) 3 w120 w.heap.size (fun k_ => some k_ ≠ (v356 : Value).ownBlock ∧ some k_ ≠ (v361 : Value).ownBlock ∧ some k_ ≠ (.slice Ao42 t345.length co42 : Value).ownBlock ∧ some k_ ≠ (.slice Ao50 t325.length co50 : Value).ownBlock) (.slice Ao32 t308.length co32) t308) := ⟨h3_⟩
             have n4_ : Aside0 (Kd.R (Kd.int .i64) 3 w120 w.heap.size (fun k_ => some k_ ≠ (v356 : Value).ownBlock ∧ some k_ ≠ (v361 : Value).ownBlock ∧ some k_ ≠ (.slice Ao32 t308.length co32 : Value).ownBlock ∧ some k_ ≠ (.slice Ao50 t325.length co50 : Value).ownBlock) (.slice Ao42 t345.length co42) t345) := ⟨h4_⟩
             have n5_ : Aside0 (Kd.R (Kd.int .i64) 3 w120 w.heap.size (fun k_ => some k_ ≠ (v356 : Value).ownBlock ∧ some k_ ≠ (v361 : Value).ownBlock ∧ some k_ ≠ (.slice Ao32 t308.length co32 : Value).ownBlock ∧ some k_ ≠ (.slice Ao42 t345.length co42 : Value).ownBlock) (.slice Ao50 t325.length co50) t348) := ⟨h5_⟩
             have n6_ : Aside0 (w120.heap[gb295]? = some (.cells #[.int .i64 a1_0, .int .i64 a1_1, .slice A1_2 l1_2.length c1_2] 44 (0, 0))) := ⟨h6_⟩
             have n7_ : Aside0 (w120.heap[gb313]? = some (.cells #[.int .i64 t306, .int .i64 t307, .slice Ao32 t308.length co32] 31 (0, 0))) := ⟨h7_⟩
             have n8_ : Aside0 (w120.heap[gb322]? = some (.cells #[.int .i64 t317, .int .i64 t318, .slice Ao42 t345.length co42] 31 (0, 0))) := ⟨h8_⟩
             have n9_ : Aside0 (w120.heap[gb330]? = some (.cells #[.int .i64 t323, .int .i64 t324, .slice Ao50 t325.length co50] 31 (0, 0))) := ⟨h9_⟩
             have n10_ : Aside0 (w120.heap[gb365]? = some (.cells #[.int .i64 0, .int .i64 0, .slice none 0 0] 31 (0, 0))) := ⟨h10_⟩
             have n11_ : Aside0 (w.heap.size ≤ gb365) := ⟨h11_⟩
             have n12_ : Aside0 (w.heap.size ≤ gb365) := ⟨h12_⟩
             have n13_ : Aside0 (gb295 ≠ gb365) := ⟨h13_⟩
             have n14_ : Aside0 (gb365 ≠ gb295) := ⟨h14_⟩
             have n15_ : Aside0 (gb313 ≠ gb365) := ⟨h15_⟩
             have n16_ : Aside0 (gb365 ≠ gb313) := ⟨h16_⟩
             have n17_ : Aside0 (gb322 ≠ gb365) := ⟨h17_⟩
             have n18_ : Aside0 (gb365 ≠ gb322) := ⟨h18_⟩
             have n19_ : Aside0 (gb330 ≠ gb365) := ⟨h19_⟩
             have n20_ : Aside0 (gb365 ≠ gb330) := ⟨h20_⟩
             have n21_ : Aside0 (Below w.heap.size w w120) := ⟨h21_⟩
             clear Ha_
             clear Hb_
             clear Hc_
             clear BK295
             clear BK313
             clear BK322
             clear BK330
             clear HB
             clear h0_ h1_ h2_ h3_ h4_ h5_ h6_ h7_ h8_ h9_ h10_ h11_ h12_ h13_ h14_ h15_ h16_ h17_ h18_ h19_ h20_ h21_
             have HO352 := n0_
             have HO357 := n1_
             have HO362 := n2_
             have Ha_ := n3_
             have Hb_ := n4_
             have Hc_ := n5_
             have BK295 := n6_
             have BK313 := n7_
             have BK322 := n8_
             have BK330 := n9_
             have BK365 := n10_
             have GW365 := n11_
             have GE365 := n12_
             have NB295_365 := n13_
             have NB365_295 := n14_
             have NB313_365 := n15_
             have NB365_313 := n16_
             have NB322_365 := n17_
             have NB365_322 := n18_
             have NB330_365 := n19_
             have NB365_330 := n20_
             have HB := n21_
             clear n0_ n1_ n2_ n3_ n4_ n5_ n6_ n7_ n8_ n9_ n10_ n11_ n12_ n13_ n14_ n15_ n16_ n17_ n18_ n19_ n20_ n21_
             have hHeld : w120.cell? ⟨gb295, 0, none⟩ = some (.int .i64 a1_0) ∧ w120.cell? ⟨gb295, 1, none⟩ = some (.int .i64 a1_1) ∧ w120.cell? ⟨gb295, 2, none⟩ = some (.slice A1_2 l1_2.length c1_2) := hS_
             obtain ⟨Ao123, co123, eo123⟩ := Kd.R_slice HO362.out
             (first | subst eo123 | (injection eo123 with f1_ f2_ f3_;have f4_ := f1_.symm;have f5_ := f3_.symm;clear f1_ f2_ f3_;subst f4_;subst f5_))
             refine norm_ (a' := ?_) ?_ ?_
             rotate_left
             ·simp only [putAll, Act.put, s1_, s2_, s3_]
              rfl
             refine one_ (i := 11) (N := none) (bs_ 14 4095) rfl rfl (one_of HT_.out (by kernel_rfl)) (by decide) (fun K hK => ?_)
             have hs121 : w120.cell? ⟨gb365, 0, none⟩ = some (.int .i64 0) := (x3 BK365.out 0).trans rfl
             have hfs121 := x2 BK365.out 0
             have hns121_0 := NB295_365.out
             have hns121_1 := NB313_365.out
             have hns121_2 := NB322_365.out
             have hns121_3 := NB330_365.out
             have hms121_0 := NB365_295.out
             have hms121_1 := NB365_313.out
             have hms121_2 := NB365_322.out
             have hms121_3 := NB365_330.out
             have hs122 : w120.cell? ⟨gb365, 1, none⟩ = some (.int .i64 0) := (x3 BK365.out 1).trans rfl
             have hfs122 := x2 BK365.out 1
             have hns122_0 := NB295_365.out
             have hns122_1 := NB313_365.out
             have hns122_2 := NB322_365.out
             have hns122_3 := NB330_365.out
             have hms122_0 := NB365_295.out
             have hms122_1 := NB365_313.out
             have hms122_2 := NB365_322.out
             have hms122_3 := NB365_330.out
             have hs124 : w120.cell? ⟨gb365, 2, none⟩ = some (.slice none 0 0) := (x3 BK365.out 2).trans rfl
             have hfs124 := x2 BK365.out 2
             have hns124_0 := NB295_365.out
             have hns124_1 := NB313_365.out
             have hns124_2 := NB322_365.out
             have hns124_3 := NB330_365.out
             have hms124_0 := NB365_295.out
             have hms124_1 := NB365_313.out
             have hms124_2 := NB365_322.out
             have hms124_3 := NB365_330.out
             refine skip_ (w1 := ?_) (by rfl) rfl ?_ ?_
             rotate_left
             ·go_simp
              rfl
             refine hK.out _ _ ⟨((cell_far (p := ⟨gb365, _, none⟩) NB295_365.out _).trans (((cell_far (p := ⟨gb365, _, none⟩) NB295_365.out _).trans (((cell_far (p := ⟨gb365, _, none⟩) NB295_365.out _).trans (hHeld.1)))))), ((cell_far (p := ⟨gb365, _, none⟩) NB295_365.out _).trans (((cell_far (p := ⟨gb365, _, none⟩) NB295_365.out _).trans (((cell_far (p := ⟨gb365, _, none⟩) NB295_365.out _).trans (hHeld.2.1)))))), ((cell_far (p := ⟨gb365, _, none⟩) NB295_365.out _).trans (((cell_far (p := ⟨gb365, _, none⟩) NB295_365.out _).trans (((cell_far (p := ⟨gb365, _, none⟩) NB295_365.out _).trans (hHeld.2.2))))))⟩ (fun hHeld => ?_)
             clear hK K
             refine pure_ (i := 12) (N := some 20) (v := ?_) (a' := ?_) (bs_ 14 8191) rfl rfl (any_of HT_.out (by kernel_rfl)) (fun _ _ _ h => h) (Or.inl ⟨by rfl, ?_⟩) ?_ ?_
             rotate_left
             ·intro w'
              go_simp
              with_reducible rfl
             rotate_left
             ·simp only [Act.put, s1_, s2_, s3_, i64_w, i32_w]
              rfl
             refine pure_ (i := 13) (N := some 21) (v := ?_) (a' := ?_) (bs_ 14 16383) rfl rfl (any_of HT_.out (by kernel_rfl)) (fun _ _ _ h => h) (Or.inl ⟨by rfl, ?_⟩) ?_ ?_
             rotate_left
             ·intro w'
              go_simp
              with_reducible rfl
             rotate_left
             ·simp only [Act.put, s1_, s2_, s3_, i64_w, i32_w]
              rfl
             refine done_ (done_of HT_.out (by kernel_rfl)) ?_
             go_upto_region 32 with (fail)
             go_cut [136] (fun v136 wc => ∃ (kq : Nat) (x136_104 : Bool), v136 = .bool x136_104 ∧ Aside0 (laws_FnExactDiffusePicture.j2 kq t347 x136_104 t323 t324 t348 = some r) ∧ Aside0 (kq ≤ kj70) ∧ Aside0 (Kd.R (Kd.int .i64) 3 wc w.heap.size (fun k_ => some k_ ≠ ((.slice Ao42 t345.length co42) : Value).ownBlock ∧ some k_ ≠ ((.slice Ao50 t325.length co50) : Value).ownBlock ∧ some k_ ≠ ((.slice Ao123 t360.length co123) : Value).ownBlock) (.slice Ao32 t308.length co32) t308) ∧ Aside0 (Kd.R (Kd.int .i64) 3 wc w.heap.size (fun k_ => some k_ ≠ ((.slice Ao32 t308.length co32) : Value).ownBlock ∧ some k_ ≠ ((.slice Ao50 t325.length co50) : Value).ownBlock ∧ some k_ ≠ ((.slice Ao123 t360.length co123) : Value).ownBlock) (.slice Ao42 t345.length co42) t345) ∧ Aside0 (Kd.R (Kd.int .i64) 3 wc w.heap.size (fun k_ => some k_ ≠ ((.slice Ao32 t308.length co32) : Value).ownBlock ∧ some k_ ≠ ((.slice Ao42 t345.length co42) : Value).ownBlock ∧ some k_ ≠ ((.slice Ao123 t360.length co123) : Value).ownBlock) (.slice Ao50 t325.length co50) t348) ∧ Aside0 (Kd.R (Kd.int .i64) 3 wc w.heap.size (fun k_ => some k_ ≠ ((.slice Ao32 t308.length co32) : Value).ownBlock ∧ some k_ ≠ ((.slice Ao42 t345.length co42) : Value).ownBlock ∧ some k_ ≠ ((.slice Ao50 t325.length co50) : Value).ownBlock) (.slice Ao123 t360.length co123) t360) ∧ Aside0 (wc.heap[gb295]? = some (.cells #[.int .i64 a1_0, .int .i64 a1_1, (.slice A1_2 l1_2.length c1_2)] 44 (0, 0))) ∧ Aside0 (wc.heap[gb313]? = some (.cells #[.int .i64 t306, .int .i64 t307, (.slice Ao32 t308.length co32)] 31 (0, 0))) ∧ Aside0 (wc.heap[gb322]? = some (.cells #[.int .i64 t317, .int .i64 t318, (.slice Ao42 t345.length co42)] 31 (0, 0))) ∧ Aside0 (wc.heap[gb330]? = some (.cells #[.int .i64 t323, .int .i64 t324, (.slice Ao50 t325.length co50)] 31 (0, 0))) ∧ Aside0 (wc.heap[gb365]? = some (.cells #[.int .i64 t358, .int .i64 t359, (.slice Ao123 t360.length co123)] 31 (0, 0))) ∧ Aside0 (Below w.heap.size w wc))
             case first =>
              have H := HC105.out
              clear HC105
              replace H := Option.bind_eq_some_iff.mp H
              obtain ⟨t366, A1250, H⟩ := H
              replace H : (if t366 = true then (if t363 = t311 then (laws_FnExactDiffusePicture.j2 kj70 t347 (t364 != t312) t323 t324 t348) else (laws_FnExactDiffusePicture.j2 kj70 t347 true t323 t324 t348)) else (laws_FnExactDiffusePicture.j2 kj70 t347 true t323 t324 t348)) = some r := H
              have A125 := z0 A1250
              clear A1250
              by_cases c126 : t366 = true
              ·subst c126
               have H1 : (if t363 = t311 then (laws_FnExactDiffusePicture.j2 kj70 t347 (t364 != t312) t323 t324 t348) else (laws_FnExactDiffusePicture.j2 kj70 t347 true t323 t324 t348)) = some r := by rw [if_pos rfl] at H;first|exact H | (simp only [if_true] at H ⊢;exact H)
               clear H
               have H := H1
               clear H1
               by_cases c127 : t363 = t311
               ·rw [if_pos c127] at H
                have c127b0 : (t363 == t311) = true := beq_iff_eq.mpr c127
                have c127b1 : (t363 != t311) = false := bne_eq_false_iff_eq.mpr c127
                clear c127
                (first | rw [c127b0] | (simp only [i64_w, i32_w];rw [c127b0]) | skip)
                have H' := z0 H
                clear H
                have hnb128 := NB365_295.out
                have hnc128 := NB295_365.out
                have hnb129 := NB365_313.out
                have hnc129 := NB313_365.out
                have hnb130 := NB365_322.out
                have hnc130 := NB322_365.out
                have hnb131 := NB365_330.out
                have hnc131 := NB330_365.out
                have hcz132_0 : w120.cell? ⟨gb365, 0, none⟩ = some (.int .i64 0) := (x3 BK365.out 0).trans rfl
                have hcz132_1 : w120.cell? ⟨gb365, 1, none⟩ = some (.int .i64 0) := (x3 BK365.out 1).trans rfl
                have hcz132_2 : w120.cell? ⟨gb365, 2, none⟩ = some (.slice none 0 0) := (x3 BK365.out 2).trans rfl
                have hfz132_0 := x2 BK365.out 0
                have hfz132_1 := x2 BK365.out 1
                have hfz132_2 := x2 BK365.out 2
                have hnb133 := NB313_295.out
                have hnc133 := NB295_313.out
                have hnb134 := NB313_322.out
                have hnc134 := NB322_313.out
                have hnb135 := NB313_330.out
                have hnc135 := NB330_313.out
                have hcz136_0 : w120.cell? ⟨gb313, 0, none⟩ = some (.int .i64 t306) := (x3 BK313.out 0).trans rfl
                have hcz136_1 : w120.cell? ⟨gb313, 1, none⟩ = some (.int .i64 t307) := (x3 BK313.out 1).trans rfl
                have hcz136_2 : w120.cell? ⟨gb313, 2, none⟩ = some (.slice Ao32 t308.length co32) := (x3 BK313.out 2).trans rfl
                have hfz136_0 := x2 BK313.out 0
                have hfz136_1 := x2 BK313.out 1
                have hfz136_2 := x2 BK313.out 2
                go_wp2_with (first | ((with_reducible refine gate_callee (f := 30) rfl ?_);refine goesL_ (some 125) rfl rfl Try.func30 (by kernel_rfl) rfl #[.agg #[.int .i64 t358, .int .i64 t359, .slice Ao123 t360.length co123], .agg #[.int .i64 t306, .int .i64 t307, .slice Ao32 t308.length co32]] rfl (by (try simp only [List.map_toArray, List.map_cons, List.map_nil]);first | done | rfl) ?_;(with_reducible refine (laws_eqPicture.calls kj70 t358 t359 _ _ t360 t306 t307 _ _ t308 true _ ?side1 ?side2 ?side3 ?side4 A125.out).mono ?_);(case side1 => refine (x5 (e := 3) (base := w.heap.size) (ok := fun k_ => (some k_ ≠ (v356 : Value).ownBlock ∧ (some k_ ≠ (.slice Ao32 t308.length co32 : Value).ownBlock ∧ (some k_ ≠ (.slice Ao42 t345.length co42 : Value).ownBlock ∧ some k_ ≠ (.slice Ao50 t325.length co50 : Value).ownBlock)))) (n := t360.length) (c := co123) ?_).2.2;exact (by (with_reducible repeat (first|apply z9|apply y1));exact (x6 (x1 (p := ⟨gb365, 2, none⟩) (x1 (p := ⟨gb365, 1, none⟩) (x1 (p := ⟨gb365, 0, none⟩) (x7 HO362.out BK365.out (by decide)) (fun _ hk => hk.2) (.int .i64 t358)) (fun _ hk => hk.2) (.int .i64 t359)) (fun _ hk => hk.2) (.slice Ao123 t360.length co123)) (fun _ h_ => h_.1))));(case side2 => exact (x5 HO362.out).2.1);(case side3 => refine (x5 (e := 3) (base := w.heap.size) (ok := fun k_ => (some k_ ≠ (v356 : Value).ownBlock ∧ (some k_ ≠ (.slice Ao123 t360.length co123 : Value).ownBlock ∧ (some k_ ≠ (.slice Ao42 t345.length co42 : Value).ownBlock ∧ some k_ ≠ (.slice Ao50 t325.length co50 : Value).ownBlock)))) (n := t308.length) (c := co32) ?_).2.2;exact (by (with_reducible repeat (first|apply z9|apply y1));exact (x6 (x1 (p := ⟨gb365, 2, none⟩) (x1 (p := ⟨gb365, 1, none⟩) (x1 (p := ⟨gb365, 0, none⟩) (x7 Ha_.out BK365.out (by decide)) (fun _ hk => hk.2) (.int .i64 t358)) (fun _ hk => hk.2) (.int .i64 t359)) (fun _ hk => hk.2) (.slice Ao123 t360.length co123)) (fun _ h_ => h_.1))));(case side4 => exact (x5 Ha_.out).2.1);rintro e w137 ⟨rfl, hb⟩;refine ⟨_, rfl, ?_⟩;have n0_ := z0 (x4 (by (with_reducible repeat (first|apply z9|apply y1));exact (x6 (x1 (p := ⟨gb365, 2, none⟩) (x1 (p := ⟨gb365, 1, none⟩) (x1 (p := ⟨gb365, 0, none⟩) (x7 Ha_.out BK365.out (by decide)) (fun _ hk => hk.2) (.int .i64 t358)) (fun _ hk => hk.2) (.int .i64 t359)) (fun _ hk => hk.2) (.slice Ao123 t360.length co123)) (fun _ h_ => h_.1))) hb);have n1_ := z0 (x4 (by (with_reducible repeat (first|apply z9|apply y1));exact (x6 (x1 (p := ⟨gb365, 2, none⟩) (x1 (p := ⟨gb365, 1, none⟩) (x1 (p := ⟨gb365, 0, none⟩) (x7 Hb_.out BK365.out (by decide)) (fun _ hk => hk.2) (.int .i64 t358)) (fun _ hk => hk.2) (.int .i64 t359)) (fun _ hk => hk.2) (.slice Ao123 t360.length co123)) (fun _ h_ => h_.1))) hb);have n2_ := z0 (x4 (by (with_reducible repeat (first|apply z9|apply y1));exact (x6 (x1 (p := ⟨gb365, 2, none⟩) (x1 (p := ⟨gb365, 1, none⟩) (x1 (p := ⟨gb365, 0, none⟩) (x7 Hc_.out BK365.out (by decide)) (fun _ hk => hk.2) (.int .i64 t358)) (fun _ hk => hk.2) (.int .i64 t359)) (fun _ hk => hk.2) (.slice Ao123 t360.length co123)) (fun _ h_ => h_.1))) hb);have n3_ := z0 (x4 (by (with_reducible repeat (first|apply z9|apply y1));exact (x6 (x1 (p := ⟨gb365, 2, none⟩) (x1 (p := ⟨gb365, 1, none⟩) (x1 (p := ⟨gb365, 0, none⟩) (x7 HO352.out BK365.out (by decide)) (fun _ hk => hk.2) (.int .i64 t358)) (fun _ hk => hk.2) (.int .i64 t359)) (fun _ hk => hk.2) (.slice Ao123 t360.length co123)) (fun _ h_ => h_.1))) hb);have n4_ := z0 (x4 (by (with_reducible repeat (first|apply z9|apply y1));exact (x6 (x1 (p := ⟨gb365, 2, none⟩) (x1 (p := ⟨gb365, 1, none⟩) (x1 (p := ⟨gb365, 0, none⟩) (x7 HO357.out BK365.out (by decide)) (fun _ hk => hk.2) (.int .i64 t358)) (fun _ hk => hk.2) (.int .i64 t359)) (fun _ hk => hk.2) (.slice Ao123 t360.length co123)) (fun _ h_ => h_.1))) hb);have n5_ := z0 (x4 (by (with_reducible repeat (first|apply z9|apply y1));exact (x6 (x1 (p := ⟨gb365, 2, none⟩) (x1 (p := ⟨gb365, 1, none⟩) (x1 (p := ⟨gb365, 0, none⟩) (x7 HO362.out BK365.out (by decide)) (fun _ hk => hk.2) (.int .i64 t358)) (fun _ hk => hk.2) (.int .i64 t359)) (fun _ hk => hk.2) (.slice Ao123 t360.length co123)) (fun _ h_ => h_.1))) hb);have n6_ := z0 (y5 (g := gb295) (o := .cells #[.int .i64 a1_0, .int .i64 a1_1, .slice A1_2 l1_2.length c1_2] 44 (0, 0)) (by (with_reducible repeat (first|refine z1 ?_ _|refine z3 ?_));refine x8 ?_ NB295_365.out _;(with_reducible repeat (first|refine z1 ?_ _|refine z3 ?_));refine x8 ?_ NB295_365.out _;(with_reducible repeat (first|refine z1 ?_ _|refine z3 ?_));refine x8 ?_ NB295_365.out _;(with_reducible repeat (first|refine z1 ?_ _|refine z3 ?_));exact BK295.out) hb);have n7_ := z0 (y5 (g := gb313) (o := .cells #[.int .i64 t306, .int .i64 t307, .slice Ao32 t308.length co32] 31 (0, 0)) (by (with_reducible repeat (first|refine z1 ?_ _|refine z3 ?_));refine x8 ?_ NB313_365.out _;(with_reducible repeat (first|refine z1 ?_ _|refine z3 ?_));refine x8 ?_ NB313_365.out _;(with_reducible repeat (first|refine z1 ?_ _|refine z3 ?_));refine x8 ?_ NB313_365.out _;(with_reducible repeat (first|refine z1 ?_ _|refine z3 ?_));exact BK313.out) hb);have n8_ := z0 (y5 (g := gb322) (o := .cells #[.int .i64 t317, .int .i64 t318, .slice Ao42 t345.length co42] 31 (0, 0)) (by (with_reducible repeat (first|refine z1 ?_ _|refine z3 ?_));refine x8 ?_ NB322_365.out _;(with_reducible repeat (first|refine z1 ?_ _|refine z3 ?_));refine x8 ?_ NB322_365.out _;(with_reducible repeat (first|refine z1 ?_ _|refine z3 ?_));refine x8 ?_ NB322_365.out _;(with_reducible repeat (first|refine z1 ?_ _|refine z3 ?_));exact BK322.out) hb);have n9_ := z0 (y5 (g := gb330) (o := .cells #[.int .i64 t323, .int .i64 t324, .slice Ao50 t325.length co50] 31 (0, 0)) (by (with_reducible repeat (first|refine z1 ?_ _|refine z3 ?_));refine x8 ?_ NB330_365.out _;(with_reducible repeat (first|refine z1 ?_ _|refine z3 ?_));refine x8 ?_ NB330_365.out _;(with_reducible repeat (first|refine z1 ?_ _|refine z3 ?_));refine x8 ?_ NB330_365.out _;(with_reducible repeat (first|refine z1 ?_ _|refine z3 ?_));exact BK330.out) hb);have n10_ := z0 (y5 (g := gb365) (o := .cells #[.int .i64 t358, .int .i64 t359, .slice Ao123 t360.length co123] 31 (0, 0)) (by (with_reducible repeat (first|refine z1 ?_ _|refine z3 ?_));refine blk_put (cs := #[.int .i64 t358, .int .i64 t359, .slice none 0 0]) ?_ 2 _ rfl;(with_reducible repeat (first|refine z1 ?_ _|refine z3 ?_));refine blk_put (cs := #[.int .i64 t358, .int .i64 0, .slice none 0 0]) ?_ 1 _ rfl;(with_reducible repeat (first|refine z1 ?_ _|refine z3 ?_));refine blk_put (cs := #[.int .i64 0, .int .i64 0, .slice none 0 0]) ?_ 0 _ rfl;(with_reducible repeat (first|refine z1 ?_ _|refine z3 ?_));exact BK365.out) hb);have n11_ := z0 (y6 (by repeat (first | (with_reducible first|exact HB.out|apply z5|apply z6|refine z7 ?_ GE295.out|refine z7 ?_ GE313.out|refine z7 ?_ GE322.out|refine z7 ?_ GE330.out|refine z7 ?_ GE365.out)|exact HB.out)) hb);clear Ha_;clear Hb_;clear Hc_;clear HO352;clear HO357;clear HO362;clear BK295;clear BK313;clear BK322;clear BK330;clear BK365;clear HB;have Ha_ := n0_;have Hb_ := n1_;have Hc_ := n2_;have HO352 := n3_;have HO357 := n4_;have HO362 := n5_;have BK295 := n6_;have BK313 := n7_;have BK322 := n8_;have BK330 := n9_;have BK365 := n10_;have HB := n11_;clear n0_ n1_ n2_ n3_ n4_ n5_ n6_ n7_ n8_ n9_ n10_ n11_;(try clear hb)))
                go_meet
                case rel => exact ⟨_, ((t364 != t312)), (by first | rfl | (simp;done) | (simp [*];done)), H', ⟨by have := HJ17.out;have := HJ70.out;first | omega|exact Nat.le_refl _⟩, ⟨by (try simp only [hl323002_70]);(with_reducible repeat (first|apply z9|apply y1));exact x6 Ha_.out (fun _ hk => ⟨hk.2.2.1, ⟨hk.2.2.2, hk.2.1⟩⟩)⟩, ⟨by (try simp only [hl323002_70]);(with_reducible repeat (first|apply z9|apply y1));exact x6 Hb_.out (fun _ hk => ⟨hk.2.2.1, ⟨hk.2.2.2, hk.2.1⟩⟩)⟩, ⟨by (try simp only [hl323002_70]);(with_reducible repeat (first|apply z9|apply y1));exact x6 Hc_.out (fun _ hk => ⟨hk.2.2.1, ⟨hk.2.2.2, hk.2.1⟩⟩)⟩, ⟨by (try simp only [hl323002_70]);(with_reducible repeat (first|apply z9|apply y1));exact x6 HO362.out (fun _ hk => ⟨hk.2.1, ⟨hk.2.2.1, hk.2.2.2⟩⟩)⟩, ⟨by (try simp only [hl323002_70]);(with_reducible repeat (first|refine z1 ?_ _|refine z3 ?_));exact BK295.out⟩, ⟨by (try simp only [hl323002_70]);(with_reducible repeat (first|refine z1 ?_ _|refine z3 ?_));exact BK313.out⟩, ⟨by (try simp only [hl323002_70]);(with_reducible repeat (first|refine z1 ?_ _|refine z3 ?_));exact BK322.out⟩, ⟨by (try simp only [hl323002_70]);(with_reducible repeat (first|refine z1 ?_ _|refine z3 ?_));exact BK330.out⟩, ⟨by (try simp only [hl323002_70]);(with_reducible repeat (first|refine z1 ?_ _|refine z3 ?_));exact BK365.out⟩, ⟨by repeat (first | (with_reducible first|exact HB.out|apply z5|apply z6|refine z7 ?_ GE295.out|refine z7 ?_ GE313.out|refine z7 ?_ GE322.out|refine z7 ?_ GE330.out|refine z7 ?_ GE365.out)|exact HB.out)⟩⟩
               ·rw [if_neg c127] at H
                have c127b0 : (t363 == t311) = false := beq_eq_false_iff_ne.mpr c127
                have c127b1 : (t363 != t311) = true := bne_iff_ne.mpr c127
                (first | rw [c127b0] | (simp only [i64_w, i32_w];rw [c127b0]) | skip)
                exact absurd H (by rw [HRT_.out];generalize kj70 = k_;cases k_ with | zero => (rw [laws_FnExactDiffusePicture.j2];simp) | succ k_ => (rw [laws_FnExactDiffusePicture.j2, if_pos rfl];simp))
              ·replace c126 := Bool.eq_false_iff.mpr c126
               subst c126
               have H1 : (laws_FnExactDiffusePicture.j2 kj70 t347 true t323 t324 t348) = some r := by rw [if_neg (show ¬ (false = true) by decide)] at H;first|exact H | (simp only [if_true] at H ⊢;exact H)
               clear H
               have H := H1
               clear H1
               exact absurd H (by rw [HRT_.out];generalize kj70 = k_;cases k_ with | zero => (rw [laws_FnExactDiffusePicture.j2];simp) | succ k_ => (rw [laws_FnExactDiffusePicture.j2, if_pos rfl];simp))
             case rest =>
              clear HC105
              try clear c1
              try clear c2
              try clear p2
              try clear c3
              try clear c12
              try clear c13
              try clear c25
              try clear c26
              try clear c30
              try clear c126
              try clear c127
              try clear c127b0
              try clear c127b1
              try clear c128
              try clear c129
              try clear c130
              try clear c131
              try clear c133
              try clear c134
              try clear c135
              try clear hcz132_0
              try clear hcz132_1
              try clear hcz132_2
              try clear hcz136_0
              try clear hcz136_1
              try clear hcz136_2
              try clear hfz132_0
              try clear hfz132_1
              try clear hfz132_2
              try clear hfz136_0
              try clear hfz136_1
              try clear hfz136_2
              obtain ⟨kq, x136_104, rfl, HA, HJ104, Ha_, Hb_, Hc_, Hd_, BK295, BK313, BK322, BK330, BK365, HB⟩ := hcut
              have hl331002_104 := (x5 Hc_.out).1
              rw [hl331002_104] at Hc_
              (try simp only [hl331002_104])
              (try simp only [hl331002_104] at BK295)
              (try simp only [hl331002_104] at BK313)
              (try simp only [hl331002_104] at BK322)
              (try simp only [hl331002_104] at BK330)
              (try simp only [hl331002_104] at BK365)
              (try simp only [hl331002_104] at Ha_)
              (try simp only [hl331002_104] at Hb_)
              (try simp only [hl331002_104] at Hd_)
              cases kq with
              | zero => exact absurd HA.out (by simp [laws_FnExactDiffusePicture.j2])
              | succ kj104 =>
               have H := HA.out
               clear HA
               simp only [laws_FnExactDiffusePicture.j2] at H
               by_cases c138 : x136_104 = true
               ·subst c138
                have H1 : (some false) = some r := by rw [if_pos rfl] at H;first|exact H | (simp only [if_true] at H ⊢;exact H)
                clear H
                have H := H1
                clear H1
                exact absurd (Option.some.inj H) (by rw [HRT_.out];decide)
               ·replace c138 := Bool.eq_false_iff.mpr c138
                subst c138
                have H1 : ((laws_heldPicture.f kj104 t323 t324 t348 1).bind fun t367 => (if t367 < 0 then (some false) else (if t367 = t347 then (some true) else (some false)))) = some r := by rw [if_neg (show ¬ (false = true) by decide)] at H;first|exact H | (simp only [if_true] at H ⊢;exact H)
                clear H
                have H := H1
                clear H1
                replace H := Option.bind_eq_some_iff.mp H
                obtain ⟨t367, A1390, H⟩ := H
                replace H : (if t367 < 0 then (some false) else (if t367 = t347 then (some true) else (some false))) = some r := H
                have A139 := z0 A1390
                clear A1390
                by_cases c140 : t367 < 0
                ·rw [if_pos c140] at H
                 have c140b0 : decide (t367 < 0) = true := decide_eq_true c140
                 clear c140
                 exact absurd (Option.some.inj H) (by rw [HRT_.out];decide)
                ·rw [if_neg c140] at H
                 have c140b0 : decide (t367 < 0) = false := decide_eq_false c140
                 clear c140
                 by_cases c141 : t367 = t347
                 ·rw [if_pos c141] at H
                  have c141b0 : (t367 == t347) = true := beq_iff_eq.mpr c141
                  have c141b1 : (t367 != t347) = false := bne_eq_false_iff_eq.mpr c141
                  clear c141
                  obtain rfl := Option.some.inj H
                  have hnb142 := NB330_295.out
                  have hnc142 := NB295_330.out
                  have hnb143 := NB330_313.out
                  have hnc143 := NB313_330.out
                  have hnb144 := NB330_322.out
                  have hnc144 := NB322_330.out
                  have hnb145 := NB330_365.out
                  have hnc145 := NB365_330.out
                  have hcz146_0 : wc.cell? ⟨gb330, 0, none⟩ = some (.int .i64 t323) := (x3 BK330.out 0).trans rfl
                  have hcz146_1 : wc.cell? ⟨gb330, 1, none⟩ = some (.int .i64 t324) := (x3 BK330.out 1).trans rfl
                  have hcz146_2 : wc.cell? ⟨gb330, 2, none⟩ = some (.slice Ao50 t348.length co50) := (x3 BK330.out 2).trans rfl
                  have hfz146_0 := x2 BK330.out 0
                  have hfz146_1 := x2 BK330.out 1
                  have hfz146_2 := x2 BK330.out 2
                  go_wp2_with (first | ((with_reducible refine gate_callee (f := 36) rfl ?_);refine goesL_ (some 139) rfl rfl Try.func36 (by kernel_rfl) rfl #[.agg #[.int .i64 t323, .int .i64 t324, .slice Ao50 t348.length co50], .int .i64 1] rfl (by (try simp only [List.map_toArray, List.map_cons, List.map_nil]);first | done | rfl) ?_;(with_reducible refine (laws_heldPicture.calls kj104 t323 t324 _ _ t348 1 t367 _ ?side1 ?side2 A139.out).mono ?_);(case side1 => repeat (first|exact (x5 Hc_.out).2.2 | (with_reducible refine y3 ?_ _) | (with_reducible refine y4 ?_)));(case side2 => exact (x5 Hc_.out).2.1);rintro e w147 ⟨rfl, hb⟩;refine ⟨_, rfl, ?_⟩;have n0_ := z0 (x4 (by (with_reducible repeat (first|apply z9|apply y1));exact Ha_.out) hb);have n1_ := z0 (x4 (by (with_reducible repeat (first|apply z9|apply y1));exact Hb_.out) hb);have n2_ := z0 (x4 (by (with_reducible repeat (first|apply z9|apply y1));exact Hc_.out) hb);have n3_ := z0 (x4 (by (with_reducible repeat (first|apply z9|apply y1));exact Hd_.out) hb);have n4_ := z0 (y5 (g := gb295) (o := .cells #[.int .i64 a1_0, .int .i64 a1_1, .slice A1_2 l1_2.length c1_2] 44 (0, 0)) (by (with_reducible repeat (first|refine z1 ?_ _|refine z3 ?_));exact BK295.out) hb);have n5_ := z0 (y5 (g := gb313) (o := .cells #[.int .i64 t306, .int .i64 t307, .slice Ao32 t308.length co32] 31 (0, 0)) (by (with_reducible repeat (first|refine z1 ?_ _|refine z3 ?_));exact BK313.out) hb);have n6_ := z0 (y5 (g := gb322) (o := .cells #[.int .i64 t317, .int .i64 t318, .slice Ao42 t345.length co42] 31 (0, 0)) (by (with_reducible repeat (first|refine z1 ?_ _|refine z3 ?_));exact BK322.out) hb);have n7_ := z0 (y5 (g := gb330) (o := .cells #[.int .i64 t323, .int .i64 t324, .slice Ao50 t348.length co50] 31 (0, 0)) (by (with_reducible repeat (first|refine z1 ?_ _|refine z3 ?_));exact BK330.out) hb);have n8_ := z0 (y5 (g := gb365) (o := .cells #[.int .i64 t358, .int .i64 t359, .slice Ao123 t360.length co123] 31 (0, 0)) (by (with_reducible repeat (first|refine z1 ?_ _|refine z3 ?_));exact BK365.out) hb);have n9_ := z0 (y6 (by repeat (first | (with_reducible first|exact HB.out|apply z5|apply z6|refine z7 ?_ GE295.out|refine z7 ?_ GE313.out|refine z7 ?_ GE322.out|refine z7 ?_ GE330.out|refine z7 ?_ GE365.out)|exact HB.out)) hb);clear Ha_;clear Hb_;clear Hc_;clear Hd_;clear BK295;clear BK313;clear BK322;clear BK330;clear BK365;clear HB;have Ha_ := n0_;have Hb_ := n1_;have Hc_ := n2_;have Hd_ := n3_;have BK295 := n4_;have BK313 := n5_;have BK322 := n6_;have BK330 := n7_;have BK365 := n8_;have HB := n9_;clear n0_ n1_ n2_ n3_ n4_ n5_ n6_ n7_ n8_ n9_;(try clear hb)))
                  go_ret
                  exact ⟨by first | rfl | (simp [errW_none, errW_some] <;> rfl) | (simp [*, errW_none, errW_some] <;> rfl), by repeat (first | (with_reducible first|exact HB.out|apply z5|apply z6|refine z7 ?_ GE295.out|refine z7 ?_ GE313.out|refine z7 ?_ GE322.out|refine z7 ?_ GE330.out|refine z7 ?_ GE365.out)|exact HB.out)⟩
                 ·rw [if_neg c141] at H
                  have c141b0 : (t367 == t347) = false := beq_eq_false_iff_ne.mpr c141
                  have c141b1 : (t367 != t347) = true := bne_iff_ne.mpr c141
                  exact absurd (Option.some.inj H) (by rw [HRT_.out];decide)
            ·rw [if_neg c101] at H
             have c101b0 : (t349 == t347) = false := beq_eq_false_iff_ne.mpr c101
             have c101b1 : (t349 != t347) = true := bne_iff_ne.mpr c101
             exact absurd (Option.some.inj H) (by rw [HRT_.out];decide)
       ·replace c68 := Bool.eq_false_iff.mpr c68
        subst c68
        have H1 : (some false) = some r := by rw [if_neg (show ¬ (false = true) by decide)] at H;first|exact H | (simp only [if_true] at H ⊢;exact H)
        clear H
        have H := H1
        clear H1
        exact absurd (Option.some.inj H) (by rw [HRT_.out];decide)
      ·replace c65 := Bool.eq_false_iff.mpr c65
       subst c65
       have H1 : (some false) = some r := by rw [if_neg (show ¬ (false = true) by decide)] at H;first|exact H | (simp only [if_true] at H ⊢;exact H)
       clear H
       have H := H1
       clear H1
       exact absurd (Option.some.inj H) (by rw [HRT_.out];decide)

end Go.Proofs.Ytnohdgbfgdnpfaa.PFnExactDiffusePicture
