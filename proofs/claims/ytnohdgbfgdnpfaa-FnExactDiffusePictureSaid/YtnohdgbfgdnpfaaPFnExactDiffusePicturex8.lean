/- Machine side of laws FnExactDiffusePicture: written for this claim by the kit's print program under this session's wip/tools/mp_setup.py (with contracts of the session's own, wip/ext). -/
import Derived.Test.YtnohdgbfgdnpfaaPFnExactDiffusePicturex0
import Derived.Test.YtnohdgbfgdnpfaaPFnExactDiffusePicturex6
import Derived.Test.YtnohdgbfgdnpfaaPFnExactDiffusePicturex7
namespace Go.Proofs.Ytnohdgbfgdnpfaa.PFnExactDiffusePicture
open Go.RowKit Go.Proofs.YtnohdgbfgdnpfaaW.PrintWords Go.Proofs.YtnohdgbfgdnpfaaW.PrintLast Go.Proofs.YtnohdgbfgdnpfaaW.PrintMore
attribute [local go_sem] max2_int min2_int max_two min_two max_three min_three max_four min_four   -- for this text's walks alone
set_option linter.unusedVariables false
set_option linter.unusedSimpArgs false
-- squeezed: words under short names
set_option linter.defProp false in
def z0i := @Aside0.mk
set_option linter.defProp false in
def z1i := @blk_drewN
set_option linter.defProp false in
def z2i := @blk_alloc
set_option linter.defProp false in
def z3i := @blk_drew
set_option linter.defProp false in
def z4i := @below_alloc
set_option linter.defProp false in
def z5i := @pw_below_drewN
set_option linter.defProp false in
def z6i := @below_drew1
set_option linter.defProp false in
def z7i := @below_set
set_option linter.defProp false in
def z8i := @Kd.R_alloc
set_option linter.defProp false in
def z9i := @Kd.R_drewN
set_option linter.defProp false in
def y1i := @Kd.R_drew
set_option linter.defProp false in
def x2i := @blk_frozen
set_option linter.defProp false in
def x3i := @blk_cell
set_option linter.defProp false in
def x6i := @Kd.R_mono
def bsi_ (n m : Nat) : Array Bool := ((List.range n).map fun i => m.testBit i).toArray
theorem s1i_ {α : Type} (l : List α) (i : Nat) (a : α) : l.toArray.setIfInBounds i a = (l.set i a).toArray := List.setIfInBounds_toArray l i a
theorem s2i_ {α : Type} (a b : α) (l : List α) : (a :: l).set 0 b = b :: l := rfl
theorem s3i_ {α : Type} (a b : α) (n : Nat) (l : List α) : (a :: l).set (n + 1) b = a :: l.set n b := rfl

/-! ### spec_l4Run: function 55 -/
mutual
def spec_l4Run.l0 : Nat → List (S60) → Bool → List Int → List Int → List Int → Int → Int → Int → Int → Int → Int → List Int → Option (List Int × List Int × Int)
 | 0, _, _, _, _, _, _, _, _, _, _, _, _ => none
 | k + 1, x0, x2, x9, x10, x11, x12, x13, x37, x38, x256000, x256001, x256002 => if x38 < x37 then (if x256000 = 0 then (none) else (if x2 = true then (spec_l4Run.j1 k x0 x2 x9 x10 x11 x12 x13 (wrap64 (Int.tdiv x38 x256000)) (Int.tmod x38 x256000) 1 x37 x38 ((Int.tmod (wrap64 (Int.tdiv x38 x256000)) 2) == 1) x256000 x256001 x256002) else (spec_l4Run.j1 k x0 x2 x9 x10 x11 x12 x13 (wrap64 (Int.tdiv x38 x256000)) (Int.tmod x38 x256000) 1 x37 x38 false x256000 x256001 x256002))) else (some (x10, x11, x13))
def spec_l4Run.j1 : Nat → List (S60) → Bool → List Int → List Int → List Int → Int → Int → Int → Int → Int → Int → Int → Bool → Int → Int → List Int → Option (List Int × List Int × Int)
 | 0, _, _, _, _, _, _, _, _, _, _, _, _, _, _, _, _ => none
 | k + 1, x0, x2, x9, x10, x11, x12, x13, x15, x16, x17, x37, x38, x54, x256000, x256001, x256002 => if x54 = true then (spec_l4Run.j2 k x0 x2 x9 x10 x11 x12 x13 x15 (wrap64 ((wrap64 (x256000 - 1)) - x16)) (-1) x37 x38 x256000 x256001 x256002) else (spec_l4Run.j2 k x0 x2 x9 x10 x11 x12 x13 x15 x16 x17 x37 x38 x256000 x256001 x256002)
def spec_l4Run.j2 : Nat → List (S60) → Bool → List Int → List Int → List Int → Int → Int → Int → Int → Int → Int → Int → Int → Int → List Int → Option (List Int × List Int × Int)
 | 0, _, _, _, _, _, _, _, _, _, _, _, _, _, _, _ => none
 | k + 1, x0, x2, x9, x10, x11, x12, x13, x15, x16, x17, x37, x38, x256000, x256001, x256002 => if 0 ≤ (wrap64 ((wrap64 (x15 * x256000)) + x16)) then (if (wrap64 ((wrap64 (x15 * x256000)) + x16)) < (x9.length : Int) then (if (rd x9 (wrap64 ((wrap64 (x15 * x256000)) + x16))) ≥ 128 then (if (wrap64 ((wrap64 (x15 * x256000)) + x16)) < (x10.length : Int) then (spec_l4Run.j3 k x0 x2 x9 (x10.set ((wrap64 ((wrap64 (x15 * x256000)) + x16)) : Int).toNat 1) x11 x12 x13 x15 x16 x17 (wrap64 ((wrap64 (x15 * x256000)) + x16)) (wrap64 ((rd x9 (wrap64 ((wrap64 (x15 * x256000)) + x16))) - 255)) x37 x38 x256000 x256001 x256002) else (none)) else (spec_l4Run.j3 k x0 x2 x9 x10 x11 x12 x13 x15 x16 x17 (wrap64 ((wrap64 (x15 * x256000)) + x16)) (rd x9 (wrap64 ((wrap64 (x15 * x256000)) + x16))) x37 x38 x256000 x256001 x256002)) else (none)) else (none)
def spec_l4Run.j3 : Nat → List (S60) → Bool → List Int → List Int → List Int → Int → Int → Int → Int → Int → Int → Int → Int → Int → Int → Int → List Int → Option (List Int × List Int × Int)
 | 0, _, _, _, _, _, _, _, _, _, _, _, _, _, _, _, _, _ => none
 | k + 1, x0, x2, x9, x10, x11, x12, x13, x15, x16, x17, x18, x19, x37, x38, x256000, x256001, x256002 => if 0 ≤ x18 then (if x18 < (x11.length : Int) then ((spec_l4Shares.f k x0 x12 x19).bind fun t272 => (spec_l4Run.l1 k x0 x2 x9 x10 (x11.set (x18 : Int).toNat x19) x12 x13 x15 x16 x17 x37 x38 t272 (t272.length : Int) 0 x256000 x256001 x256002)) else (none)) else (none)
def spec_l4Run.l1 : Nat → List (S60) → Bool → List Int → List Int → List Int → Int → Int → Int → Int → Int → Int → Int → List Int → Int → Int → Int → Int → List Int → Option (List Int × List Int × Int)
 | 0, _, _, _, _, _, _, _, _, _, _, _, _, _, _, _, _, _, _ => none
 | k + 1, x0, x2, x9, x10, x11, x12, x13, x15, x16, x17, x37, x38, x84, x85, x86, x256000, x256001, x256002 => if x86 < x85 then (if 0 ≤ x86 then (if x86 < (x84.length : Int) then (if x86 < (x0.length : Int) then ((spec_l1In.f (wrap64 (x16 + (wrap64 (x17 * ((rd_T60 x0 x86).f0))))) 0 (wrap64 (x256000 - 1))).bind fun t278 => (if t278 = true then (if (wrap64 (x15 + ((rd_T60 x0 x86).f1))) < x256001 then (if 0 ≤ (wrap64 ((wrap64 ((wrap64 (x15 + ((rd_T60 x0 x86).f1))) * x256000)) + (wrap64 (x16 + (wrap64 (x17 * ((rd_T60 x0 x86).f0))))))) then (if (wrap64 ((wrap64 ((wrap64 (x15 + ((rd_T60 x0 x86).f1))) * x256000)) + (wrap64 (x16 + (wrap64 (x17 * ((rd_T60 x0 x86).f0))))))) < (x9.length : Int) then (spec_l4Run.l1 k x0 x2 (x9.set ((wrap64 ((wrap64 ((wrap64 (x15 + ((rd_T60 x0 x86).f1))) * x256000)) + (wrap64 (x16 + (wrap64 (x17 * ((rd_T60 x0 x86).f0))))))) : Int).toNat (wrap64 ((rd x9 (wrap64 ((wrap64 ((wrap64 (x15 + ((rd_T60 x0 x86).f1))) * x256000)) + (wrap64 (x16 + (wrap64 (x17 * ((rd_T60 x0 x86).f0)))))))) + (rd x84 x86)))) x10 x11 x12 x13 x15 x16 x17 x37 x38 x84 x85 (wrap64 (x86 + 1)) x256000 x256001 x256002) else (none)) else (none)) else (spec_l4Run.l1 k x0 x2 x9 x10 x11 x12 (wrap64 (x13 + (rd x84 x86))) x15 x16 x17 x37 x38 x84 x85 (wrap64 (x86 + 1)) x256000 x256001 x256002)) else (spec_l4Run.l1 k x0 x2 x9 x10 x11 x12 (wrap64 (x13 + (rd x84 x86))) x15 x16 x17 x37 x38 x84 x85 (wrap64 (x86 + 1)) x256000 x256001 x256002))) else (none)) else (none)) else (none)) else (spec_l4Run.l0 k x0 x2 x9 x10 x11 x12 x13 x37 (wrap64 (x38 + 1)) x256000 x256001 x256002)
end
def spec_l4Run.f (k : Nat) (l0 : List (S60)) (a1_0 : Int) (a1_1 : Int) (l1_2 : List Int) (a2 : Bool) : Option (List Int × List Int × Int) := (some (([] : List Int) : List Int)).bind fun y256 => (if y256.length + l1_2.length < 17592186044416 then ((some (y256 ++ l1_2 : List Int)).bind fun y259 => (if 0 ≤ (y259.length : Int) then (if ((y259.length : Int) : Int).toNat ≤ 35184372088832 then ((spec_WeightOf.f k l0).bind fun t268 => (spec_l4Run.l0 k l0 a2 y259 (List.replicate ((y259.length : Int) : Int).toNat 0) (List.replicate ((y259.length : Int) : Int).toNat 0) t268 0 (y259.length : Int) 0 a1_0 a1_1 l1_2)) else (none)) else (none))) else (none))
def spec_l4Run.T27 : Bool × List (List Nat × List Nat) := (true, [([], []), ([], []), ([], []), ([2], [2]), ([1, 3], [1, 3]), ([], []), ([4, 5], [4, 5]), ([], []), ([], []), ([], []), ([9], [9]), ([8, 10], [8, 10]), ([], []), ([11, 12], [11, 12]), ([7, 13], [7, 13]), ([14], [14]), ([], []), ([15, 16], [15, 16]), ([0, 6, 0, 1, 2, 3, 4, 5, 6, 7, 8, 9, 10, 11, 12, 13, 14, 15, 16, 17], [0, 6]), ([18, 17, 0, 1, 2, 3, 4, 5, 6, 7, 8, 9, 10, 11, 12, 13, 14, 15, 16, 17], [17, 18])])
def spec_l4Run.B27 : List Nat := [0, 0, 0, 4, 14, 0, 62, 0, 0, 0, 512, 1792, 0, 7936, 16256, 32640, 0, 130944, 262143, 524287]
theorem spec_l4Run.tab27 : rtab .any (opsOf Try.f55 27) = spec_l4Run.T27 := by kernel_rfl
theorem spec_l4Run.bits27 : waitsOk spec_l4Run.T27.2 spec_l4Run.B27 = true := by kernel_rfl
set_option maxHeartbeats 8000000 in
set_option maxRecDepth 100000 in
theorem spec_l4Run.calls (k : Nat) (A0 : Option Addr) (c0 : Nat) (l0 : List (S60)) (a1_0 : Int) (a1_1 : Int) (A1_2 : Option Addr) (c1_2 : Nat) (l1_2 : List Int) (a2 : Bool) (r1 : List Int) (r2 : List Int) (r3 : Int) (w : World) (hr0 : Kd.C k60 w A0 l0.length l0) (hc0 : l0.length ≤ c0) (hr1_2 : Kd.C (Kd.int .i64) w A1_2 l1_2.length l1_2) (hc1_2 : l1_2.length ≤ c1_2) (h : spec_l4Run.f k l0 a1_0 a1_1 l1_2 a2 = some (r1, r2, r3)) :
  Calls Try.prog 55 #[.slice A0 l0.length c0, .agg #[.int .i64 a1_0, .int .i64 a1_1, .slice A1_2 l1_2.length c1_2], .bool a2] w fun e w' => ∃ v0_ v1_ : Value, e = .returned (.tuple #[v0_, v1_, .int .i64 r3]) ∧ Kd.R (Kd.int .i64) 3 w' w.heap.size (fun k_ => some k_ ≠ (v1_ : Value).ownBlock) v0_ r1 ∧ Kd.R (Kd.int .i64) 3 w' w.heap.size (fun k_ => some k_ ≠ (v0_ : Value).ownBlock) v1_ r2 ∧ Below w.heap.size w w' := by
 have hu31 := Try.underlying31
 have HR0 := z0i hr0
 have HC0 := z0i hc0
 clear hr0 hc0
 have HR1_2 := z0i hr1_2
 have HC1_2 := z0i hc1_2
 clear hr1_2 hc1_2
 have HB := z0i (Below.refl w.heap.size w)
 have H : ((some (([] : List Int) : List Int)).bind fun y256 => (if y256.length + l1_2.length < 17592186044416 then ((some (y256 ++ l1_2 : List Int)).bind fun y259 => (if 0 ≤ (y259.length : Int) then (if ((y259.length : Int) : Int).toNat ≤ 35184372088832 then ((spec_WeightOf.f k l0).bind fun t268 => (spec_l4Run.l0 k l0 a2 y259 (List.replicate ((y259.length : Int) : Int).toNat 0) (List.replicate ((y259.length : Int) : Int).toNat 0) t268 0 (y259.length : Int) 0 a1_0 a1_1 l1_2)) else (none)) else (none))) else (none))) = some (r1, r2, r3) := h
 clear h
 obtain ⟨y256, hy256⟩ : ∃ y_ : List Int, y_ = (([] : List Int)) := ⟨_, rfl⟩
 replace H : (if y256.length + l1_2.length < 17592186044416 then ((some (y256 ++ l1_2 : List Int)).bind fun y259 => (if 0 ≤ (y259.length : Int) then (if ((y259.length : Int) : Int).toNat ≤ 35184372088832 then ((spec_WeightOf.f k l0).bind fun t268 => (spec_l4Run.l0 k l0 a2 y259 (List.replicate ((y259.length : Int) : Int).toNat 0) (List.replicate ((y259.length : Int) : Int).toNat 0) t268 0 (y259.length : Int) 0 a1_0 a1_1 l1_2)) else (none)) else (none))) else (none)) = some (r1, r2, r3) := by first | (rw [hy256]; with_reducible exact H) | (have H2_ := (Option.bind_some _ _).symm.trans H; rw [hy256]; with_reducible exact H2_) | (have H2_ := (Option.bind_some _ _).symm.trans H; with_reducible exact H2_) | with_reducible exact H | (rw [hy256]; exact H) | exact H
 have Ny256 := z0i hy256
 clear hy256
 by_cases c4 : y256.length + l1_2.length < 17592186044416
 ·rw [if_pos c4] at H
  have LMc4 := z0i c4
  clear c4
  obtain ⟨y259, hy259⟩ : ∃ y_ : List Int, y_ = (y256 ++ l1_2) := ⟨_, rfl⟩
  replace H : (if 0 ≤ (y259.length : Int) then (if ((y259.length : Int) : Int).toNat ≤ 35184372088832 then ((spec_WeightOf.f k l0).bind fun t268 => (spec_l4Run.l0 k l0 a2 y259 (List.replicate ((y259.length : Int) : Int).toNat 0) (List.replicate ((y259.length : Int) : Int).toNat 0) t268 0 (y259.length : Int) 0 a1_0 a1_1 l1_2)) else (none)) else (none)) = some (r1, r2, r3) := by first | (rw [hy259]; with_reducible exact H) | (have H2_ := (Option.bind_some _ _).symm.trans H; rw [hy259]; with_reducible exact H2_) | (have H2_ := (Option.bind_some _ _).symm.trans H; with_reducible exact H2_) | with_reducible exact H | (rw [hy259]; exact H) | exact H
  have Ny259 := z0i hy259
  clear hy259
  by_cases c5 : 0 ≤ (y259.length : Int)
  ·rw [if_pos c5] at H
   have c5b0 := eq_true c5
   have c5b1 : decide (0 ≤ (y259.length : Int)) = true := decide_eq_true c5
   clear c5
   by_cases c6 : ((y259.length : Int) : Int).toNat ≤ 35184372088832
   ·rw [if_pos c6] at H
    have c6b0 := eq_true c6
    have c6b1 : decide (((y259.length : Int) : Int).toNat ≤ 35184372088832) = true := decide_eq_true c6
    clear c6
    obtain ⟨y262, hy262⟩ : ∃ y_ : List Int, y_ = (List.replicate ((y259.length : Int) : Int).toNat 0) := ⟨_, rfl⟩
    replace H : ((spec_WeightOf.f k l0).bind fun t268 => (spec_l4Run.l0 k l0 a2 y259 y262 (List.replicate ((y259.length : Int) : Int).toNat 0) t268 0 (y259.length : Int) 0 a1_0 a1_1 l1_2)) = some (r1, r2, r3) := by first | (rw [hy262]; with_reducible exact H) | (have H2_ := (Option.bind_some _ _).symm.trans H; rw [hy262]; with_reducible exact H2_) | (have H2_ := (Option.bind_some _ _).symm.trans H; with_reducible exact H2_) | with_reducible exact H | (rw [hy262]; exact H) | exact H
    have Ny262 := z0i hy262
    clear hy262
    obtain ⟨y265, hy265⟩ : ∃ y_ : List Int, y_ = (List.replicate ((y259.length : Int) : Int).toNat 0) := ⟨_, rfl⟩
    replace H : ((spec_WeightOf.f k l0).bind fun t268 => (spec_l4Run.l0 k l0 a2 y259 y262 y265 t268 0 (y259.length : Int) 0 a1_0 a1_1 l1_2)) = some (r1, r2, r3) := by first | (rw [hy265]; with_reducible exact H) | (have H2_ := (Option.bind_some _ _).symm.trans H; rw [hy265]; with_reducible exact H2_) | (have H2_ := (Option.bind_some _ _).symm.trans H; with_reducible exact H2_) | with_reducible exact H | (rw [hy265]; exact H) | exact H
    have Ny265 := z0i hy265
    clear hy265
    replace H := Option.bind_eq_some_iff.mp H
    obtain ⟨t268, A70, H⟩ := H
    replace H : (spec_l4Run.l0 k l0 a2 y259 y262 y265 t268 0 (y259.length : Int) 0 a1_0 a1_1 l1_2) = some (r1, r2, r3) := H
    have A7 := z0i A70
    clear A70
    have H' := z0i H
    clear H
    go_enter Try.func55, Try.ntmps55
    go_wp2_with (first | ((with_reducible refine gate_dst (N := 4) rfl ?_); refine box_event ?hg (N := 4) ?hd (cs := #[.int .i64 a1_0, .int .i64 a1_1, .slice A1_2 l1_2.length c1_2]) (t := 31) ?hr ?_; (case hd => rfl); (case hg => rfl); (case hr => first | (go_simp; done) | (go_simp; rfl)); intro gb255 hg w8 hbox hb; have n0_ := z0i (below_step (by repeat (first | (with_reducible first | exact HB.out | apply z4i | apply z5i | apply z6i) | exact HB.out)) hb); have n1_ := z0i (hbox); have n2_ := z0i ((by rw [hg]; exact (below_size (by repeat (first | (with_reducible first | exact HB.out | apply z4i | apply z5i | apply z6i) | exact HB.out))) : w.heap.size ≤ gb255)); have n3_ := z0i ((by rw [hg]; exact (below_size (by repeat (first | (with_reducible first | exact HB.out | apply z4i | apply z5i | apply z6i) | exact HB.out))) : w.heap.size ≤ gb255)); clear HB; have HB := n0_; have BK255 := n1_; have GW255 := n2_; have GE255 := n3_; clear n0_ n1_ n2_ n3_; clear hb hbox hg) | ((with_reducible refine gate_dst (N := 24) rfl ?_); refine Kd.R_lit (Kd.int .i64) _ 3 ?hg (N := 24) ?hd (xs := ([] : List Int)) (inner := []) (ok := fun _ => True) (okp := fun _ => True) ?hr ?hp (fun _ hk => hk) trivial (Below.refl _ _) (Nat.le_refl _) (by simp) ?_; (case hd => rfl); (case hg => rfl); (case hr => first | (go_simp; done) | (go_simp; rfl)); (case hp => exact (Reps.none _ _)); intro v257 w9 ho10 hb hg_ hnew_; clear hg_ hnew_; (first | rw [← Ny256.out] at ho10 | (simp only [Int.reduceToNat] at ho10; rw [← Ny256.out] at ho10)); have n0_ := z0i (Kd.R_lower ho10 (below_size (by repeat (first | (with_reducible first | exact HB.out | apply z4i | apply z5i | apply z6i | refine z7i ?_ GE255.out) | exact HB.out)))); have n1_ := z0i (blk_below (g := gb255) (o := .cells #[.int .i64 a1_0, .int .i64 a1_1, .slice A1_2 l1_2.length c1_2] 31 (0, 0)) (by (with_reducible repeat (first | refine z1i ?_ _ | refine z3i ?_ | refine z2i ?_ _)); exact BK255.out) hb); have n2_ := z0i (below_step (by repeat (first | (with_reducible first | exact HB.out | apply z4i | apply z5i | apply z6i | refine z7i ?_ GE255.out) | exact HB.out)) hb); clear BK255; clear HB; have HO258 := n0_; have BK255 := n1_; have HB := n2_; clear n0_ n1_ n2_; clear hb ho10; have hcz11_0 : w9.cell? ⟨gb255, 0, none⟩ = some (.int .i64 a1_0) := (x3i BK255.out 0).trans rfl; have hcz11_1 : w9.cell? ⟨gb255, 1, none⟩ = some (.int .i64 a1_1) := (x3i BK255.out 1).trans rfl; have hcz11_2 : w9.cell? ⟨gb255, 2, none⟩ = some (.slice A1_2 l1_2.length c1_2) := (x3i BK255.out 2).trans rfl; have hfz11_0 := x2i BK255.out 0; have hfz11_1 := x2i BK255.out 1; have hfz11_2 := x2i BK255.out 2) | ((with_reducible refine gate_builtin (b := .append) (xs := #[.tmp 24, .tmp 26]) rfl ?_); at_builtin; refine Kd.R_append_rows (Kd.int .i64) (w0 := w) w.heap.size rfl (.tmp 24) (.tmp 26) 29 3 (.int .i64 0) 8 rfl Try.underlying29 info3 rfl (by decide) (by omega) v257 y256 l1_2 _ _ _ (fun _ => True) (fun _ => False) rfl rfl ?aO ?aR (fun _ _ h => h) (fun _ h => h.elim) ?aF ?aB ?aS ?aL ?_; (case aR => repeat (first | exact HR1_2.out | exact (Kd.C_below HR1_2.out HB.out) | (with_reducible refine Kd.C_alloc ?_ _) | (with_reducible refine Kd.C_drewN ?_ _) | (with_reducible refine Kd.C_drew ?_))); (case aB => exact (by repeat (first | (with_reducible first | exact HB.out | apply z4i | apply z5i | apply z6i | refine z7i ?_ GE255.out) | exact HB.out))); (case aF => exact (fun _ _ => trivial)); (case aO => exact (by (with_reducible repeat (first | apply z8i | apply z9i | apply y1i)); exact HO258.out)); (case aS => exact (below_size (by repeat (first | (with_reducible first | exact HB.out | apply z4i | apply z5i | apply z6i | refine z7i ?_ GE255.out) | exact HB.out)))); (case aL => have := LMc4.out; omega); intro v260 w12 ho hb hg hat; rw [← Ny259.out] at ho; have n0_ := z0i (blk_grown (g := gb255) (o := .cells #[.int .i64 a1_0, .int .i64 a1_1, .slice A1_2 l1_2.length c1_2] 31 (0, 0)) (by (with_reducible repeat (first | refine z1i ?_ _ | refine z3i ?_ | refine z2i ?_ _)); exact BK255.out) hg (Kd.R_ne HO258.out BK255.out (by decide))); have n1_ := z0i (hb); have n2_ := z0i (ho); clear BK255; clear HB; clear HO258; have BK255 := n0_; have HB := n1_; have HO261 := n2_; clear n0_ n1_ n2_; clear ho hb hg hat; obtain ⟨Ao13, co13, eo13⟩ := Kd.R_slice HO261.out; subst eo13) | ((with_reducible refine gate_dst (N := 30) rfl ?_); refine Kd.R_make (Kd.int .i64) _ 3 rfl (N := 30) rfl 29 _ _ rfl (y259.length : Int) rfl rfl Try.underlying29 (.int .i64 0) 8 info3 rfl (by decide) (by omega) 0 (ok := fun _ => True) (okp := fun _ => True) rfl (fun _ hk => hk) trivial (of_decide_eq_true (by first | (with_reducible assumption) | assumption)) (Nat.le_trans (Nat.mul_le_mul_right _ (of_decide_eq_true (by first | (with_reducible assumption) | assumption) : (y259.length : Int).toNat ≤ 35184372088832)) (by omega)) (Below.refl _ _) (Nat.le_refl _) ?_; intro v263 w14 ho15 hb hg_ hnew_; clear hg_ hnew_; (first | rw [← Ny262.out] at ho15 | (simp only [Int.reduceToNat] at ho15; rw [← Ny262.out] at ho15)); have n0_ := z0i (Kd.R_elder' (by (with_reducible repeat (first | apply z8i | apply z9i | apply y1i)); exact HO261.out) (Kd.R_base ho15) hb); have n1_ := z0i (Kd.R_lower (Kd.R_new' ho15 (Kd.R_lt (by (with_reducible repeat (first | apply z8i | apply z9i | apply y1i)); exact HO261.out))) (below_size (by repeat (first | (with_reducible first | exact HB.out | apply z4i | apply z5i | apply z6i | refine z7i ?_ GE255.out) | exact HB.out)))); have n2_ := z0i (blk_below (g := gb255) (o := .cells #[.int .i64 a1_0, .int .i64 a1_1, .slice A1_2 l1_2.length c1_2] 31 (0, 0)) (by (with_reducible repeat (first | refine z1i ?_ _ | refine z3i ?_ | refine z2i ?_ _)); exact BK255.out) hb); have n3_ := z0i (below_step (by repeat (first | (with_reducible first | exact HB.out | apply z4i | apply z5i | apply z6i | refine z7i ?_ GE255.out) | exact HB.out)) hb); clear HO261; clear BK255; clear HB; have HO261 := n0_; have HO264 := n1_; have BK255 := n2_; have HB := n3_; clear n0_ n1_ n2_ n3_; clear hb ho15) | ((with_reducible refine gate_dst (N := 33) rfl ?_); refine Kd.R_make (Kd.int .i64) _ 3 rfl (N := 33) rfl 29 _ _ rfl (y259.length : Int) rfl rfl Try.underlying29 (.int .i64 0) 8 info3 rfl (by decide) (by omega) 0 (ok := fun _ => True) (okp := fun _ => True) rfl (fun _ hk => hk) trivial (of_decide_eq_true (by first | (with_reducible assumption) | assumption)) (Nat.le_trans (Nat.mul_le_mul_right _ (of_decide_eq_true (by first | (with_reducible assumption) | assumption) : (y259.length : Int).toNat ≤ 35184372088832)) (by omega)) (Below.refl _ _) (Nat.le_refl _) ?_; intro v266 w16 ho17 hb hg_ hnew_; clear hg_ hnew_; (first | rw [← Ny265.out] at ho17 | (simp only [Int.reduceToNat] at ho17; rw [← Ny265.out] at ho17)); have n0_ := z0i (Kd.R_elder' (by (with_reducible repeat (first | apply z8i | apply z9i | apply y1i)); exact HO261.out) (Kd.R_base ho17) hb); have n1_ := z0i (Kd.R_elder' (by (with_reducible repeat (first | apply z8i | apply z9i | apply y1i)); exact HO264.out) (Kd.R_base ho17) hb); have n2_ := z0i (Kd.R_lower (Kd.R_new' (Kd.R_new' ho17 (Kd.R_lt (by (with_reducible repeat (first | apply z8i | apply z9i | apply y1i)); exact HO261.out))) (Kd.R_lt (by (with_reducible repeat (first | apply z8i | apply z9i | apply y1i)); exact HO264.out))) (below_size (by repeat (first | (with_reducible first | exact HB.out | apply z4i | apply z5i | apply z6i | refine z7i ?_ GE255.out) | exact HB.out)))); have n3_ := z0i (blk_below (g := gb255) (o := .cells #[.int .i64 a1_0, .int .i64 a1_1, .slice A1_2 l1_2.length c1_2] 31 (0, 0)) (by (with_reducible repeat (first | refine z1i ?_ _ | refine z3i ?_ | refine z2i ?_ _)); exact BK255.out) hb); have n4_ := z0i (below_step (by repeat (first | (with_reducible first | exact HB.out | apply z4i | apply z5i | apply z6i | refine z7i ?_ GE255.out) | exact HB.out)) hb); clear HO261; clear HO264; clear BK255; clear HB; have HO261 := n0_; have HO264 := n1_; have HO267 := n2_; have BK255 := n3_; have HB := n4_; clear n0_ n1_ n2_ n3_ n4_; clear hb ho17) | ((with_reducible refine gate_callee (f := 68) rfl ?_); refine goesL_ (some 35) rfl rfl Try.func68 (by kernel_rfl) rfl #[.slice A0 l0.length c0] rfl (by (try simp only [List.map_toArray, List.map_cons, List.map_nil]); first | done | rfl | (simp only [List.length_drop, List.length_take]; rfl)) ?_; (with_reducible refine (spec_WeightOf.calls k _ _ l0 t268 _ ?side1 ?side2 A7.out).mono ?_); (case side1 => repeat (first | exact (Kd.C_below HR0.out HB.out) | (with_reducible refine Kd.C_alloc ?_ _) | (with_reducible refine Kd.C_drewN ?_ _) | (with_reducible refine Kd.C_drew ?_))); (case side2 => exact HC0.out); rintro e w18 ⟨rfl, hb⟩; refine ⟨_, rfl, ?_⟩; have n0_ := z0i (Kd.R_below (by (with_reducible repeat (first | apply z8i | apply z9i | apply y1i)); exact HO261.out) hb); have n1_ := z0i (Kd.R_below (by (with_reducible repeat (first | apply z8i | apply z9i | apply y1i)); exact HO264.out) hb); have n2_ := z0i (Kd.R_below (by (with_reducible repeat (first | apply z8i | apply z9i | apply y1i)); exact HO267.out) hb); have n3_ := z0i (blk_below (g := gb255) (o := .cells #[.int .i64 a1_0, .int .i64 a1_1, .slice A1_2 l1_2.length c1_2] 31 (0, 0)) (by (with_reducible repeat (first | refine z1i ?_ _ | refine z3i ?_ | refine z2i ?_ _)); exact BK255.out) hb); have n4_ := z0i (below_step (by repeat (first | (with_reducible first | exact HB.out | apply z4i | apply z5i | apply z6i | refine z7i ?_ GE255.out) | exact HB.out)) hb); clear HO261; clear HO264; clear HO267; clear BK255; clear HB; have HO261 := n0_; have HO264 := n1_; have HO267 := n2_; have BK255 := n3_; have HB := n4_; clear n0_ n1_ n2_ n3_ n4_; (try clear hb)))
    go_loopg [13, 38] k (fun kq v13 v38 w' => ∃ (x9_1 : List Int) (x10_1 : List Int) (x11_1 : List Int) (x13_1 : Int) (x38_1 : Int), v13 = .int .i64 x13_1 ∧ v38 = .int .i64 x38_1 ∧ Aside0 (spec_l4Run.l0 kq l0 a2 x9_1 x10_1 x11_1 t268 x13_1 (y259.length : Int) x38_1 a1_0 a1_1 l1_2 = some (r1, r2, r3)) ∧ Aside0 (kq ≤ k) ∧ Aside0 (Kd.R (Kd.int .i64) 3 w' w.heap.size (fun k_ => some k_ ≠ (v263 : Value).ownBlock ∧ some k_ ≠ (v266 : Value).ownBlock) (.slice Ao13 y259.length co13) x9_1) ∧ Aside0 (Kd.R (Kd.int .i64) 3 w' w.heap.size (fun k_ => some k_ ≠ ((.slice Ao13 y259.length co13) : Value).ownBlock ∧ some k_ ≠ (v266 : Value).ownBlock) v263 x10_1) ∧ Aside0 (Kd.R (Kd.int .i64) 3 w' w.heap.size (fun k_ => some k_ ≠ ((.slice Ao13 y259.length co13) : Value).ownBlock ∧ some k_ ≠ (v263 : Value).ownBlock) v266 x11_1) ∧ Aside0 (w'.heap[gb255]? = some (.cells #[.int .i64 a1_0, .int .i64 a1_1, (.slice A1_2 l1_2.length c1_2)] 31 (0, 0))) ∧ Aside0 (Below w.heap.size w w'))
    case atStart => exact ⟨(y259), (y262), (y265), (0), (0), (by first | rfl | (simp; done) | (simp [*]; done)), (by first | rfl | (simp; done) | (simp [*]; done)), H', ⟨Nat.le_refl _⟩, ⟨by (with_reducible repeat (first | apply z8i | apply z9i | apply y1i)); exact x6i HO261.out (fun _ hk => ⟨hk.1.2, hk.2⟩)⟩, ⟨by (with_reducible repeat (first | apply z8i | apply z9i | apply y1i)); exact x6i HO264.out (fun _ hk => ⟨hk.1.2, hk.2⟩)⟩, ⟨by (with_reducible repeat (first | apply z8i | apply z9i | apply y1i)); exact x6i HO267.out (fun _ hk => ⟨hk.1.2, hk.2⟩)⟩, ⟨by (with_reducible repeat (first | refine z1i ?_ _ | refine z3i ?_ | refine z2i ?_ _)); exact BK255.out⟩, ⟨by repeat (first | (with_reducible first | exact HB.out | apply z4i | apply z5i | apply z6i | refine z7i ?_ GE255.out) | exact HB.out)⟩⟩
    case round =>
     clear H'
     try clear c1
     try clear p2
     try clear c4
     try clear c5
     try clear c5b0
     try clear c5b1
     try clear c6
     try clear c6b0
     try clear c6b1
     try clear hcz11_0
     try clear hcz11_1
     try clear hcz11_2
     try clear hfz11_0
     try clear hfz11_1
     try clear hfz11_2
     obtain ⟨x9_1, x10_1, x11_1, x13_1, x38_1, rfl, rfl, HA, HK1, HO_9, HO_10, HO_11, BK255, HB⟩ := hrel
     have hl9_1 := (Kd.R_reads' HO_9.out).1
     rw [hl9_1] at HO_9
     (try simp only [hl9_1])
     (try simp only [hl9_1] at BK255)
     (try simp only [hl9_1] at HO_10)
     (try simp only [hl9_1] at HO_11)
     cases gk with
     | zero => exact absurd HA.out (by simp [spec_l4Run.l0])
     | succ k1 =>
      have H := HA.out
      clear HA
      simp only [spec_l4Run.l0] at H
      by_cases c19 : x38_1 < (y259.length : Int)
      ·rw [if_pos c19] at H
       have c19b0 : decide (x38_1 < (y259.length : Int)) = true := decide_eq_true c19
       try (have c19h_ := c19b0; rw [hl9_1] at c19h_)
       clear c19
       by_cases c20 : a1_0 = 0
       ·rw [if_pos c20] at H
        exact absurd H (by simp)
       ·rw [if_neg c20] at H
        have c20b0 : (a1_0 == 0) = false := beq_eq_false_iff_ne.mpr c20
        have c20b1 : (a1_0 != 0) = true := bne_iff_ne.mpr c20
        have HC21 := z0i H
        clear H
        have hcz22_0 : wr.cell? ⟨gb255, 0, none⟩ = some (.int .i64 a1_0) := (x3i BK255.out 0).trans rfl
        have hcz22_1 : wr.cell? ⟨gb255, 1, none⟩ = some (.int .i64 a1_1) := (x3i BK255.out 1).trans rfl
        have hcz22_2 : wr.cell? ⟨gb255, 2, none⟩ = some (.slice A1_2 l1_2.length c1_2) := (x3i BK255.out 2).trans rfl
        have hfz22_0 := x2i BK255.out 0
        have hfz22_1 := x2i BK255.out 1
        have hfz22_2 := x2i BK255.out 2
        go_upto_region 12 with (fail)
        go_cut [54] (fun v54 wc => ∃ (kq : Nat) (x54_20 : Bool), v54 = .bool x54_20 ∧ Aside0 (spec_l4Run.j1 kq l0 a2 x9_1 x10_1 x11_1 t268 x13_1 (wrap64 (Int.tdiv x38_1 a1_0)) (Int.tmod x38_1 a1_0) 1 (y259.length : Int) x38_1 x54_20 a1_0 a1_1 l1_2 = some (r1, r2, r3)) ∧ Aside0 (kq ≤ k1) ∧ Aside0 (Kd.R (Kd.int .i64) 3 wc w.heap.size (fun k_ => some k_ ≠ (v263 : Value).ownBlock ∧ some k_ ≠ (v266 : Value).ownBlock) (.slice Ao13 x9_1.length co13) x9_1) ∧ Aside0 (Kd.R (Kd.int .i64) 3 wc w.heap.size (fun k_ => some k_ ≠ ((.slice Ao13 x9_1.length co13) : Value).ownBlock ∧ some k_ ≠ (v266 : Value).ownBlock) v263 x10_1) ∧ Aside0 (Kd.R (Kd.int .i64) 3 wc w.heap.size (fun k_ => some k_ ≠ ((.slice Ao13 x9_1.length co13) : Value).ownBlock ∧ some k_ ≠ (v263 : Value).ownBlock) v266 x11_1) ∧ Aside0 (wc.heap[gb255]? = some (.cells #[.int .i64 a1_0, .int .i64 a1_1, (.slice A1_2 l1_2.length c1_2)] 31 (0, 0))) ∧ Aside0 (Below w.heap.size w wc))
        case first =>
         have H := HC21.out
         clear HC21
         by_cases c23 : a2 = true
         ·subst c23
          have H1 : (spec_l4Run.j1 k1 l0 true x9_1 x10_1 x11_1 t268 x13_1 (wrap64 (Int.tdiv x38_1 a1_0)) (Int.tmod x38_1 a1_0) 1 (y259.length : Int) x38_1 ((Int.tmod (wrap64 (Int.tdiv x38_1 a1_0)) 2) == 1) a1_0 a1_1 l1_2) = some (r1, r2, r3) := by rw [if_pos rfl] at H; first | exact H | (simp only [if_true] at H ⊢; exact H)
          clear H
          have H := H1
          clear H1
          have H' := z0i H
          clear H
          go_wp2
          go_meet
          case rel => exact ⟨_, (((Int.tmod (wrap64 (Int.tdiv x38_1 a1_0)) 2) == 1)), (by first | rfl | (simp; done) | (simp [*]; done)), H', ⟨by have := HK1.out; first | omega | exact Nat.le_refl _⟩, ⟨by (try simp only [hl9_1]); (with_reducible repeat (first | apply z8i | apply z9i | apply y1i)); exact HO_9.out⟩, ⟨by (try simp only [hl9_1]); (with_reducible repeat (first | apply z8i | apply z9i | apply y1i)); exact HO_10.out⟩, ⟨by (try simp only [hl9_1]); (with_reducible repeat (first | apply z8i | apply z9i | apply y1i)); exact HO_11.out⟩, ⟨by (try simp only [hl9_1]); (with_reducible repeat (first | refine z1i ?_ _ | refine z3i ?_ | refine z2i ?_ _)); exact BK255.out⟩, ⟨by repeat (first | (with_reducible first | exact HB.out | apply z4i | apply z5i | apply z6i | refine z7i ?_ GE255.out) | exact HB.out)⟩⟩
         ·replace c23 := Bool.eq_false_iff.mpr c23
          subst c23
          have H1 : (spec_l4Run.j1 k1 l0 false x9_1 x10_1 x11_1 t268 x13_1 (wrap64 (Int.tdiv x38_1 a1_0)) (Int.tmod x38_1 a1_0) 1 (y259.length : Int) x38_1 false a1_0 a1_1 l1_2) = some (r1, r2, r3) := by rw [if_neg (show ¬ (false = true) by decide)] at H; first | exact H | (simp only [if_true] at H ⊢; exact H)
          clear H
          have H := H1
          clear H1
          have H' := z0i H
          clear H
          go_wp2
          go_meet
          case rel => exact ⟨_, (false), (by first | rfl | (simp; done) | (simp [*]; done)), H', ⟨by have := HK1.out; first | omega | exact Nat.le_refl _⟩, ⟨by (try simp only [hl9_1]); (with_reducible repeat (first | apply z8i | apply z9i | apply y1i)); exact HO_9.out⟩, ⟨by (try simp only [hl9_1]); (with_reducible repeat (first | apply z8i | apply z9i | apply y1i)); exact HO_10.out⟩, ⟨by (try simp only [hl9_1]); (with_reducible repeat (first | apply z8i | apply z9i | apply y1i)); exact HO_11.out⟩, ⟨by (try simp only [hl9_1]); (with_reducible repeat (first | refine z1i ?_ _ | refine z3i ?_ | refine z2i ?_ _)); exact BK255.out⟩, ⟨by repeat (first | (with_reducible first | exact HB.out | apply z4i | apply z5i | apply z6i | refine z7i ?_ GE255.out) | exact HB.out)⟩⟩
        case rest =>
         clear HC21
         try clear c1
         try clear c2
         try clear p2
         try clear c4
         try clear c5
         try clear c5b0
         try clear c5b1
         try clear c6
         try clear c6b0
         try clear c6b1
         try clear p6
         try clear c19
         try clear c19b0
         try clear c20
         try clear c20b0
         try clear c20b1
         try clear c23
         try clear hcz11_0
         try clear hcz11_1
         try clear hcz11_2
         try clear hcz22_0
         try clear hcz22_1
         try clear hcz22_2
         try clear hfz11_0
         try clear hfz11_1
         try clear hfz11_2
         try clear hfz22_0
         try clear hfz22_1
         try clear hfz22_2
         try clear p2
         obtain ⟨kq, x54_20, rfl, HA, HJ20, HO_9, HO_10, HO_11, BK255, HB⟩ := hcut
         cases kq with
         | zero => exact absurd HA.out (by simp [spec_l4Run.j1])
         | succ kj20 =>
          have H := HA.out
          clear HA
          simp only [spec_l4Run.j1] at H
          have HC24 := z0i H
          clear H
          go_upto_if 54 with (fail)
          go_cut [16, 17] (fun v16 v17 wc => ∃ (kq : Nat) (x16_23 : Int) (x17_23 : Int), v16 = .int .i64 x16_23 ∧ v17 = .int .i64 x17_23 ∧ Aside0 (spec_l4Run.j2 kq l0 a2 x9_1 x10_1 x11_1 t268 x13_1 (wrap64 (Int.tdiv x38_1 a1_0)) x16_23 x17_23 (y259.length : Int) x38_1 a1_0 a1_1 l1_2 = some (r1, r2, r3)) ∧ Aside0 (kq ≤ kj20) ∧ Aside0 (Kd.R (Kd.int .i64) 3 wc w.heap.size (fun k_ => some k_ ≠ (v263 : Value).ownBlock ∧ some k_ ≠ (v266 : Value).ownBlock) (.slice Ao13 x9_1.length co13) x9_1) ∧ Aside0 (Kd.R (Kd.int .i64) 3 wc w.heap.size (fun k_ => some k_ ≠ ((.slice Ao13 x9_1.length co13) : Value).ownBlock ∧ some k_ ≠ (v266 : Value).ownBlock) v263 x10_1) ∧ Aside0 (Kd.R (Kd.int .i64) 3 wc w.heap.size (fun k_ => some k_ ≠ ((.slice Ao13 x9_1.length co13) : Value).ownBlock ∧ some k_ ≠ (v263 : Value).ownBlock) v266 x11_1) ∧ Aside0 (wc.heap[gb255]? = some (.cells #[.int .i64 a1_0, .int .i64 a1_1, (.slice A1_2 l1_2.length c1_2)] 31 (0, 0))) ∧ Aside0 (Below w.heap.size w wc))
          case first =>
           have H := HC24.out
           clear HC24
           by_cases c25 : x54_20 = true
           ·subst c25
            have H1 : (spec_l4Run.j2 kj20 l0 a2 x9_1 x10_1 x11_1 t268 x13_1 (wrap64 (Int.tdiv x38_1 a1_0)) (wrap64 ((wrap64 (a1_0 - 1)) - (Int.tmod x38_1 a1_0))) (-1) (y259.length : Int) x38_1 a1_0 a1_1 l1_2) = some (r1, r2, r3) := by rw [if_pos rfl] at H; first | exact H | (simp only [if_true] at H ⊢; exact H)
            clear H
            have H := H1
            clear H1
            have H' := z0i H
            clear H
            have hcz26_0 : wc.cell? ⟨gb255, 0, none⟩ = some (.int .i64 a1_0) := (x3i BK255.out 0).trans rfl
            have hcz26_1 : wc.cell? ⟨gb255, 1, none⟩ = some (.int .i64 a1_1) := (x3i BK255.out 1).trans rfl
            have hcz26_2 : wc.cell? ⟨gb255, 2, none⟩ = some (.slice A1_2 l1_2.length c1_2) := (x3i BK255.out 2).trans rfl
            have hfz26_0 := x2i BK255.out 0
            have hfz26_1 := x2i BK255.out 1
            have hfz26_2 := x2i BK255.out 2
            go_wp2
            go_meet
            case rel => exact ⟨_, (wrap64 ((wrap64 (a1_0 - 1)) - (Int.tmod x38_1 a1_0))), ((-1)), (by first | rfl | (simp; done) | (simp [*]; done)), (by first | rfl | (simp; done) | (simp [*]; done)), H', ⟨by have := HK1.out; have := HJ20.out; first | omega | exact Nat.le_refl _⟩, ⟨by (try simp only [hl9_1]); (with_reducible repeat (first | apply z8i | apply z9i | apply y1i)); exact HO_9.out⟩, ⟨by (try simp only [hl9_1]); (with_reducible repeat (first | apply z8i | apply z9i | apply y1i)); exact HO_10.out⟩, ⟨by (try simp only [hl9_1]); (with_reducible repeat (first | apply z8i | apply z9i | apply y1i)); exact HO_11.out⟩, ⟨by (try simp only [hl9_1]); (with_reducible repeat (first | refine z1i ?_ _ | refine z3i ?_ | refine z2i ?_ _)); exact BK255.out⟩, ⟨by repeat (first | (with_reducible first | exact HB.out | apply z4i | apply z5i | apply z6i | refine z7i ?_ GE255.out) | exact HB.out)⟩⟩
           ·replace c25 := Bool.eq_false_iff.mpr c25
            subst c25
            have H1 : (spec_l4Run.j2 kj20 l0 a2 x9_1 x10_1 x11_1 t268 x13_1 (wrap64 (Int.tdiv x38_1 a1_0)) (Int.tmod x38_1 a1_0) 1 (y259.length : Int) x38_1 a1_0 a1_1 l1_2) = some (r1, r2, r3) := by rw [if_neg (show ¬ (false = true) by decide)] at H; first | exact H | (simp only [if_true] at H ⊢; exact H)
            clear H
            have H := H1
            clear H1
            have H' := z0i H
            clear H
            go_wp2
            go_meet
            case rel => exact ⟨_, ((Int.tmod x38_1 a1_0)), (1), (by first | rfl | (simp; done) | (simp [*]; done)), (by first | rfl | (simp; done) | (simp [*]; done)), H', ⟨by have := HK1.out; have := HJ20.out; first | omega | exact Nat.le_refl _⟩, ⟨by (try simp only [hl9_1]); (with_reducible repeat (first | apply z8i | apply z9i | apply y1i)); exact HO_9.out⟩, ⟨by (try simp only [hl9_1]); (with_reducible repeat (first | apply z8i | apply z9i | apply y1i)); exact HO_10.out⟩, ⟨by (try simp only [hl9_1]); (with_reducible repeat (first | apply z8i | apply z9i | apply y1i)); exact HO_11.out⟩, ⟨by (try simp only [hl9_1]); (with_reducible repeat (first | refine z1i ?_ _ | refine z3i ?_ | refine z2i ?_ _)); exact BK255.out⟩, ⟨by repeat (first | (with_reducible first | exact HB.out | apply z4i | apply z5i | apply z6i | refine z7i ?_ GE255.out) | exact HB.out)⟩⟩
          case rest =>
           clear HC24
           try clear c1
           try clear c2
           try clear p2
           try clear c4
           try clear c5
           try clear c5b0
           try clear c5b1
           try clear c6
           try clear c6b0
           try clear c6b1
           try clear p6
           try clear c19
           try clear c19b0
           try clear c20
           try clear c20b0
           try clear c20b1
           try clear c23
           try clear c25
           try clear hcz11_0
           try clear hcz11_1
           try clear hcz11_2
           try clear hcz22_0
           try clear hcz22_1
           try clear hcz22_2
           try clear hcz26_0
           try clear hcz26_1
           try clear hcz26_2
           try clear hfz11_0
           try clear hfz11_1
           try clear hfz11_2
           try clear hfz22_0
           try clear hfz22_1
           try clear hfz22_2
           try clear hfz26_0
           try clear hfz26_1
           try clear hfz26_2
           try clear p2
           try clear p6
           obtain ⟨kq, x16_23, x17_23, rfl, rfl, HA, HJ23, HO_9, HO_10, HO_11, BK255, HB⟩ := hcut
           cases kq with
           | zero => exact absurd HA.out (by simp [spec_l4Run.j2])
           | succ kj23 =>
            have H := HA.out
            clear HA
            simp only [spec_l4Run.j2] at H
            obtain ⟨ji27, hji27⟩ : ∃ j_ : Int, (wrap64 ((wrap64 ((wrap64 (Int.tdiv x38_1 a1_0)) * a1_0)) + x16_23)) = j_ := ⟨_, rfl⟩
            replace H : (if 0 ≤ (ji27) then (if (ji27) < (x9_1.length : Int) then (if (rd x9_1 (ji27)) ≥ 128 then (if (ji27) < (x10_1.length : Int) then (spec_l4Run.j3 kj23 l0 a2 x9_1 (x10_1.set ((ji27) : Int).toNat 1) x11_1 t268 x13_1 (wrap64 (Int.tdiv x38_1 a1_0)) x16_23 x17_23 ji27 (wrap64 ((rd x9_1 (ji27)) - 255)) (y259.length : Int) x38_1 a1_0 a1_1 l1_2) else (none)) else (spec_l4Run.j3 kj23 l0 a2 x9_1 x10_1 x11_1 t268 x13_1 (wrap64 (Int.tdiv x38_1 a1_0)) x16_23 x17_23 ji27 (rd x9_1 (ji27)) (y259.length : Int) x38_1 a1_0 a1_1 l1_2)) else (none)) else (none)) = some (r1, r2, r3) := by first | (rw [hji27] at H; exact H) | (simp only [hji27] at H ⊢; exact H)
            have hji27w : (IntKind.i64.wrap ((wrap64 ((wrap64 (Int.tdiv x38_1 a1_0)) * a1_0)) + x16_23)) = ji27 := (i64_w _).trans hji27
            by_cases c28 : 0 ≤ (ji27)
            ·rw [if_pos c28] at H
             have c28b0 : decide (0 ≤ (ji27)) = true := decide_eq_true c28
             clear c28
             by_cases c29 : (ji27) < (x9_1.length : Int)
             ·rw [if_pos c29] at H
              have c29b0 : decide ((ji27) < (x9_1.length : Int)) = true := decide_eq_true c29
              clear c29
              have HC30 := z0i H
              clear H
              have hcz31_0 : wc.cell? ⟨gb255, 0, none⟩ = some (.int .i64 a1_0) := (x3i BK255.out 0).trans rfl
              have hcz31_1 : wc.cell? ⟨gb255, 1, none⟩ = some (.int .i64 a1_1) := (x3i BK255.out 1).trans rfl
              have hcz31_2 : wc.cell? ⟨gb255, 2, none⟩ = some (.slice A1_2 l1_2.length c1_2) := (x3i BK255.out 2).trans rfl
              have hfz31_0 := x2i BK255.out 0
              have hfz31_1 := x2i BK255.out 1
              have hfz31_2 := x2i BK255.out 2
              have p269 : 0 ≤ ((ji27) : Int) := of_decide_eq_true (by first | (with_reducible assumption) | assumption)
              have q269 : (ji27) < (x9_1.length : Int) := of_decide_eq_true (by first | (with_reducible assumption) | assumption)
              obtain ⟨ad269, e269, hx269_0⟩ := Kd.at_int (Kd.R_reads' HO_9.out).2.2 (ji27) p269 q269
              cases e269
              replace p269 := eq_true p269
              replace q269 := eq_true q269
              go_upto_if 71 with (fail)
              go_cut [19] (fun v19 wc => ∃ (kq : Nat) (x10_29 : List Int) (x19_29 : Int), v19 = .int .i64 x19_29 ∧ Aside0 (spec_l4Run.j3 kq l0 a2 x9_1 x10_29 x11_1 t268 x13_1 (wrap64 (Int.tdiv x38_1 a1_0)) x16_23 x17_23 ji27 x19_29 (y259.length : Int) x38_1 a1_0 a1_1 l1_2 = some (r1, r2, r3)) ∧ Aside0 (kq ≤ kj23) ∧ Aside0 (Kd.R (Kd.int .i64) 3 wc w.heap.size (fun k_ => some k_ ≠ (v263 : Value).ownBlock ∧ some k_ ≠ (v266 : Value).ownBlock) (.slice (some ad269) x9_1.length co13) x9_1) ∧ Aside0 (Kd.R (Kd.int .i64) 3 wc w.heap.size (fun k_ => some k_ ≠ ((.slice (some ad269) x9_1.length co13) : Value).ownBlock ∧ some k_ ≠ (v266 : Value).ownBlock) v263 x10_29) ∧ Aside0 (Kd.R (Kd.int .i64) 3 wc w.heap.size (fun k_ => some k_ ≠ ((.slice (some ad269) x9_1.length co13) : Value).ownBlock ∧ some k_ ≠ (v263 : Value).ownBlock) v266 x11_1) ∧ Aside0 (wc.heap[gb255]? = some (.cells #[.int .i64 a1_0, .int .i64 a1_1, (.slice A1_2 l1_2.length c1_2)] 31 (0, 0))) ∧ Aside0 (Below w.heap.size w wc))
              case first =>
               have H := HC30.out
               clear HC30
               by_cases c32 : (rd x9_1 (ji27)) ≥ 128
               ·rw [if_pos c32] at H
                have c32b0 : decide (128 ≤ (rd x9_1 (ji27))) = true := decide_eq_true c32
                clear c32
                (first | rw [c32b0] | (simp only [i64_w, i32_w]; rw [c32b0]) | skip)
                by_cases c33 : (ji27) < (x10_1.length : Int)
                ·rw [if_pos c33] at H
                 have c33b0 : decide ((ji27) < (x10_1.length : Int)) = true := decide_eq_true c33
                 clear c33
                 obtain ⟨y270, hy270⟩ : ∃ y_ : List Int, y_ = (x10_1.set ((ji27) : Int).toNat 1) := ⟨_, rfl⟩
                 replace H : (spec_l4Run.j3 kj23 l0 a2 x9_1 y270 x11_1 t268 x13_1 (wrap64 (Int.tdiv x38_1 a1_0)) x16_23 x17_23 ji27 (wrap64 ((rd x9_1 (ji27)) - 255)) (y259.length : Int) x38_1 a1_0 a1_1 l1_2) = some (r1, r2, r3) := by first | (rw [hy270]; with_reducible exact H) | (have H2_ := (Option.bind_some _ _).symm.trans H; rw [hy270]; with_reducible exact H2_) | (have H2_ := (Option.bind_some _ _).symm.trans H; with_reducible exact H2_) | with_reducible exact H | (rw [hy270]; exact H) | exact H
                 have Ny270 := z0i hy270
                 clear hy270
                 have H' := z0i H
                 clear H
                 have p34 : 0 ≤ ((ji27) : Int) := of_decide_eq_true (by first | (with_reducible assumption) | assumption)
                 have q34 : ((ji27) : Int) < ((x10_1.length : Int) : Int) := of_decide_eq_true (by first | (with_reducible assumption) | assumption)
                 obtain ⟨go34, co34, eo34, gb34, gl34, cl34, HG34⟩ := Kd.R_form HO_10.out (by omega)
                 (first | cases eo34 | (injection eo34 with ea_ en_ ec_; (first | subst ea_ | (injection ea_ with ea_; subst ea_)); subst ec_; clear en_))
                 have GB34 := z0i gb34
                 have GG34 := z0i HG34
                 clear gb34 gl34 HG34
                 obtain ⟨hx34_0, hf34_0⟩ := Kd.R_celln 0 HO_10.out ((ji27) : Int) p34 q34
                 replace p34 := eq_true p34
                 replace q34 := eq_true q34
                 have HP35 := Kd.R_putg HO_10.out ((ji27) : Int) 1
                 go_wp2_with (first | ((with_reducible refine gate_store (t := 3) (p := 74) rfl ?_); refine store_event (t := 3) (p := 74) (v := ?vo_w36) (w1 := (wc.setCell ⟨go34, ((ji27) : Int).toNat, none⟩ (.int .i64 1))) ?hg ?ho ?hn ?hr ?_; (case ho => rfl); (case hg => rfl); (case hn => rfl); (case hr => first | (go_simp; done) | (go_simp; rfl) | (obtain ⟨_, _, eo_⟩ := Kd.R_slice HO_11.out; subst eo_; first | (go_simp; done) | (go_simp; rfl))); intro w36 hw; have hg : wc.grownBy w36 (some go34) := (by rw [hw]; exact HP35.2); have hp_ : Kd.R (Kd.int .i64) 3 w36 w.heap.size (fun k_ => some k_ ≠ (.slice (some ad269) x9_1.length co13 : Value).ownBlock ∧ some k_ ≠ (v266 : Value).ownBlock) (.slice (some ⟨go34, 0, none⟩) x10_1.length co34) y270 := (by rw [hw, Ny270.out]; exact HP35.1); clear HP35; have n0_ := z0i (Kd.R_after (v := (.slice (some ⟨go34, 0, none⟩) x10_1.length co34)) (v1 := (.slice (some ⟨go34, 0, none⟩) x10_1.length co34)) (ok := (fun k_ => some k_ ≠ (v266 : Value).ownBlock)) (by (with_reducible repeat (first | apply z8i | apply z9i | apply y1i)); exact x6i HO_9.out (fun _ hk => ⟨hk.2, hk.1⟩)) hg (.inl rfl)); have n1_ := z0i (hp_); have n2_ := z0i (Kd.R_after (v := (.slice (some ⟨go34, 0, none⟩) x10_1.length co34)) (v1 := (.slice (some ⟨go34, 0, none⟩) x10_1.length co34)) (ok := (fun k_ => some k_ ≠ (.slice (some ad269) x9_1.length co13 : Value).ownBlock)) (by (with_reducible repeat (first | apply z8i | apply z9i | apply y1i)); exact HO_11.out) hg (.inl rfl)); have n3_ := z0i (blk_grown (g := gb255) (o := .cells #[.int .i64 a1_0, .int .i64 a1_1, .slice A1_2 l1_2.length c1_2] 31 (0, 0)) (by (with_reducible repeat (first | refine z1i ?_ _ | refine z3i ?_ | refine z2i ?_ _)); exact BK255.out) hg (Kd.R_ne HO_10.out BK255.out (by decide))); have n4_ := z0i ((by rw [hw]; exact z7i (HB.out) GB34.out : Below w.heap.size w w36)); clear HO_9; clear HO_10; clear HO_11; clear BK255; clear HB; have HO_9 := n0_; have HO_10 := n1_; have HO_11 := n2_; have BK255 := n3_; have HB := n4_; clear n0_ n1_ n2_ n3_ n4_; clear hg hw hp_))
                 go_meet
                 case rel => exact ⟨_, (y270), (wrap64 ((rd x9_1 (ji27)) - 255)), (by first | rfl | (simp; done) | (simp only [← hji27] <;> (first | rfl | simp)) | (simp [*]; done)), H', ⟨by have := HK1.out; have := HJ20.out; have := HJ23.out; first | omega | exact Nat.le_refl _⟩, ⟨by (try simp only [hl9_1]); (with_reducible repeat (first | apply z8i | apply z9i | apply y1i)); exact x6i HO_9.out (fun _ hk => ⟨hk.2, hk.1⟩)⟩, ⟨by (try simp only [hl9_1]); (with_reducible repeat (first | apply z8i | apply z9i | apply y1i)); exact HO_10.out⟩, ⟨by (try simp only [hl9_1]); (with_reducible repeat (first | apply z8i | apply z9i | apply y1i)); exact HO_11.out⟩, ⟨by (try simp only [hl9_1]); (with_reducible repeat (first | refine z1i ?_ _ | refine z3i ?_ | refine z2i ?_ _)); exact BK255.out⟩, ⟨by repeat (first | (with_reducible first | exact HB.out | apply z4i | apply z5i | apply z6i | refine z7i ?_ GE255.out) | exact HB.out)⟩⟩
                ·rw [if_neg c33] at H
                 exact absurd H (by simp)
               ·rw [if_neg c32] at H
                have c32b0 : decide (128 ≤ (rd x9_1 (ji27))) = false := decide_eq_false c32
                clear c32
                (first | rw [c32b0] | (simp only [i64_w, i32_w]; rw [c32b0]) | skip)
                have H' := z0i H
                clear H
                go_wp2
                go_meet
                case rel => exact ⟨_, (x10_1), (rd x9_1 (ji27)), (by first | rfl | (simp; done) | (simp only [← hji27] <;> (first | rfl | simp)) | (simp [*]; done)), H', ⟨by have := HK1.out; have := HJ20.out; have := HJ23.out; first | omega | exact Nat.le_refl _⟩, ⟨by (try simp only [hl9_1]); (with_reducible repeat (first | apply z8i | apply z9i | apply y1i)); exact HO_9.out⟩, ⟨by (try simp only [hl9_1]); (with_reducible repeat (first | apply z8i | apply z9i | apply y1i)); exact HO_10.out⟩, ⟨by (try simp only [hl9_1]); (with_reducible repeat (first | apply z8i | apply z9i | apply y1i)); exact HO_11.out⟩, ⟨by (try simp only [hl9_1]); (with_reducible repeat (first | refine z1i ?_ _ | refine z3i ?_ | refine z2i ?_ _)); exact BK255.out⟩, ⟨by repeat (first | (with_reducible first | exact HB.out | apply z4i | apply z5i | apply z6i | refine z7i ?_ GE255.out) | exact HB.out)⟩⟩
              case rest =>
               clear HC30
               try clear c1
               try clear c2
               try clear p2
               try clear q2
               try clear hx2
               try clear c3
               try clear p3
               try clear q3
               try clear hx3
               try clear hf3
               try clear c4
               try clear c5
               try clear c5b0
               try clear c5b1
               try clear c6
               try clear c6b0
               try clear c6b1
               try clear p6
               try clear c19
               try clear c19b0
               try clear c20
               try clear c20b0
               try clear c20b1
               try clear c23
               try clear c25
               try clear p26
               try clear q26
               try clear hx26
               try clear c28
               try clear c28b0
               try clear c29
               try clear c29b0
               try clear c32
               try clear c32b0
               try clear c33
               try clear c33b0
               try clear p34
               try clear q34
               try clear hx34
               try clear hf34
               try clear hcz11_0
               try clear hcz11_1
               try clear hcz11_2
               try clear hcz22_0
               try clear hcz22_1
               try clear hcz22_2
               try clear hcz26_0
               try clear hcz26_1
               try clear hcz26_2
               try clear hcz31_0
               try clear hcz31_1
               try clear hcz31_2
               try clear hfz11_0
               try clear hfz11_1
               try clear hfz11_2
               try clear hfz22_0
               try clear hfz22_1
               try clear hfz22_2
               try clear hfz26_0
               try clear hfz26_1
               try clear hfz26_2
               try clear hfz31_0
               try clear hfz31_1
               try clear hfz31_2
               try clear hx269_0
               try clear hx34_0
               try clear p2
               try clear p269
               try clear p34
               try clear p6
               try clear q269
               try clear q34
               obtain ⟨kq, x10_29, x19_29, rfl, HA, HJ29, HO_9, HO_10, HO_11, BK255, HB⟩ := hcut
               cases kq with
               | zero => exact absurd HA.out (by simp [spec_l4Run.j3])
               | succ kj29 =>
                have H := HA.out
                clear HA
                simp only [spec_l4Run.j3] at H
                by_cases c37 : 0 ≤ ji27
                ·rw [if_pos c37] at H
                 have c37b0 : decide (0 ≤ ji27) = true := decide_eq_true c37
                 clear c37
                 by_cases c38 : ji27 < (x11_1.length : Int)
                 ·rw [if_pos c38] at H
                  have c38b0 : decide (ji27 < (x11_1.length : Int)) = true := decide_eq_true c38
                  clear c38
                  obtain ⟨y271, hy271⟩ : ∃ y_ : List Int, y_ = (x11_1.set (ji27 : Int).toNat x19_29) := ⟨_, rfl⟩
                  replace H : ((spec_l4Shares.f kj29 l0 t268 x19_29).bind fun t272 => (spec_l4Run.l1 kj29 l0 a2 x9_1 x10_29 y271 t268 x13_1 (wrap64 (Int.tdiv x38_1 a1_0)) x16_23 x17_23 (y259.length : Int) x38_1 t272 (t272.length : Int) 0 a1_0 a1_1 l1_2)) = some (r1, r2, r3) := by first | (rw [hy271]; with_reducible exact H) | (have H2_ := (Option.bind_some _ _).symm.trans H; rw [hy271]; with_reducible exact H2_) | (have H2_ := (Option.bind_some _ _).symm.trans H; with_reducible exact H2_) | with_reducible exact H | (rw [hy271]; exact H) | exact H
                  have Ny271 := z0i hy271
                  clear hy271
                  replace H := Option.bind_eq_some_iff.mp H
                  obtain ⟨t272, A400, H⟩ := H
                  replace H : (spec_l4Run.l1 kj29 l0 a2 x9_1 x10_29 y271 t268 x13_1 (wrap64 (Int.tdiv x38_1 a1_0)) x16_23 x17_23 (y259.length : Int) x38_1 t272 (t272.length : Int) 0 a1_0 a1_1 l1_2) = some (r1, r2, r3) := H
                  have A40 := z0i A400
                  clear A400
                  have H' := z0i H
                  clear H
                  have p39 : 0 ≤ (ji27 : Int) := of_decide_eq_true (by first | (with_reducible assumption) | assumption)
                  have q39 : (ji27 : Int) < ((x11_1.length : Int) : Int) := of_decide_eq_true (by first | (with_reducible assumption) | assumption)
                  obtain ⟨go39, co39, eo39, gb39, gl39, cl39, HG39⟩ := Kd.R_form HO_11.out (by omega)
                  (first | cases eo39 | (injection eo39 with ea_ en_ ec_; (first | subst ea_ | (injection ea_ with ea_; subst ea_)); subst ec_; clear en_))
                  have GB39 := z0i gb39
                  have GG39 := z0i HG39
                  clear gb39 gl39 HG39
                  obtain ⟨hx39_0, hf39_0⟩ := Kd.R_celln 0 HO_11.out (ji27 : Int) p39 q39
                  replace p39 := eq_true p39
                  replace q39 := eq_true q39
                  have HP41 := Kd.R_putg HO_11.out (ji27 : Int) x19_29
                  go_wp2_with (first | ((with_reducible refine gate_store (t := 3) (p := 80) rfl ?_); refine store_event (t := 3) (p := 80) (v := ?vo_w42) (w1 := (wc.setCell ⟨go39, (ji27 : Int).toNat, none⟩ (.int .i64 x19_29))) ?hg ?ho ?hn ?hr ?_; (case ho => rfl); (case hg => rfl); (case hn => rfl); (case hr => first | (go_simp; done) | (go_simp; rfl) | (obtain ⟨_, _, eo_⟩ := Kd.R_slice HO_10.out; subst eo_; first | (go_simp; done) | (go_simp; rfl))); intro w42 hw; have hg : wc.grownBy w42 (some go39) := (by rw [hw]; exact HP41.2); have hp_ : Kd.R (Kd.int .i64) 3 w42 w.heap.size (fun k_ => some k_ ≠ (.slice (some ad269) x9_1.length co13 : Value).ownBlock ∧ some k_ ≠ (v263 : Value).ownBlock) (.slice (some ⟨go39, 0, none⟩) x11_1.length co39) y271 := (by rw [hw, Ny271.out]; exact HP41.1); clear HP41; have n0_ := z0i (Kd.R_after (v := (.slice (some ⟨go39, 0, none⟩) x11_1.length co39)) (v1 := (.slice (some ⟨go39, 0, none⟩) x11_1.length co39)) (ok := (fun k_ => some k_ ≠ (v263 : Value).ownBlock)) (by (with_reducible repeat (first | apply z8i | apply z9i | apply y1i)); exact HO_9.out) hg (.inl rfl)); have n1_ := z0i (Kd.R_after (v := (.slice (some ⟨go39, 0, none⟩) x11_1.length co39)) (v1 := (.slice (some ⟨go39, 0, none⟩) x11_1.length co39)) (ok := (fun k_ => some k_ ≠ (.slice (some ad269) x9_1.length co13 : Value).ownBlock)) (by (with_reducible repeat (first | apply z8i | apply z9i | apply y1i)); exact HO_10.out) hg (.inl rfl)); have n2_ := z0i (hp_); have n3_ := z0i (blk_grown (g := gb255) (o := .cells #[.int .i64 a1_0, .int .i64 a1_1, .slice A1_2 l1_2.length c1_2] 31 (0, 0)) (by (with_reducible repeat (first | refine z1i ?_ _ | refine z3i ?_ | refine z2i ?_ _)); exact BK255.out) hg (Kd.R_ne HO_11.out BK255.out (by decide))); have n4_ := z0i ((by rw [hw]; exact z7i (HB.out) GB39.out : Below w.heap.size w w42)); clear HO_9; clear HO_10; clear HO_11; clear BK255; clear HB; have HO_9 := n0_; have HO_10 := n1_; have HO_11 := n2_; have BK255 := n3_; have HB := n4_; clear n0_ n1_ n2_ n3_ n4_; clear hg hw hp_) | ((with_reducible refine gate_callee (f := 69) rfl ?_); refine goesL_ (some 84) rfl rfl Try.func69 (by kernel_rfl) rfl #[.slice A0 l0.length c0, .int .i64 t268, .int .i64 x19_29] rfl (by (try simp only [List.map_toArray, List.map_cons, List.map_nil]); first | done | rfl | (simp only [List.length_drop, List.length_take]; rfl)) ?_; (with_reducible refine (spec_l4Shares.calls kj29 _ _ l0 t268 x19_29 t272 _ ?side1 ?side2 A40.out).mono ?_); (case side1 => repeat (first | exact (Kd.C_below HR0.out HB.out) | (with_reducible refine Kd.C_alloc ?_ _) | (with_reducible refine Kd.C_drewN ?_ _) | (with_reducible refine Kd.C_drew ?_))); (case side2 => exact HC0.out); rintro e w43 ⟨v273, rfl, ho0, hb⟩; refine ⟨_, rfl, ?_⟩; have n0_ := z0i (Kd.R_elder' (by (with_reducible repeat (first | apply z8i | apply z9i | apply y1i)); exact HO_9.out) (Kd.R_base ho0) hb); have n1_ := z0i (Kd.R_elder' (by (with_reducible repeat (first | apply z8i | apply z9i | apply y1i)); exact HO_10.out) (Kd.R_base ho0) hb); have n2_ := z0i (Kd.R_elder' (by (with_reducible repeat (first | apply z8i | apply z9i | apply y1i)); exact HO_11.out) (Kd.R_base ho0) hb); have n3_ := z0i (Kd.R_lower (Kd.R_new' (Kd.R_new' (Kd.R_new' ho0 (Kd.R_lt (by (with_reducible repeat (first | apply z8i | apply z9i | apply y1i)); exact HO_9.out))) (Kd.R_lt (by (with_reducible repeat (first | apply z8i | apply z9i | apply y1i)); exact HO_10.out))) (Kd.R_lt (by (with_reducible repeat (first | apply z8i | apply z9i | apply y1i)); exact HO_11.out))) (below_size (by repeat (first | (with_reducible first | exact HB.out | apply z4i | apply z5i | apply z6i | refine z7i ?_ GE255.out) | exact HB.out)))); have n4_ := z0i (blk_below (g := gb255) (o := .cells #[.int .i64 a1_0, .int .i64 a1_1, .slice A1_2 l1_2.length c1_2] 31 (0, 0)) (by (with_reducible repeat (first | refine z1i ?_ _ | refine z3i ?_ | refine z2i ?_ _)); exact BK255.out) hb); have n5_ := z0i (below_step (by repeat (first | (with_reducible first | exact HB.out | apply z4i | apply z5i | apply z6i | refine z7i ?_ GE255.out) | exact HB.out)) hb); clear HO_9; clear HO_10; clear HO_11; clear BK255; clear HB; have HO_9 := n0_; have HO_10 := n1_; have HO_11 := n2_; have HO274 := n3_; have BK255 := n4_; have HB := n5_; clear n0_ n1_ n2_ n3_ n4_ n5_; (try clear hb); (try clear ho0); obtain ⟨Ao44, co44, eo44⟩ := Kd.R_slice HO274.out; subst eo44))
                  go_loopg [13, 86] kj29 (fun kq v13 v86 w' => ∃ (x9_5 : List Int) (x13_5 : Int) (x86_5 : Int), v13 = .int .i64 x13_5 ∧ v86 = .int .i64 x86_5 ∧ Aside0 (spec_l4Run.l1 kq l0 a2 x9_5 x10_29 y271 t268 x13_5 (wrap64 (Int.tdiv x38_1 a1_0)) x16_23 x17_23 (y259.length : Int) x38_1 t272 (t272.length : Int) x86_5 a1_0 a1_1 l1_2 = some (r1, r2, r3)) ∧ Aside0 (kq ≤ kj29) ∧ Aside0 (Kd.R (Kd.int .i64) 3 w' w.heap.size (fun k_ => some k_ ≠ (v263 : Value).ownBlock ∧ some k_ ≠ ((.slice (some ⟨go39, 0, none⟩) x11_1.length co39) : Value).ownBlock ∧ some k_ ≠ ((.slice Ao44 t272.length co44) : Value).ownBlock) (.slice (some ad269) x9_1.length co13) x9_5) ∧ Aside0 (Kd.R (Kd.int .i64) 3 w' w.heap.size (fun k_ => some k_ ≠ ((.slice (some ad269) x9_1.length co13) : Value).ownBlock ∧ some k_ ≠ ((.slice (some ⟨go39, 0, none⟩) x11_1.length co39) : Value).ownBlock ∧ some k_ ≠ ((.slice Ao44 t272.length co44) : Value).ownBlock) v263 x10_29) ∧ Aside0 (Kd.R (Kd.int .i64) 3 w' w.heap.size (fun k_ => some k_ ≠ ((.slice (some ad269) x9_1.length co13) : Value).ownBlock ∧ some k_ ≠ (v263 : Value).ownBlock ∧ some k_ ≠ ((.slice Ao44 t272.length co44) : Value).ownBlock) (.slice (some ⟨go39, 0, none⟩) x11_1.length co39) y271) ∧ Aside0 (Kd.R (Kd.int .i64) 3 w' w.heap.size (fun k_ => some k_ ≠ ((.slice (some ad269) x9_1.length co13) : Value).ownBlock ∧ some k_ ≠ (v263 : Value).ownBlock ∧ some k_ ≠ ((.slice (some ⟨go39, 0, none⟩) x11_1.length co39) : Value).ownBlock) (.slice Ao44 t272.length co44) t272) ∧ Aside0 (w'.heap[gb255]? = some (.cells #[.int .i64 a1_0, .int .i64 a1_1, (.slice A1_2 l1_2.length c1_2)] 31 (0, 0))) ∧ Aside0 (Below w.heap.size w w'))
                  case atStart => exact ⟨(x9_1), (x13_1), (0), (by first | rfl | (simp; done) | (simp [*]; done)), (by first | rfl | (simp; done) | (simp [*]; done)), H', ⟨Nat.le_refl _⟩, ⟨by (try simp only [hl9_1]); (with_reducible repeat (first | apply z8i | apply z9i | apply y1i)); exact x6i HO_9.out (fun _ hk => ⟨hk.1.1, ⟨hk.1.2, hk.2⟩⟩)⟩, ⟨by (try simp only [hl9_1]); (with_reducible repeat (first | apply z8i | apply z9i | apply y1i)); exact x6i HO_10.out (fun _ hk => ⟨hk.1.1, ⟨hk.1.2, hk.2⟩⟩)⟩, ⟨by (try simp only [hl9_1]); (with_reducible repeat (first | apply z8i | apply z9i | apply y1i)); exact x6i HO_11.out (fun _ hk => ⟨hk.1.1, ⟨hk.1.2, hk.2⟩⟩)⟩, ⟨by (try simp only [hl9_1]); (with_reducible repeat (first | apply z8i | apply z9i | apply y1i)); exact x6i HO274.out (fun _ hk => ⟨hk.1.1.2, ⟨hk.1.2, hk.2⟩⟩)⟩, ⟨by (try simp only [hl9_1]); (with_reducible repeat (first | refine z1i ?_ _ | refine z3i ?_ | refine z2i ?_ _)); exact BK255.out⟩, ⟨by repeat (first | (with_reducible first | exact HB.out | apply z4i | apply z5i | apply z6i | refine z7i ?_ GE255.out) | exact HB.out)⟩⟩
                  case round =>
                   clear H'
                   try clear c1
                   try clear c2
                   try clear p2
                   try clear q2
                   try clear hx2
                   try clear c3
                   try clear p3
                   try clear q3
                   try clear hx3
                   try clear hf3
                   try clear c4
                   try clear c5
                   try clear c5b0
                   try clear c5b1
                   try clear c6
                   try clear c6b0
                   try clear c6b1
                   try clear p6
                   try clear c19
                   try clear c19b0
                   try clear c20
                   try clear c20b0
                   try clear c20b1
                   try clear c23
                   try clear c25
                   try clear p26
                   try clear q26
                   try clear hx26
                   try clear c28
                   try clear c28b0
                   try clear c29
                   try clear c29b0
                   try clear c32
                   try clear c32b0
                   try clear c33
                   try clear c33b0
                   try clear p34
                   try clear q34
                   try clear hx34
                   try clear hf34
                   try clear c37
                   try clear c37b0
                   try clear c38
                   try clear c38b0
                   try clear p39
                   try clear q39
                   try clear hx39
                   try clear hf39
                   try clear hcz11_0
                   try clear hcz11_1
                   try clear hcz11_2
                   try clear hcz22_0
                   try clear hcz22_1
                   try clear hcz22_2
                   try clear hcz26_0
                   try clear hcz26_1
                   try clear hcz26_2
                   try clear hcz31_0
                   try clear hcz31_1
                   try clear hcz31_2
                   try clear hfz11_0
                   try clear hfz11_1
                   try clear hfz11_2
                   try clear hfz22_0
                   try clear hfz22_1
                   try clear hfz22_2
                   try clear hfz26_0
                   try clear hfz26_1
                   try clear hfz26_2
                   try clear hfz31_0
                   try clear hfz31_1
                   try clear hfz31_2
                   try clear hx269_0
                   try clear hx34_0
                   try clear hx39_0
                   try clear p2
                   try clear p26
                   try clear p269
                   try clear p3
                   try clear p34
                   try clear p39
                   try clear p6
                   try clear q2
                   try clear q26
                   try clear q269
                   try clear q3
                   try clear q34
                   try clear q39
                   obtain ⟨x9_5, x13_5, x86_5, rfl, rfl, HA, HK5, HO_9, HO_10, HO_11, HO_84, BK255, HB⟩ := hrel
                   have hl9_5 := (Kd.R_reads' HO_9.out).1
                   rw [hl9_5] at HO_9
                   (try simp only [hl9_5])
                   (try simp only [hl9_5] at BK255)
                   (try simp only [hl9_5] at HO_10)
                   (try simp only [hl9_5] at HO_11)
                   (try simp only [hl9_5] at HO_84)
                   have hl11_5 := (Kd.R_reads' HO_11.out).1
                   rw [hl11_5] at HO_11
                   (try simp only [hl11_5])
                   (try simp only [hl11_5] at BK255)
                   (try simp only [hl11_5] at HO_9)
                   (try simp only [hl11_5] at HO_10)
                   (try simp only [hl11_5] at HO_84)
                   cases gk with
                   | zero => exact absurd HA.out (by simp [spec_l4Run.l1])
                   | succ k5 =>
                    have H := HA.out
                    clear HA
                    simp only [spec_l4Run.l1] at H
                    by_cases c45 : x86_5 < (t272.length : Int)
                    ·rw [if_pos c45] at H
                     have c45b0 : decide (x86_5 < (t272.length : Int)) = true := decide_eq_true c45
                     clear c45
                     by_cases c46 : 0 ≤ x86_5
                     ·rw [if_pos c46] at H
                      have c46b0 : decide (0 ≤ x86_5) = true := decide_eq_true c46
                      clear c46
                      by_cases c47 : x86_5 < (t272.length : Int)
                      ·rw [if_pos c47] at H
                       have c47b0 : decide (x86_5 < (t272.length : Int)) = true := decide_eq_true c47
                       clear c47
                       by_cases c48 : x86_5 < (l0.length : Int)
                       ·rw [if_pos c48] at H
                        have c48b0 : decide (x86_5 < (l0.length : Int)) = true := decide_eq_true c48
                        clear c48
                        replace H := Option.bind_eq_some_iff.mp H
                        obtain ⟨t278, A490, H⟩ := H
                        replace H : (if t278 = true then (if (wrap64 ((wrap64 (Int.tdiv x38_1 a1_0)) + ((rd_T60 l0 x86_5).f1))) < a1_1 then (if 0 ≤ (wrap64 ((wrap64 ((wrap64 ((wrap64 (Int.tdiv x38_1 a1_0)) + ((rd_T60 l0 x86_5).f1))) * a1_0)) + (wrap64 (x16_23 + (wrap64 (x17_23 * ((rd_T60 l0 x86_5).f0))))))) then (if (wrap64 ((wrap64 ((wrap64 ((wrap64 (Int.tdiv x38_1 a1_0)) + ((rd_T60 l0 x86_5).f1))) * a1_0)) + (wrap64 (x16_23 + (wrap64 (x17_23 * ((rd_T60 l0 x86_5).f0))))))) < (x9_5.length : Int) then (spec_l4Run.l1 k5 l0 a2 (x9_5.set ((wrap64 ((wrap64 ((wrap64 ((wrap64 (Int.tdiv x38_1 a1_0)) + ((rd_T60 l0 x86_5).f1))) * a1_0)) + (wrap64 (x16_23 + (wrap64 (x17_23 * ((rd_T60 l0 x86_5).f0))))))) : Int).toNat (wrap64 ((rd x9_5 (wrap64 ((wrap64 ((wrap64 ((wrap64 (Int.tdiv x38_1 a1_0)) + ((rd_T60 l0 x86_5).f1))) * a1_0)) + (wrap64 (x16_23 + (wrap64 (x17_23 * ((rd_T60 l0 x86_5).f0)))))))) + (rd t272 x86_5)))) x10_29 y271 t268 x13_5 (wrap64 (Int.tdiv x38_1 a1_0)) x16_23 x17_23 (y259.length : Int) x38_1 t272 (t272.length : Int) (wrap64 (x86_5 + 1)) a1_0 a1_1 l1_2) else (none)) else (none)) else (spec_l4Run.l1 k5 l0 a2 x9_5 x10_29 y271 t268 (wrap64 (x13_5 + (rd t272 x86_5))) (wrap64 (Int.tdiv x38_1 a1_0)) x16_23 x17_23 (y259.length : Int) x38_1 t272 (t272.length : Int) (wrap64 (x86_5 + 1)) a1_0 a1_1 l1_2)) else (spec_l4Run.l1 k5 l0 a2 x9_5 x10_29 y271 t268 (wrap64 (x13_5 + (rd t272 x86_5))) (wrap64 (Int.tdiv x38_1 a1_0)) x16_23 x17_23 (y259.length : Int) x38_1 t272 (t272.length : Int) (wrap64 (x86_5 + 1)) a1_0 a1_1 l1_2)) = some (r1, r2, r3) := H
                        have A49 := z0i A490
                        clear A490
                        by_cases c50 : t278 = true
                        ·subst c50
                         have H1 : (if (wrap64 ((wrap64 (Int.tdiv x38_1 a1_0)) + ((rd_T60 l0 x86_5).f1))) < a1_1 then (if 0 ≤ (wrap64 ((wrap64 ((wrap64 ((wrap64 (Int.tdiv x38_1 a1_0)) + ((rd_T60 l0 x86_5).f1))) * a1_0)) + (wrap64 (x16_23 + (wrap64 (x17_23 * ((rd_T60 l0 x86_5).f0))))))) then (if (wrap64 ((wrap64 ((wrap64 ((wrap64 (Int.tdiv x38_1 a1_0)) + ((rd_T60 l0 x86_5).f1))) * a1_0)) + (wrap64 (x16_23 + (wrap64 (x17_23 * ((rd_T60 l0 x86_5).f0))))))) < (x9_5.length : Int) then (spec_l4Run.l1 k5 l0 a2 (x9_5.set ((wrap64 ((wrap64 ((wrap64 ((wrap64 (Int.tdiv x38_1 a1_0)) + ((rd_T60 l0 x86_5).f1))) * a1_0)) + (wrap64 (x16_23 + (wrap64 (x17_23 * ((rd_T60 l0 x86_5).f0))))))) : Int).toNat (wrap64 ((rd x9_5 (wrap64 ((wrap64 ((wrap64 ((wrap64 (Int.tdiv x38_1 a1_0)) + ((rd_T60 l0 x86_5).f1))) * a1_0)) + (wrap64 (x16_23 + (wrap64 (x17_23 * ((rd_T60 l0 x86_5).f0)))))))) + (rd t272 x86_5)))) x10_29 y271 t268 x13_5 (wrap64 (Int.tdiv x38_1 a1_0)) x16_23 x17_23 (y259.length : Int) x38_1 t272 (t272.length : Int) (wrap64 (x86_5 + 1)) a1_0 a1_1 l1_2) else (none)) else (none)) else (spec_l4Run.l1 k5 l0 a2 x9_5 x10_29 y271 t268 (wrap64 (x13_5 + (rd t272 x86_5))) (wrap64 (Int.tdiv x38_1 a1_0)) x16_23 x17_23 (y259.length : Int) x38_1 t272 (t272.length : Int) (wrap64 (x86_5 + 1)) a1_0 a1_1 l1_2)) = some (r1, r2, r3) := by rw [if_pos rfl] at H; first | exact H | (simp only [if_true] at H ⊢; exact H)
                         clear H
                         have H := H1
                         clear H1
                         by_cases c51 : (wrap64 ((wrap64 (Int.tdiv x38_1 a1_0)) + ((rd_T60 l0 x86_5).f1))) < a1_1
                         ·rw [if_pos c51] at H
                          have c51b0 : decide ((wrap64 ((wrap64 (Int.tdiv x38_1 a1_0)) + ((rd_T60 l0 x86_5).f1))) < a1_1) = true := decide_eq_true c51
                          clear c51
                          obtain ⟨ji52, hji52⟩ : ∃ j_ : Int, (wrap64 ((wrap64 ((wrap64 ((wrap64 (Int.tdiv x38_1 a1_0)) + ((rd_T60 l0 x86_5).f1))) * a1_0)) + (wrap64 (x16_23 + (wrap64 (x17_23 * ((rd_T60 l0 x86_5).f0))))))) = j_ := ⟨_, rfl⟩
                          replace H : (if 0 ≤ (ji52) then (if (ji52) < (x9_5.length : Int) then (spec_l4Run.l1 k5 l0 a2 (x9_5.set ((ji52) : Int).toNat (wrap64 ((rd x9_5 (ji52)) + (rd t272 x86_5)))) x10_29 y271 t268 x13_5 (wrap64 (Int.tdiv x38_1 a1_0)) x16_23 x17_23 (y259.length : Int) x38_1 t272 (t272.length : Int) (wrap64 (x86_5 + 1)) a1_0 a1_1 l1_2) else (none)) else (none)) = some (r1, r2, r3) := by first | (rw [hji52] at H; exact H) | (simp only [hji52] at H ⊢; exact H)
                          (try rw [hji52] at A49)
                          have hji52w : (IntKind.i64.wrap ((wrap64 ((wrap64 ((wrap64 (Int.tdiv x38_1 a1_0)) + ((rd_T60 l0 x86_5).f1))) * a1_0)) + (wrap64 (x16_23 + (wrap64 (x17_23 * ((rd_T60 l0 x86_5).f0))))))) = ji52 := (i64_w _).trans hji52
                          by_cases c53 : 0 ≤ (ji52)
                          ·rw [if_pos c53] at H
                           have c53b0 : decide (0 ≤ (ji52)) = true := decide_eq_true c53
                           clear c53
                           by_cases c54 : (ji52) < (x9_5.length : Int)
                           ·rw [if_pos c54] at H
                            have c54b0 : decide ((ji52) < (x9_5.length : Int)) = true := decide_eq_true c54
                            clear c54
                            obtain ⟨y280, hy280⟩ : ∃ y_ : List Int, y_ = (x9_5.set ((ji52) : Int).toNat (wrap64 ((rd x9_5 (ji52)) + (rd t272 x86_5)))) := ⟨_, rfl⟩
                            replace H : (spec_l4Run.l1 k5 l0 a2 y280 x10_29 y271 t268 x13_5 (wrap64 (Int.tdiv x38_1 a1_0)) x16_23 x17_23 (y259.length : Int) x38_1 t272 (t272.length : Int) (wrap64 (x86_5 + 1)) a1_0 a1_1 l1_2) = some (r1, r2, r3) := by first | (rw [hy280]; with_reducible exact H) | (have H2_ := (Option.bind_some _ _).symm.trans H; rw [hy280]; with_reducible exact H2_) | (have H2_ := (Option.bind_some _ _).symm.trans H; with_reducible exact H2_) | with_reducible exact H | (rw [hy280]; exact H) | exact H
                            have Ny280 := z0i hy280
                            clear hy280
                            have H' := z0i H
                            clear H
                            have p275 : 0 ≤ (x86_5 : Int) := of_decide_eq_true (by first | (with_reducible assumption) | assumption)
                            have q275 : x86_5 < (t272.length : Int) := of_decide_eq_true (by first | (with_reducible assumption) | assumption)
                            obtain ⟨ad275, e275, hx275_0⟩ := Kd.at_int (Kd.R_reads' HO_84.out).2.2 x86_5 p275 q275
                            cases e275
                            replace p275 := eq_true p275
                            replace q275 := eq_true q275
                            have p276 : 0 ≤ (x86_5 : Int) := of_decide_eq_true (by first | (with_reducible assumption) | assumption)
                            have q276 : x86_5 < (l0.length : Int) := of_decide_eq_true (by first | (with_reducible assumption) | assumption)
                            obtain ⟨ad276, e276, hx276_0, hx276_1, hx276_2⟩ := at_T60 HR0.out x86_5 p276 q276
                            cases e276
                            replace hx276_0 := (HB.out.cell (World.block_lt_of_cell? w _ hx276_0)).trans hx276_0
                            replace hx276_1 := (HB.out.cell (World.block_lt_of_cell? w _ hx276_1)).trans hx276_1
                            replace hx276_2 := (HB.out.cell (World.block_lt_of_cell? w _ hx276_2)).trans hx276_2
                            replace p276 := eq_true p276
                            replace q276 := eq_true q276
                            have p277 : 0 ≤ (x86_5 : Int) := of_decide_eq_true (by first | (with_reducible assumption) | assumption)
                            have q277 : x86_5 < (l0.length : Int) := of_decide_eq_true (by first | (with_reducible assumption) | assumption)
                            obtain ⟨ad277, e277, hx277_0, hx277_1, hx277_2⟩ := at_T60 HR0.out x86_5 p277 q277
                            obtain rfl : ad276 = ad277 := (by injection e277)
                            replace hx277_0 := (HB.out.cell (World.block_lt_of_cell? w _ hx277_0)).trans hx277_0
                            replace hx277_1 := (HB.out.cell (World.block_lt_of_cell? w _ hx277_1)).trans hx277_1
                            replace hx277_2 := (HB.out.cell (World.block_lt_of_cell? w _ hx277_2)).trans hx277_2
                            replace p277 := eq_true p277
                            replace q277 := eq_true q277
                            have hcz56_0 : wr.cell? ⟨gb255, 0, none⟩ = some (.int .i64 a1_0) := (x3i BK255.out 0).trans rfl
                            have hcz56_1 : wr.cell? ⟨gb255, 1, none⟩ = some (.int .i64 a1_1) := (x3i BK255.out 1).trans rfl
                            have hcz56_2 : wr.cell? ⟨gb255, 2, none⟩ = some (.slice A1_2 l1_2.length c1_2) := (x3i BK255.out 2).trans rfl
                            have hfz56_0 := x2i BK255.out 0
                            have hfz56_1 := x2i BK255.out 1
                            have hfz56_2 := x2i BK255.out 2
                            try go_wp2_with (first | ((with_reducible refine gate_callee (f := 53) rfl ?_); refine goesL_ (some 111) rfl rfl Try.func53 (by kernel_rfl) rfl #[.int .i64 (wrap64 (x16_23 + (wrap64 (x17_23 * ((rd_T60 l0 x86_5).f0))))), .int .i64 0, .int .i64 (wrap64 (a1_0 - 1))] rfl (by (try simp only [List.map_toArray, List.map_cons, List.map_nil]); first | done | rfl | (simp only [List.length_drop, List.length_take]; rfl)) ?_; (with_reducible refine (spec_l1In.calls (wrap64 (x16_23 + (wrap64 (x17_23 * ((rd_T60 l0 x86_5).f0))))) 0 (wrap64 (a1_0 - 1)) true _ A49.out).mono ?_); rintro e w' ⟨rfl, ⟨nd, rfl⟩⟩; refine ⟨_, rfl, ?_⟩; (try (rw [drewN_self wr]; generalize hq_ : World.drewN wr _ = wr; have n0_ : Aside0 (Kd.R (Kd.int .i64) 3 wr w.heap.size (fun k_ => some k_ ≠ (.slice (some ⟨go39, 0, none⟩) y271.length co39 : Value).ownBlock ∧ some k_ ≠ (.slice (some ad275) t272.length co44 : Value).ownBlock ∧ some k_ ≠ (.slice (some ad269) x9_5.length co13 : Value).ownBlock) v263 x10_29) := ⟨by rw [← hq_]; exact (by (with_reducible repeat (first | apply z8i | apply z9i | apply y1i)); exact x6i HO_10.out (fun _ hk => ⟨hk.2.1, ⟨hk.2.2, hk.1⟩⟩))⟩; have n1_ : Aside0 (Kd.R (Kd.int .i64) 3 wr w.heap.size (fun k_ => some k_ ≠ (v263 : Value).ownBlock ∧ some k_ ≠ (.slice (some ad275) t272.length co44 : Value).ownBlock ∧ some k_ ≠ (.slice (some ad269) x9_5.length co13 : Value).ownBlock) (.slice (some ⟨go39, 0, none⟩) y271.length co39) y271) := ⟨by rw [← hq_]; exact (by (with_reducible repeat (first | apply z8i | apply z9i | apply y1i)); exact x6i HO_11.out (fun _ hk => ⟨hk.2.1, ⟨hk.2.2, hk.1⟩⟩))⟩; have n2_ : Aside0 (Kd.R (Kd.int .i64) 3 wr w.heap.size (fun k_ => some k_ ≠ (v263 : Value).ownBlock ∧ some k_ ≠ (.slice (some ⟨go39, 0, none⟩) y271.length co39 : Value).ownBlock ∧ some k_ ≠ (.slice (some ad269) x9_5.length co13 : Value).ownBlock) (.slice (some ad275) t272.length co44) t272) := ⟨by rw [← hq_]; exact (by (with_reducible repeat (first | apply z8i | apply z9i | apply y1i)); exact x6i HO_84.out (fun _ hk => ⟨hk.2.1, ⟨hk.2.2, hk.1⟩⟩))⟩; have n3_ : Aside0 (Kd.R (Kd.int .i64) 3 wr w.heap.size (fun k_ => some k_ ≠ (v263 : Value).ownBlock ∧ some k_ ≠ (.slice (some ⟨go39, 0, none⟩) y271.length co39 : Value).ownBlock ∧ some k_ ≠ (.slice (some ad275) t272.length co44 : Value).ownBlock) (.slice (some ad269) x9_5.length co13) x9_5) := ⟨by rw [← hq_]; exact (by (with_reducible repeat (first | apply z8i | apply z9i | apply y1i)); exact HO_9.out)⟩; have n4_ : Aside0 (wr.heap[gb255]? = some (.cells #[.int .i64 a1_0, .int .i64 a1_1, .slice A1_2 l1_2.length c1_2] 31 (0, 0))) := ⟨by rw [← hq_]; exact (by (with_reducible repeat (first | refine z1i ?_ _ | refine z3i ?_ | refine z2i ?_ _)); exact BK255.out)⟩; have n5_ : Aside0 (Below w.heap.size w wr) := ⟨by rw [← hq_]; exact (by repeat (first | (with_reducible first | exact HB.out | apply z4i | apply z5i | apply z6i | refine z7i ?_ GE255.out) | exact HB.out))⟩; clear HO_10 HO_11 HO_84 HO_9 BK255 HB hq_; have HO_10 := n0_; have HO_11 := n1_; have HO_84 := n2_; have HO_9 := n3_; have BK255 := n4_; have HB := n5_; clear n0_ n1_ n2_ n3_ n4_ n5_)); have hcz57_0 : wr.cell? ⟨gb255, 0, none⟩ = some (.int .i64 a1_0) := (x3i BK255.out 0).trans rfl; have hcz57_1 : wr.cell? ⟨gb255, 1, none⟩ = some (.int .i64 a1_1) := (x3i BK255.out 1).trans rfl; have hcz57_2 : wr.cell? ⟨gb255, 2, none⟩ = some (.slice A1_2 l1_2.length c1_2) := (x3i BK255.out 2).trans rfl; have hfz57_0 := x2i BK255.out 0; have hfz57_1 := x2i BK255.out 1; have hfz57_2 := x2i BK255.out 2))
                            have n0_ := z0i (y1i HO_9.out)
                            have n1_ := z0i (y1i HO_10.out)
                            have n2_ := z0i (y1i HO_11.out)
                            have n3_ := z0i (y1i HO_84.out)
                            have n4_ := z0i (z3i BK255.out)
                            have n5_ := z0i (z6i HB.out)
                            clear HO_9
                            clear HO_10
                            clear HO_11
                            clear HO_84
                            clear BK255
                            clear HB
                            have HO_9 := n0_
                            have HO_10 := n1_
                            have HO_11 := n2_
                            have HO_84 := n3_
                            have BK255 := n4_
                            have HB := n5_
                            clear n0_ n1_ n2_ n3_ n4_ n5_
                            have p279 : 0 ≤ ((ji52) : Int) := of_decide_eq_true (by first | (with_reducible assumption) | assumption)
                            have q279 : (ji52) < (x9_5.length : Int) := of_decide_eq_true (by first | (with_reducible assumption) | assumption)
                            obtain ⟨ad279, e279, hx279_0⟩ := Kd.at_int (Kd.R_reads' HO_9.out).2.2 (ji52) p279 q279
                            obtain rfl : ad269 = ad279 := (by injection e279)
                            replace p279 := eq_true p279
                            replace q279 := eq_true q279
                            have p55 : 0 ≤ ((ji52) : Int) := of_decide_eq_true (by first | (with_reducible assumption) | assumption)
                            have q55 : ((ji52) : Int) < ((x9_5.length : Int) : Int) := of_decide_eq_true (by first | (with_reducible assumption) | assumption)
                            obtain ⟨go55, co55, eo55, gb55, gl55, cl55, HG55⟩ := Kd.R_form HO_9.out (by omega)
                            (first | cases eo55 | (injection eo55 with ea_ en_ ec_; (first | subst ea_ | (injection ea_ with ea_; subst ea_)); subst ec_; clear en_))
                            have GB55 := z0i gb55
                            have GG55 := z0i HG55
                            clear gb55 gl55 HG55
                            (first | simp only [add_plain] at hx269_0 | skip)
                            (first | simp only [add_plain] at hx279_0 | skip)
                            obtain ⟨hx55_0, hf55_0⟩ := Kd.R_celln 0 HO_9.out ((ji52) : Int) p55 q55
                            replace p55 := eq_true p55
                            replace q55 := eq_true q55
                            have HP59 := Kd.R_putn HO_9.out ((ji52) : Int) (wrap64 ((rd x9_5 (ji52)) + (rd t272 x86_5)))
                            rw [← Ny280.out] at HP59
                            have HQ59 := z0i HP59
                            clear HP59
                            refine start_ (n := 20) (S := fun w' => w'.cell? ⟨gb255, 0, none⟩ = some (.int .i64 a1_0) ∧ w'.cell? ⟨gb255, 1, none⟩ = some (.int .i64 a1_1) ∧ w'.cell? ⟨gb255, 2, none⟩ = some (.slice A1_2 l1_2.length c1_2) ∧ w'.cell? ⟨go55, ((ji52)).toNat, none⟩ = some (.int .i64 (rd x9_5 (ji52)))) (ds := [19]) (bsi_ 20 0) (by kernel_rfl) rfl rfl ⟨(x3i BK255.out 0).trans rfl, (x3i BK255.out 1).trans rfl, (x3i BK255.out 2).trans rfl, hx279_0⟩ (fun hHeld => ?_); refine with_tabW spec_l4Run.tab27 spec_l4Run.bits27 (fun HT_ HW_ => ?_)
                            generalize wr.drew = w58 at HO_9 HO_10 HO_11 HO_84 BK255 HB GG55 HQ59 hf55_0 hx279_0 hx55_0 hHeld ⊢
                            refine pure_ (i := 0) (N := some 118) (v := ?_) (a' := ?_) (bsi_ 20 1) rfl rfl (any_of HT_.out (by kernel_rfl)) (fun _ _ _ h => h) (Or.inl ⟨by rfl, ?_⟩) ?_ ?_
                            rotate_left
                            ·intro w'
                             go_simp
                             with_reducible rfl
                            rotate_left
                            ·simp only [Act.put, s1i_, s2i_, s3i_, i64_w, i32_w]
                             rfl
                            refine pure_ (i := 1) (N := some 119) (v := ?_) (a' := ?_) (bsi_ 20 3) rfl rfl (any_of HT_.out (by kernel_rfl)) (fun _ _ _ h => h) (Or.inl ⟨by rfl, ?_⟩) ?_ ?_
                            rotate_left
                            ·intro w'
                             go_simp
                             with_reducible rfl
                            rotate_left
                            ·simp only [Act.put, s1i_, s2i_, s3i_, i64_w, i32_w]
                             rfl
                            refine pure_ (i := 2) (N := some 120) (v := ?_) (a' := ?_) (bsi_ 20 7) rfl rfl (any_of HT_.out (by kernel_rfl)) (fun _ _ _ h => h) (Or.inl ⟨by rfl, ?_⟩) ?_ ?_
                            rotate_left
                            ·intro w'
                             go_simp
                             with_reducible rfl
                            rotate_left
                            ·simp only [Act.put, s1i_, s2i_, s3i_, i64_w, i32_w]
                             rfl
                            refine pure_ (i := 5) (N := some 123) (v := ?_) (a' := ?_) (bsi_ 20 39) rfl rfl (any_of HT_.out (by kernel_rfl)) (fun _ _ _ h => h) (Or.inl ⟨by rfl, ?_⟩) ?_ ?_
                            rotate_left
                            ·intro w'
                             go_simp
                             with_reducible rfl
                            rotate_left
                            ·simp only [Act.put, s1i_, s2i_, s3i_, i64_w, i32_w]
                             rfl
                            refine pure_ (i := 7) (N := some 125) (v := ?_) (a' := ?_) (bsi_ 20 167) rfl rfl (any_of HT_.out (by kernel_rfl)) (fun _ _ _ h => h) (Or.inl ⟨by rfl, ?_⟩) ?_ ?_
                            rotate_left
                            ·intro w'
                             go_simp
                             with_reducible rfl
                            rotate_left
                            ·simp only [Act.put, s1i_, s2i_, s3i_, i64_w, i32_w]
                             rfl
                            refine pure_ (i := 8) (N := some 126) (v := ?_) (a' := ?_) (bsi_ 20 423) rfl rfl (any_of HT_.out (by kernel_rfl)) (fun _ _ _ h => h) (Or.inl ⟨by rfl, ?_⟩) ?_ ?_
                            rotate_left
                            ·intro w'
                             go_simp
                             with_reducible rfl
                            rotate_left
                            ·simp only [Act.put, s1i_, s2i_, s3i_, i64_w, i32_w]
                             rfl
                            refine pure_ (i := 9) (N := some 127) (v := ?_) (a' := ?_) (bsi_ 20 935) rfl rfl (any_of HT_.out (by kernel_rfl)) (fun _ _ _ h => h) (Or.inl ⟨by rfl, ?_⟩) ?_ ?_
                            rotate_left
                            ·intro w'
                             go_simp
                             with_reducible rfl
                            rotate_left
                            ·simp only [Act.put, s1i_, s2i_, s3i_, i64_w, i32_w]
                             rfl
                            refine pure_ (i := 12) (N := some 130) (v := ?_) (a' := ?_) (bsi_ 20 5031) rfl rfl (any_of HT_.out (by kernel_rfl)) (fun _ _ _ h => h) (Or.inl ⟨by rfl, ?_⟩) ?_ ?_
                            rotate_left
                            ·intro w'
                             go_simp
                             with_reducible rfl
                            rotate_left
                            ·simp only [Act.put, s1i_, s2i_, s3i_, i64_w, i32_w]
                             rfl
                            refine pure_ (i := 16) (N := some 134) (v := ?_) (a' := ?_) (bsi_ 20 70567) rfl rfl (any_of HT_.out (by kernel_rfl)) (fun _ _ _ h => h) (Or.inl ⟨by rfl, ?_⟩) ?_ ?_
                            rotate_left
                            ·intro w'
                             go_simp
                             with_reducible rfl
                            rotate_left
                            ·simp only [Act.put, s1i_, s2i_, s3i_, i64_w, i32_w]
                             rfl
                            refine take_ (i := 3) (N := some 121) (v := ?_) (a' := ?_) (bsi_ 20 70575) rfl rfl (take_ofW HT_.out HW_.out (by kernel_rfl)) (fun _ _ _ h => h) (Or.inl ⟨by rfl, ?_⟩) hHeld ?_ ?_
                            rotate_left
                            ·rintro w' ⟨s0, s1, s2, s3⟩
                             go_simp
                             with_reducible rfl
                            rotate_left
                            ·simp only [Act.put, s1i_, s2i_, s3i_, i64_w, i32_w]
                             rfl
                            refine pure_ (i := 4) (N := some 122) (v := ?_) (a' := ?_) (bsi_ 20 70591) rfl rfl (any_of HT_.out (by kernel_rfl)) (fun _ _ _ h => h) (Or.inl ⟨by rfl, ?_⟩) ?_ ?_
                            rotate_left
                            ·intro w'
                             go_simp
                             with_reducible rfl
                            rotate_left
                            ·simp only [Act.put, s1i_, s2i_, s3i_, i64_w, i32_w]
                             rfl
                            refine pure_ (i := 6) (N := some 124) (v := ?_) (a' := ?_) (bsi_ 20 70655) rfl rfl (any_of HT_.out (by kernel_rfl)) (fun _ _ _ h => h) (Or.inl ⟨by rfl, ?_⟩) ?_ ?_
                            rotate_left
                            ·intro w'
                             go_simp
                             with_reducible rfl
                            rotate_left
                            ·simp only [Act.put, s1i_, s2i_, s3i_, i64_w, i32_w]
                             rfl
                            refine take_ (i := 10) (N := some 128) (v := ?_) (a' := ?_) (bsi_ 20 71679) rfl rfl (take_ofW HT_.out HW_.out (by kernel_rfl)) (fun _ _ _ h => h) (Or.inl ⟨by rfl, ?_⟩) hHeld ?_ ?_
                            rotate_left
                            ·rintro w' ⟨s0, s1, s2, s3⟩
                             go_simp
                             with_reducible rfl
                            rotate_left
                            ·simp only [Act.put, s1i_, s2i_, s3i_, i64_w, i32_w]
                             rfl
                            refine pure_ (i := 11) (N := some 129) (v := ?_) (a' := ?_) (bsi_ 20 73727) rfl rfl (any_of HT_.out (by kernel_rfl)) (fun _ _ _ h => h) (Or.inl ⟨by rfl, ?_⟩) ?_ ?_
                            rotate_left
                            ·intro w'
                             go_simp
                             with_reducible rfl
                            rotate_left
                            ·simp only [Act.put, s1i_, s2i_, s3i_, i64_w, i32_w]
                             rfl
                            refine pure_ (i := 13) (N := some 131) (v := ?_) (a' := ?_) (bsi_ 20 81919) rfl rfl (any_of HT_.out (by kernel_rfl)) (fun _ _ _ h => h) (Or.inl ⟨by rfl, ?_⟩) ?_ ?_
                            rotate_left
                            ·intro w'
                             go_simp
                             with_reducible rfl
                            rotate_left
                            ·simp only [Act.put, s1i_, s2i_, s3i_, i64_w, i32_w]
                             rfl
                            refine pure_ (i := 14) (N := some 132) (v := ?_) (a' := ?_) (bsi_ 20 98303) rfl rfl (any_of HT_.out (by kernel_rfl)) (fun _ _ _ h => h) (Or.inl ⟨by rfl, ?_⟩) ?_ ?_
                            rotate_left
                            ·intro w'
                             go_simp
                             with_reducible rfl
                            rotate_left
                            ·simp only [Act.put, s1i_, s2i_, s3i_, i64_w, i32_w]
                             rfl
                            refine take_ (i := 15) (N := some 133) (v := ?_) (a' := ?_) (bsi_ 20 131071) rfl rfl (take_ofW HT_.out HW_.out (by kernel_rfl)) (fun _ _ _ h => h) (Or.inl ⟨by rfl, ?_⟩) hHeld ?_ ?_
                            rotate_left
                            ·rintro w' ⟨s0, s1, s2, s3⟩
                             go_simp
                             with_reducible rfl
                            rotate_left
                            ·simp only [Act.put, s1i_, s2i_, s3i_, i64_w, i32_w]
                             rfl
                            refine pure_ (i := 17) (N := some 135) (v := ?_) (a' := ?_) (bsi_ 20 262143) rfl rfl (any_of HT_.out (by kernel_rfl)) (fun _ _ _ h => h) (Or.inl ⟨by rfl, ?_⟩) ?_ ?_
                            rotate_left
                            ·intro w'
                             go_simp
                             with_reducible rfl
                            rotate_left
                            ·simp only [Act.put, s1i_, s2i_, s3i_, i64_w, i32_w]
                             rfl
                            refine pure_ (i := 18) (N := some 136) (v := ?_) (a' := ?_) (bsi_ 20 524287) rfl rfl (any_of HT_.out (by kernel_rfl)) (fun _ _ _ h => h) (Or.inl ⟨by rfl, ?_⟩) ?_ ?_
                            rotate_left
                            ·intro w'
                             go_simp
                             with_reducible rfl
                            rotate_left
                            ·simp only [Act.put, s1i_, s2i_, s3i_, i64_w, i32_w]
                             rfl
                            refine last_ (i := 19) (N := none) (bsi_ 20 1048575) rfl rfl (one_of HT_.out (by kernel_rfl)) (by decide) (fun K hK => ?_)
                            refine skip_ (w1 := ?_) (by rfl) rfl ?_ ?_
                            rotate_left
                            ·go_simp
                             rfl
                            refine hK.out _ _ ?_
                            clear hK K
                            refine done_ (done_of HT_.out (by kernel_rfl)) ?_
                            try go_wp2
                            (try simp only [← hl9_5, ← hl11_5])
                            go_roundg k5
                            case measure => have := HK1.out; have := HJ20.out; have := HJ23.out; have := HJ29.out; have := HK5.out; omega
                            case rel => exact ⟨(y280), (x13_5), (wrap64 (x86_5 + 1)), (by first | rfl | (simp; done) | (simp [*]; done)), (by first | rfl | (simp; done) | (simp [*]; done)), H', ⟨by have := HK1.out; have := HJ20.out; have := HJ23.out; have := HJ29.out; have := HK5.out; omega⟩, ⟨by (try simp only [hl9_1]); (try simp only [hl9_5]); (try simp only [hl11_5]); (with_reducible repeat (first | apply z8i | apply z9i | apply y1i)); exact HQ59.out⟩, ⟨by (try simp only [hl9_1]); (try simp only [hl9_5]); (try simp only [hl11_5]); (with_reducible repeat (first | apply z8i | apply z9i | apply y1i)); exact x6i (Kd.R_far (p := ⟨go55, ((ji52) : Int).toNat, none⟩) (x6i HO_10.out (fun k_ hk => (⟨hk, fun e_ => by first | exact hk.1 (by rw [e_]; rfl) | exact hk.2.1 (by rw [e_]; rfl) | exact hk.2.2 (by rw [e_]; rfl) | exact hk.2 (by rw [e_]; rfl)⟩ : _ ∧ k_ ≠ go55))) (fun _ hk => hk.2) (.int .i64 (wrap64 ((rd x9_5 (ji52)) + (rd t272 x86_5))))) (fun _ hk => by obtain ⟨⟨a_, b_, c_⟩, _⟩ := hk; first | exact ⟨a_, b_, c_⟩ | exact ⟨c_, a_, b_⟩ | exact ⟨b_, c_, a_⟩ | exact ⟨a_, c_, b_⟩ | exact ⟨b_, a_, c_⟩ | exact ⟨c_, b_, a_⟩)⟩, ⟨by (try simp only [hl9_1]); (try simp only [hl9_5]); (try simp only [hl11_5]); (with_reducible repeat (first | apply z8i | apply z9i | apply y1i)); exact x6i (Kd.R_far (p := ⟨go55, ((ji52) : Int).toNat, none⟩) (x6i HO_11.out (fun k_ hk => (⟨hk, fun e_ => by first | exact hk.1 (by rw [e_]; rfl) | exact hk.2.1 (by rw [e_]; rfl) | exact hk.2.2 (by rw [e_]; rfl) | exact hk.2 (by rw [e_]; rfl)⟩ : _ ∧ k_ ≠ go55))) (fun _ hk => hk.2) (.int .i64 (wrap64 ((rd x9_5 (ji52)) + (rd t272 x86_5))))) (fun _ hk => by obtain ⟨⟨a_, b_, c_⟩, _⟩ := hk; first | exact ⟨a_, b_, c_⟩ | exact ⟨c_, a_, b_⟩ | exact ⟨b_, c_, a_⟩ | exact ⟨a_, c_, b_⟩ | exact ⟨b_, a_, c_⟩ | exact ⟨c_, b_, a_⟩)⟩, ⟨by (try simp only [hl9_1]); (try simp only [hl9_5]); (try simp only [hl11_5]); (with_reducible repeat (first | apply z8i | apply z9i | apply y1i)); exact x6i (Kd.R_far (p := ⟨go55, ((ji52) : Int).toNat, none⟩) (x6i HO_84.out (fun k_ hk => (⟨hk, fun e_ => by first | exact hk.1 (by rw [e_]; rfl) | exact hk.2.1 (by rw [e_]; rfl) | exact hk.2.2 (by rw [e_]; rfl) | exact hk.2 (by rw [e_]; rfl)⟩ : _ ∧ k_ ≠ go55))) (fun _ hk => hk.2) (.int .i64 (wrap64 ((rd x9_5 (ji52)) + (rd t272 x86_5))))) (fun _ hk => by obtain ⟨⟨a_, b_, c_⟩, _⟩ := hk; first | exact ⟨a_, b_, c_⟩ | exact ⟨c_, a_, b_⟩ | exact ⟨b_, c_, a_⟩ | exact ⟨a_, c_, b_⟩ | exact ⟨b_, a_, c_⟩ | exact ⟨c_, b_, a_⟩)⟩, ⟨by (try simp only [hl9_1]); (try simp only [hl9_5]); (try simp only [hl11_5]); (with_reducible repeat (first | refine z1i ?_ _ | refine z3i ?_ | refine z2i ?_ _)); refine blk_far ?_ (by have h_ := Kd.R_ne HO_9.out BK255.out (by decide); intro e_; exact h_ (by rw [e_]; rfl)) _; (with_reducible repeat (first | refine z1i ?_ _ | refine z3i ?_ | refine z2i ?_ _)); exact BK255.out⟩, ⟨by repeat (first | (with_reducible first | exact HB.out | apply z4i | apply z5i | apply z6i | refine z7i ?_ GB55.out | refine z7i ?_ GE255.out) | exact HB.out)⟩⟩
                           ·rw [if_neg c54] at H
                            exact absurd H (by simp)
                          ·rw [if_neg c53] at H
                           exact absurd H (by simp)
                         ·rw [if_neg c51] at H
                          have c51b0 : decide ((wrap64 ((wrap64 (Int.tdiv x38_1 a1_0)) + ((rd_T60 l0 x86_5).f1))) < a1_1) = false := decide_eq_false c51
                          clear c51
                          have H' := z0i H
                          clear H
                          have p275 : 0 ≤ (x86_5 : Int) := of_decide_eq_true (by first | (with_reducible assumption) | assumption)
                          have q275 : x86_5 < (t272.length : Int) := of_decide_eq_true (by first | (with_reducible assumption) | assumption)
                          obtain ⟨ad275, e275, hx275_0⟩ := Kd.at_int (Kd.R_reads' HO_84.out).2.2 x86_5 p275 q275
                          cases e275
                          replace p275 := eq_true p275
                          replace q275 := eq_true q275
                          have p276 : 0 ≤ (x86_5 : Int) := of_decide_eq_true (by first | (with_reducible assumption) | assumption)
                          have q276 : x86_5 < (l0.length : Int) := of_decide_eq_true (by first | (with_reducible assumption) | assumption)
                          obtain ⟨ad276, e276, hx276_0, hx276_1, hx276_2⟩ := at_T60 HR0.out x86_5 p276 q276
                          cases e276
                          replace hx276_0 := (HB.out.cell (World.block_lt_of_cell? w _ hx276_0)).trans hx276_0
                          replace hx276_1 := (HB.out.cell (World.block_lt_of_cell? w _ hx276_1)).trans hx276_1
                          replace hx276_2 := (HB.out.cell (World.block_lt_of_cell? w _ hx276_2)).trans hx276_2
                          replace p276 := eq_true p276
                          replace q276 := eq_true q276
                          have p277 : 0 ≤ (x86_5 : Int) := of_decide_eq_true (by first | (with_reducible assumption) | assumption)
                          have q277 : x86_5 < (l0.length : Int) := of_decide_eq_true (by first | (with_reducible assumption) | assumption)
                          obtain ⟨ad277, e277, hx277_0, hx277_1, hx277_2⟩ := at_T60 HR0.out x86_5 p277 q277
                          obtain rfl : ad276 = ad277 := (by injection e277)
                          replace hx277_0 := (HB.out.cell (World.block_lt_of_cell? w _ hx277_0)).trans hx277_0
                          replace hx277_1 := (HB.out.cell (World.block_lt_of_cell? w _ hx277_1)).trans hx277_1
                          replace hx277_2 := (HB.out.cell (World.block_lt_of_cell? w _ hx277_2)).trans hx277_2
                          replace p277 := eq_true p277
                          replace q277 := eq_true q277
                          have hcz60_0 : wr.cell? ⟨gb255, 0, none⟩ = some (.int .i64 a1_0) := (x3i BK255.out 0).trans rfl
                          have hcz60_1 : wr.cell? ⟨gb255, 1, none⟩ = some (.int .i64 a1_1) := (x3i BK255.out 1).trans rfl
                          have hcz60_2 : wr.cell? ⟨gb255, 2, none⟩ = some (.slice A1_2 l1_2.length c1_2) := (x3i BK255.out 2).trans rfl
                          have hfz60_0 := x2i BK255.out 0
                          have hfz60_1 := x2i BK255.out 1
                          have hfz60_2 := x2i BK255.out 2
                          go_wp2_with (first | ((with_reducible refine gate_callee (f := 53) rfl ?_); refine goesL_ (some 111) rfl rfl Try.func53 (by kernel_rfl) rfl #[.int .i64 (wrap64 (x16_23 + (wrap64 (x17_23 * ((rd_T60 l0 x86_5).f0))))), .int .i64 0, .int .i64 (wrap64 (a1_0 - 1))] rfl (by (try simp only [List.map_toArray, List.map_cons, List.map_nil]); first | done | rfl | (simp only [List.length_drop, List.length_take]; rfl)) ?_; (with_reducible refine (spec_l1In.calls (wrap64 (x16_23 + (wrap64 (x17_23 * ((rd_T60 l0 x86_5).f0))))) 0 (wrap64 (a1_0 - 1)) true _ A49.out).mono ?_); rintro e w' ⟨rfl, ⟨nd, rfl⟩⟩; refine ⟨_, rfl, ?_⟩))
                          (try simp only [← hl9_5, ← hl11_5])
                          go_roundg k5
                          case measure => have := HK1.out; have := HJ20.out; have := HJ23.out; have := HJ29.out; have := HK5.out; omega
                          case rel => exact ⟨(x9_5), (wrap64 (x13_5 + (rd t272 x86_5))), (wrap64 (x86_5 + 1)), (by first | rfl | (simp; done) | (simp [*]; done)), (by first | rfl | (simp; done) | (simp [*]; done)), H', ⟨by have := HK1.out; have := HJ20.out; have := HJ23.out; have := HJ29.out; have := HK5.out; omega⟩, ⟨by (try simp only [hl9_1]); (try simp only [hl9_5]); (try simp only [hl11_5]); (with_reducible repeat (first | apply z8i | apply z9i | apply y1i)); exact HO_9.out⟩, ⟨by (try simp only [hl9_1]); (try simp only [hl9_5]); (try simp only [hl11_5]); (with_reducible repeat (first | apply z8i | apply z9i | apply y1i)); exact HO_10.out⟩, ⟨by (try simp only [hl9_1]); (try simp only [hl9_5]); (try simp only [hl11_5]); (with_reducible repeat (first | apply z8i | apply z9i | apply y1i)); exact HO_11.out⟩, ⟨by (try simp only [hl9_1]); (try simp only [hl9_5]); (try simp only [hl11_5]); (with_reducible repeat (first | apply z8i | apply z9i | apply y1i)); exact HO_84.out⟩, ⟨by (try simp only [hl9_1]); (try simp only [hl9_5]); (try simp only [hl11_5]); (with_reducible repeat (first | refine z1i ?_ _ | refine z3i ?_ | refine z2i ?_ _)); exact BK255.out⟩, ⟨by repeat (first | (with_reducible first | exact HB.out | apply z4i | apply z5i | apply z6i | refine z7i ?_ GE255.out) | exact HB.out)⟩⟩
                        ·replace c50 := Bool.eq_false_iff.mpr c50
                         subst c50
                         have H1 : (spec_l4Run.l1 k5 l0 a2 x9_5 x10_29 y271 t268 (wrap64 (x13_5 + (rd t272 x86_5))) (wrap64 (Int.tdiv x38_1 a1_0)) x16_23 x17_23 (y259.length : Int) x38_1 t272 (t272.length : Int) (wrap64 (x86_5 + 1)) a1_0 a1_1 l1_2) = some (r1, r2, r3) := by rw [if_neg (show ¬ (false = true) by decide)] at H; first | exact H | (simp only [if_true] at H ⊢; exact H)
                         clear H
                         have H := H1
                         clear H1
                         have H' := z0i H
                         clear H
                         have p275 : 0 ≤ (x86_5 : Int) := of_decide_eq_true (by first | (with_reducible assumption) | assumption)
                         have q275 : x86_5 < (t272.length : Int) := of_decide_eq_true (by first | (with_reducible assumption) | assumption)
                         obtain ⟨ad275, e275, hx275_0⟩ := Kd.at_int (Kd.R_reads' HO_84.out).2.2 x86_5 p275 q275
                         cases e275
                         replace p275 := eq_true p275
                         replace q275 := eq_true q275
                         have p276 : 0 ≤ (x86_5 : Int) := of_decide_eq_true (by first | (with_reducible assumption) | assumption)
                         have q276 : x86_5 < (l0.length : Int) := of_decide_eq_true (by first | (with_reducible assumption) | assumption)
                         obtain ⟨ad276, e276, hx276_0, hx276_1, hx276_2⟩ := at_T60 HR0.out x86_5 p276 q276
                         cases e276
                         replace hx276_0 := (HB.out.cell (World.block_lt_of_cell? w _ hx276_0)).trans hx276_0
                         replace hx276_1 := (HB.out.cell (World.block_lt_of_cell? w _ hx276_1)).trans hx276_1
                         replace hx276_2 := (HB.out.cell (World.block_lt_of_cell? w _ hx276_2)).trans hx276_2
                         replace p276 := eq_true p276
                         replace q276 := eq_true q276
                         have p277 : 0 ≤ (x86_5 : Int) := of_decide_eq_true (by first | (with_reducible assumption) | assumption)
                         have q277 : x86_5 < (l0.length : Int) := of_decide_eq_true (by first | (with_reducible assumption) | assumption)
                         obtain ⟨ad277, e277, hx277_0, hx277_1, hx277_2⟩ := at_T60 HR0.out x86_5 p277 q277
                         obtain rfl : ad276 = ad277 := (by injection e277)
                         replace hx277_0 := (HB.out.cell (World.block_lt_of_cell? w _ hx277_0)).trans hx277_0
                         replace hx277_1 := (HB.out.cell (World.block_lt_of_cell? w _ hx277_1)).trans hx277_1
                         replace hx277_2 := (HB.out.cell (World.block_lt_of_cell? w _ hx277_2)).trans hx277_2
                         replace p277 := eq_true p277
                         replace q277 := eq_true q277
                         have hcz61_0 : wr.cell? ⟨gb255, 0, none⟩ = some (.int .i64 a1_0) := (x3i BK255.out 0).trans rfl
                         have hcz61_1 : wr.cell? ⟨gb255, 1, none⟩ = some (.int .i64 a1_1) := (x3i BK255.out 1).trans rfl
                         have hcz61_2 : wr.cell? ⟨gb255, 2, none⟩ = some (.slice A1_2 l1_2.length c1_2) := (x3i BK255.out 2).trans rfl
                         have hfz61_0 := x2i BK255.out 0
                         have hfz61_1 := x2i BK255.out 1
                         have hfz61_2 := x2i BK255.out 2
                         go_wp2_with (first | ((with_reducible refine gate_callee (f := 53) rfl ?_); refine goesL_ (some 111) rfl rfl Try.func53 (by kernel_rfl) rfl #[.int .i64 (wrap64 (x16_23 + (wrap64 (x17_23 * ((rd_T60 l0 x86_5).f0))))), .int .i64 0, .int .i64 (wrap64 (a1_0 - 1))] rfl (by (try simp only [List.map_toArray, List.map_cons, List.map_nil]); first | done | rfl | (simp only [List.length_drop, List.length_take]; rfl)) ?_; (with_reducible refine (spec_l1In.calls (wrap64 (x16_23 + (wrap64 (x17_23 * ((rd_T60 l0 x86_5).f0))))) 0 (wrap64 (a1_0 - 1)) false _ A49.out).mono ?_); rintro e w' ⟨rfl, ⟨nd, rfl⟩⟩; refine ⟨_, rfl, ?_⟩))
                         (try simp only [← hl9_5, ← hl11_5])
                         go_roundg k5
                         case measure => have := HK1.out; have := HJ20.out; have := HJ23.out; have := HJ29.out; have := HK5.out; omega
                         case rel => exact ⟨(x9_5), (wrap64 (x13_5 + (rd t272 x86_5))), (wrap64 (x86_5 + 1)), (by first | rfl | (simp; done) | (simp [*]; done)), (by first | rfl | (simp; done) | (simp [*]; done)), H', ⟨by have := HK1.out; have := HJ20.out; have := HJ23.out; have := HJ29.out; have := HK5.out; omega⟩, ⟨by (try simp only [hl9_1]); (try simp only [hl9_5]); (try simp only [hl11_5]); (with_reducible repeat (first | apply z8i | apply z9i | apply y1i)); exact HO_9.out⟩, ⟨by (try simp only [hl9_1]); (try simp only [hl9_5]); (try simp only [hl11_5]); (with_reducible repeat (first | apply z8i | apply z9i | apply y1i)); exact HO_10.out⟩, ⟨by (try simp only [hl9_1]); (try simp only [hl9_5]); (try simp only [hl11_5]); (with_reducible repeat (first | apply z8i | apply z9i | apply y1i)); exact HO_11.out⟩, ⟨by (try simp only [hl9_1]); (try simp only [hl9_5]); (try simp only [hl11_5]); (with_reducible repeat (first | apply z8i | apply z9i | apply y1i)); exact HO_84.out⟩, ⟨by (try simp only [hl9_1]); (try simp only [hl9_5]); (try simp only [hl11_5]); (with_reducible repeat (first | refine z1i ?_ _ | refine z3i ?_ | refine z2i ?_ _)); exact BK255.out⟩, ⟨by repeat (first | (with_reducible first | exact HB.out | apply z4i | apply z5i | apply z6i | refine z7i ?_ GE255.out) | exact HB.out)⟩⟩
                       ·rw [if_neg c48] at H
                        exact absurd H (by simp)
                      ·rw [if_neg c47] at H
                       exact absurd H (by simp)
                     ·rw [if_neg c46] at H
                      exact absurd H (by simp)
                    ·rw [if_neg c45] at H
                     have c45b0 : decide (x86_5 < (t272.length : Int)) = false := decide_eq_false c45
                     clear c45
                     have H' := z0i H
                     clear H
                     go_wp2
                     (try simp only [← hl9_1, ← hl9_5, ← hl11_5])
                     go_roundg k5
                     case measure => have := HK1.out; have := HJ20.out; have := HJ23.out; have := HJ29.out; have := HK5.out; omega
                     case rel => exact ⟨(x9_5), (x10_29), (y271), (x13_5), (wrap64 (x38_1 + 1)), (by first | rfl | (simp; done) | (simp [*]; done)), (by first | rfl | (simp; done) | (simp [*]; done)), H', ⟨by have := HK1.out; have := HJ20.out; have := HJ23.out; have := HJ29.out; have := HK5.out; omega⟩, ⟨by (try simp only [hl9_1]); (try simp only [hl9_5]); (try simp only [hl11_5]); (with_reducible repeat (first | apply z8i | apply z9i | apply y1i)); exact x6i HO_9.out (fun _ hk => ⟨hk.1, hk.2.1⟩)⟩, ⟨by (try simp only [hl9_1]); (try simp only [hl9_5]); (try simp only [hl11_5]); (with_reducible repeat (first | apply z8i | apply z9i | apply y1i)); exact x6i HO_10.out (fun _ hk => ⟨hk.1, hk.2.1⟩)⟩, ⟨by (try simp only [hl9_1]); (try simp only [hl9_5]); (try simp only [hl11_5]); (with_reducible repeat (first | apply z8i | apply z9i | apply y1i)); exact x6i HO_11.out (fun _ hk => ⟨hk.1, hk.2.1⟩)⟩, ⟨by (try simp only [hl9_1]); (try simp only [hl9_5]); (try simp only [hl11_5]); (with_reducible repeat (first | refine z1i ?_ _ | refine z3i ?_ | refine z2i ?_ _)); exact BK255.out⟩, ⟨by repeat (first | (with_reducible first | exact HB.out | apply z4i | apply z5i | apply z6i | refine z7i ?_ GE255.out) | exact HB.out)⟩⟩
                 ·rw [if_neg c38] at H
                  exact absurd H (by simp)
                ·rw [if_neg c37] at H
                 exact absurd H (by simp)
             ·rw [if_neg c29] at H
              exact absurd H (by simp)
            ·rw [if_neg c28] at H
             exact absurd H (by simp)
      ·rw [if_neg c19] at H
       have c19b0 : decide (x38_1 < (y259.length : Int)) = false := decide_eq_false c19
       try (have c19h_ := c19b0; rw [hl9_1] at c19h_)
       clear c19
       simp only [Option.some.injEq, Prod.mk.injEq] at H
       obtain ⟨rfl, rfl, rfl⟩ := H
       go_wp2
       go_ret3
       exact ⟨_, _, by first | rfl | (simp [errW_none, errW_some] <;> rfl) | (simp [*, errW_none, errW_some] <;> rfl), by (with_reducible repeat (first | apply z8i | apply z9i | apply y1i)); exact x6i HO_10.out (fun _ hk => hk.2), by (with_reducible repeat (first | apply z8i | apply z9i | apply y1i)); exact x6i HO_11.out (fun _ hk => hk.2), by repeat (first | (with_reducible first | exact HB.out | apply z4i | apply z5i | apply z6i | refine z7i ?_ GE255.out) | exact HB.out)⟩
   ·rw [if_neg c6] at H
    exact absurd H (by simp)
  ·rw [if_neg c5] at H
   exact absurd H (by simp)
 ·rw [if_neg c4] at H
  exact absurd H (by simp)

end Go.Proofs.Ytnohdgbfgdnpfaa.PFnExactDiffusePicture
