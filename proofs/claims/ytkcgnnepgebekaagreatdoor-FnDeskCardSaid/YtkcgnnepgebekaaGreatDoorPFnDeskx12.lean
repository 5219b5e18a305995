/- Machine side of laws FnDesk: written for this claim by the kit's print program under this session's wip/tools/mp_setup.py (with contracts of the session's own, wip/ext). -/
import Derived.Test.YtkcgnnepgebekaaGreatDoorPFnDeskx0
import Derived.Test.YtkcgnnepgebekaaGreatDoorPFnDeskx4
import Derived.Test.YtkcgnnepgebekaaGreatDoorPFnDeskx11
namespace Go.Proofs.YtkcgnnepgebekaaGreatDoor.PFnDesk
open Go.RowKit Go.Proofs.YtkcgnnepgebekaaGreatDoorW.PrintWords Go.Proofs.YtkcgnnepgebekaaGreatDoorW.PrintLast Go.Proofs.YtkcgnnepgebekaaGreatDoorW.PrintMore
attribute [local go_sem] max2_int min2_int max_two min_two max_three min_three max_four min_four   -- for this text's walks alone
set_option linter.unusedVariables false
set_option linter.unusedSimpArgs false
-- squeezed: words under short names
set_option linter.defProp false in
def z0m := @Aside0.mk
set_option linter.defProp false in
def z1m := @blk_drewN
set_option linter.defProp false in
def z2m := @blk_alloc
set_option linter.defProp false in
def z3m := @blk_drew
set_option linter.defProp false in
def z8m := @Kd.R_alloc
set_option linter.defProp false in
def z9m := @Kd.R_drewN
set_option linter.defProp false in
def y1m := @Kd.R_drew
set_option linter.defProp false in
def y7m := @below_size
set_option linter.defProp false in
def x1m := @Kd.R_far
set_option linter.defProp false in
def x2m := @blk_frozen
set_option linter.defProp false in
def x3m := @blk_cell
set_option linter.defProp false in
def x4m := @Kd.R_below
set_option linter.defProp false in
def x5m := @Kd.R_reads'
set_option linter.defProp false in
def x6m := @Kd.R_mono
set_option linter.defProp false in
def x7m := @Kd.R_types
set_option linter.defProp false in
def w2_m := @Kd.R_base
def bsm_ (n m : Nat) : Array Bool := ((List.range n).map fun i => m.testBit i).toArray
theorem s1m_ {α : Type} (l : List α) (i : Nat) (a : α) : l.toArray.setIfInBounds i a = (l.set i a).toArray := List.setIfInBounds_toArray l i a
theorem s2m_ {α : Type} (a b : α) (l : List α) : (a :: l).set 0 b = b :: l := rfl
theorem s3m_ {α : Type} (a b : α) (n : Nat) (l : List α) : (a :: l).set (n + 1) b = a :: l.set n b := rfl

mutual
def impl_RunScript.j0 : Nat → List ByteArray → Option (ByteArray × Int)
 | 0, _ => none
 | k + 1, x4 => if (x4.length : Int) > 40 then (some ((⟨#[]⟩ : ByteArray), (-1))) else ((impl_NewDesk.f k).bind fun bt436 => (impl_RunScript.l0 k x4 (⟨#[]⟩ : ByteArray) x4 (x4.length : Int) 0 bt436.1 bt436.2.1 bt436.2.2.1 bt436.2.2.2.1 bt436.2.2.2.2.1 bt436.2.2.2.2.2.1 bt436.2.2.2.2.2.2))
def impl_RunScript.l0 : Nat → List ByteArray → ByteArray → List ByteArray → Int → Int → Int → Int → List Int → Int → Int → List Int → List (S27) → Option (ByteArray × Int)
 | 0, _, _, _, _, _, _, _, _, _, _, _, _ => none
 | k + 1, x4, x6, x20, x21, x22, x450000, x450001, x450002, x450003, x450004, x450005, x450006 => if x22 < x21 then (if 0 ≤ x22 then (if x22 < (x20.length : Int) then ((impl_RunLine.f k x450000 x450001 x450002 x450003 x450004 x450005 x450006 (rdOf ByteArray.empty x20 x22)).bind fun bt451 => (if bt451.2.2.2.2.2.2.2.toList = ([] : List UInt8) then (impl_RunScript.l0 k x4 x6 x20 x21 (wrap64 (x22 + 1)) bt451.1 bt451.2.1 bt451.2.2.1 bt451.2.2.2.1 bt451.2.2.2.2.1 bt451.2.2.2.2.2.1 bt451.2.2.2.2.2.2.1) else (if bt451.2.2.2.2.2.2.2.size + 1 ≤ 9223372036854775807 then (if x6.size + (bt451.2.2.2.2.2.2.2 ++ (⟨#[10]⟩ : ByteArray)).size ≤ 9223372036854775807 then (impl_RunScript.l0 k x4 (x6 ++ (bt451.2.2.2.2.2.2.2 ++ (⟨#[10]⟩ : ByteArray))) x20 x21 (wrap64 (x22 + 1)) bt451.1 bt451.2.1 bt451.2.2.1 bt451.2.2.2.1 bt451.2.2.2.2.1 bt451.2.2.2.2.2.1 bt451.2.2.2.2.2.2.1) else (none)) else (none)))) else (none)) else (none)) else (some (x6, (x4.length : Int)))
end
def impl_RunScript.f (k : Nat) (a0 : ByteArray) : Option (ByteArray × Int) := if a0.toList = ([] : List UInt8) then (impl_RunScript.j0 k (([] : List ByteArray))) else ((strings_TrimSuffix.f a0 (⟨#[10]⟩ : ByteArray)).bind fun t432 => ((strings_Split.f t432 (⟨#[10]⟩ : ByteArray)).bind fun t433 => (impl_RunScript.j0 k t433)))
set_option maxHeartbeats 8000000 in
set_option maxRecDepth 100000 in
theorem impl_RunScript.calls (k : Nat) (a0 : ByteArray) (r1 : ByteArray) (r2 : Int) (w : World) (hG_ : Ext.Glob w) (h : impl_RunScript.f k a0 = some (r1, r2)) :
  Calls Tryz.prog 11 #[.string a0] w fun e w' => e = .returned (.tuple #[.string r1, .int .i64 r2]) ∧ Below w.heap.size w w' := by
 have HGB_ := z0m hG_
 clear hG_
 have hu55 := Tryz.underlying55
 have HB := z0m (Below.refl w.heap.size w)
 have H := h
 unfold impl_RunScript.f at H
 clear h
 obtain ⟨y429, hy429⟩ : ∃ y_ : List ByteArray, y_ = (([] : List ByteArray)) := ⟨_, rfl⟩
 replace H : (if a0.toList = ([] : List UInt8) then (impl_RunScript.j0 k y429) else ((strings_TrimSuffix.f a0 (⟨#[10]⟩ : ByteArray)).bind fun t432 => ((strings_Split.f t432 (⟨#[10]⟩ : ByteArray)).bind fun t433 => (impl_RunScript.j0 k t433)))) = some (r1, r2) := by first | (rw [hy429]; with_reducible exact H) | (have H2_ := (Option.bind_some _ _).symm.trans H; rw [hy429]; with_reducible exact H2_) | (have H2_ := (Option.bind_some _ _).symm.trans H; with_reducible exact H2_) | with_reducible exact H | (rw [hy429]; exact H) | exact H
 have Ny429 := z0m hy429
 clear hy429
 have HC2 := z0m H
 clear H
 go_enter Tryz.func11, Tryz.ntmps11
 go_upto_if 12 with (first | ((with_reducible refine gate_dst (N := 10) rfl ?_); refine Kd.R_lit Kd.string _ 9 ?hg (N := 10) ?hd (xs := ([] : List ByteArray)) (inner := []) (ok := fun _ => True) (okp := fun _ => True) ?hr ?hp (fun _ hk => hk) trivial (Below.refl _ _) (Nat.le_refl _) (by simp) ?_; (case hd => rfl); (case hg => rfl); (case hr => first | (go_simp; done) | (go_simp; rfl)); (case hp => exact (Reps.none _ _)); intro v430 w3 ho4 hb hg_ hnew_; clear hg_ hnew_; (first | rw [← Ny429.out] at ho4 | (simp only [Int.reduceToNat] at ho4; rw [← Ny429.out] at ho4)); have n_ := a2 (Kd.R_lower ho4 (y7m (dV HB.out))) (dU HB.out hb); clear HB; obtain ⟨HO431, HB⟩ := n_; clear hb ho4))
 (try simp only [Act.put, s1m_, s2m_, s3m_])
 go_cut [4] (fun v4 wc => ∃ (kq : Nat) (x4_1 : List ByteArray), Aside0 (impl_RunScript.j0 kq x4_1 = some (r1, r2)) ∧ Aside0 (kq ≤ k) ∧ Aside0 (Kd.R Kd.string 9 wc w.heap.size (fun _ => True) v4 x4_1) ∧ Aside0 (Below w.heap.size w wc))
 case first =>
  have H := HC2.out
  clear HC2
  by_cases c5 : a0.toList = ([] : List UInt8)
  ·rw [if_pos c5] at H
   have c5b0 : (a0.toList == ([] : List UInt8)) = true := beq_iff_eq.mpr c5
   have c5b1 : (a0.toList != ([] : List UInt8)) = false := bne_eq_false_iff_eq.mpr c5
   clear c5
   have ie_ : a0.toList.isEmpty = true := by rw [beq_iff_eq.1 c5b0]; rfl
   rw [ie_]
   have H' := z0m H
   clear H
   go_wp2
   go_meet
   case rel => exact ⟨_, (y429), H', ⟨by first | omega | exact Nat.le_refl _⟩, ⟨by (with_reducible repeat (first | apply z8m | apply z9m | apply y1m)); exact HO431.out⟩, ⟨dV HB.out⟩⟩
  ·rw [if_neg c5] at H
   have c5b0 : (a0.toList == ([] : List UInt8)) = false := beq_eq_false_iff_ne.mpr c5
   have c5b1 : (a0.toList != ([] : List UInt8)) = true := bne_iff_ne.mpr c5
   have ie_ : a0.toList.isEmpty = false := Bool.eq_false_iff.2 fun e_ => (beq_eq_false_iff_ne.1 c5b0) (List.isEmpty_iff.1 e_)
   rw [ie_]
   replace H := Option.bind_eq_some_iff.mp H
   obtain ⟨t432, A60, H⟩ := H
   (try dsimp only at H)
   have A6 := z0m A60
   clear A60
   replace H := Option.bind_eq_some_iff.mp H
   obtain ⟨t433, A70, H⟩ := H
   (try dsimp only at H)
   have A7 := z0m A70
   clear A70
   have H' := z0m H
   clear H
   go_wp2_with (first | ((with_reducible refine gate_callee (f := 26) rfl ?_); refine goesL_ (some 14) rfl rfl Tryz.func26 (by kernel_rfl) rfl #[.string a0, .string (⟨#[10]⟩ : ByteArray)] rfl (by (try simp only [List.map_toArray, List.map_cons, List.map_nil]); first | done | rfl | (simp only [List.length_drop, List.length_take]; rfl)) ?_; (with_reducible refine (strings_TrimSuffix.calls a0 (⟨#[10]⟩ : ByteArray) t432 _ A6.out).mono ?_); rintro e w8 ⟨rfl, hb⟩; refine ⟨_, rfl, ?_⟩; have n_ := a2 (x4m (rV HO431.out) hb) (dU HB.out hb); clear HO431 HB; obtain ⟨HO431, HB⟩ := n_; (try clear hb)) | ((with_reducible refine gate_callee (f := 25) rfl ?_); refine goesL_ (some 15) rfl rfl Tryz.func25 (by kernel_rfl) rfl #[.string t432, .string (⟨#[10]⟩ : ByteArray)] rfl (by (try simp only [List.map_toArray, List.map_cons, List.map_nil]); first | done | rfl | (simp only [List.length_drop, List.length_take]; rfl)) ?_; (with_reducible refine (strings_Split.calls t432 (⟨#[10]⟩ : ByteArray) t433 _ ?side1 A7.out).mono ?_); (case side1 => exact Ext.Glob.below HGB_.out (dV HB.out)); rintro e w9 ⟨v434, rfl, ho0, hb⟩; refine ⟨_, rfl, ?_⟩; have n_ := a3 (Kd.R_elder' (rV HO431.out) (w2_m ho0) hb) (Kd.R_lower (Kd.R_new' ho0 (Kd.R_lt (rV HO431.out))) (y7m (dV HB.out))) (dU HB.out hb); clear HO431 HB; obtain ⟨HO431, HO435, HB⟩ := n_; (try clear hb); (try clear ho0)))
   go_meet
   case rel => exact ⟨_, (t433), H', ⟨by first | omega | exact Nat.le_refl _⟩, ⟨by (with_reducible repeat (first | apply z8m | apply z9m | apply y1m)); exact x6m HO435.out (fun _ hk => trivial)⟩, ⟨dV HB.out⟩⟩
 case rest =>
  clear HC2
  try clear c1
  try clear c2
  try clear p2
  try clear c5
  try clear c5b0
  try clear c5b1
  obtain ⟨kq, x4_1, HA, HJ1, HO_4, HB⟩ := hcut
  cases kq with
  | zero => exact absurd HA.out (by simp [impl_RunScript.j0])
  | succ kj1 =>
   have H := HA.out
   clear HA
   simp only [impl_RunScript.j0] at H
   by_cases c10 : (x4_1.length : Int) > 40
   ·rw [if_pos c10] at H
    have c10b0 : decide (40 < (x4_1.length : Int)) = true := decide_eq_true c10
    have c10b1 : decide (40 < x4_1.length) = true := decide_eq_true (by omega)
    clear c10
    simp only [Option.some.injEq, Prod.mk.injEq] at H
    obtain ⟨rfl, rfl⟩ := H
    obtain ⟨Ao11, co11, eo11⟩ := Kd.R_slice HO_4.out
    subst eo11
    go_wp2
    go_ret2
    exact ⟨by first | rfl | (simp [errW_none, errW_some] <;> rfl) | (simp [*, errW_none, errW_some] <;> rfl), dV HB.out⟩
   ·rw [if_neg c10] at H
    have c10b0 : decide (40 < (x4_1.length : Int)) = false := decide_eq_false c10
    have c10b1 : decide (40 < x4_1.length) = false := decide_eq_false (by omega)
    clear c10
    replace H := Option.bind_eq_some_iff.mp H
    obtain ⟨⟨t436, t437, t438, t441, t442, t443, t446⟩, A120, H⟩ := H
    (try dsimp only at H)
    have A12 := z0m A120
    clear A120
    have H' := z0m H
    clear H
    obtain ⟨Ao13, co13, eo13⟩ := Kd.R_slice HO_4.out
    subst eo13
    go_wp2_with (first | ((with_reducible refine gate_callee (f := 27) rfl ?_); refine goesL_ (some 19) rfl rfl Tryz.func27 (by kernel_rfl) rfl #[] rfl (by (try simp only [List.map_toArray, List.map_cons, List.map_nil]); first | done | rfl | (simp only [List.length_drop, List.length_take]; rfl)) ?_; (with_reducible refine (impl_NewDesk.calls kj1  t436 t437 t438 t441 t442 t443 t446 _ A12.out).mono ?_); rintro e w14 ⟨v439, v444, v447, rfl, ho0, ho1, ho2, hb⟩; refine ⟨_, rfl, ?_⟩; have n_ := a5 (x4m (rV HO_4.out) hb) (Kd.R_lower ho0 (y7m (dV HB.out))) (Kd.R_lower ho1 (y7m (dV HB.out))) (Kd.S_lower ho2 (y7m (dV HB.out))) (dU HB.out hb); clear HO_4 HB; obtain ⟨HO_4, HO440, HO445, HO448, HB⟩ := n_; (try clear hb); (try clear ho0); (try clear ho1); (try clear ho2)) | ((with_reducible refine gate_dst (N := 5) rfl ?_); refine box_event rfl (N := 5) rfl (cs := #[.int .i64 0, .int .i64 0, .slice none 0 0, .int .i64 0, .int .i64 0, .slice none 0 0, .slice none 0 0]) (t := 55) (by first | (go_simp; done) | (go_simp; rfl)) ?_; intro gb449 hg w15 hbox hb; have n_ := a8 (x4m (rV HO_4.out) hb) (x4m (rV HO440.out) hb) (x4m (rV HO445.out) hb) (Kd.S_below (sV HO448.out) hb) (dU HB.out hb) (hbox) (gE hg HB.out) (gE hg HB.out); clear HO_4 HO440 HO445 HO448 HB; obtain ⟨HO_4, HO440, HO445, HO448, HB, BK449, GW449, GE449⟩ := n_; have gi_449 := GEc.mk GE449.out; clear hb hbox hg; have hcz16_0 : w15.cell? ⟨gb449, 0, none⟩ = some (.int .i64 0) := (x3m BK449.out 0).trans rfl; have hcz16_1 : w15.cell? ⟨gb449, 1, none⟩ = some (.int .i64 0) := (x3m BK449.out 1).trans rfl; have hcz16_2 : w15.cell? ⟨gb449, 2, none⟩ = some (.slice none 0 0) := (x3m BK449.out 2).trans rfl; have hcz16_3 : w15.cell? ⟨gb449, 3, none⟩ = some (.int .i64 0) := (x3m BK449.out 3).trans rfl; have hcz16_4 : w15.cell? ⟨gb449, 4, none⟩ = some (.int .i64 0) := (x3m BK449.out 4).trans rfl; have hcz16_5 : w15.cell? ⟨gb449, 5, none⟩ = some (.slice none 0 0) := (x3m BK449.out 5).trans rfl; have hcz16_6 : w15.cell? ⟨gb449, 6, none⟩ = some (.slice none 0 0) := (x3m BK449.out 6).trans rfl; have hfz16_0 := x2m BK449.out 0; have hfz16_1 := x2m BK449.out 1; have hfz16_2 := x2m BK449.out 2; have hfz16_3 := x2m BK449.out 3; have hfz16_4 := x2m BK449.out 4; have hfz16_5 := x2m BK449.out 5; have hfz16_6 := x2m BK449.out 6; obtain ⟨Ao17, co17, eo17⟩ := Kd.R_slice HO440.out; subst eo17; obtain ⟨Ao18, co18, eo18⟩ := Kd.R_slice HO445.out; subst eo18; obtain ⟨Ao19, co19, eo19⟩ := Kd.S_slice HO448.out; subst eo19))
    go_loopg [6, 22] kj1 (fun kq v6 v22 w' => ∃ (x6_2 : ByteArray) (x22_2 : Int) (x450000_2 : Int) (x450001_2 : Int) (x450002_2 : List Int) (x450003_2 : Int) (x450004_2 : Int) (x450005_2 : List Int) (x450006_2 : List (S27)) (u450002 : Value) (u450005 : Value) (u450006 : Value), v6 = .string x6_2 ∧ v22 = .int .i64 x22_2 ∧ Aside0 (impl_RunScript.l0 kq x4_1 x6_2 x4_1 (x4_1.length : Int) x22_2 x450000_2 x450001_2 x450002_2 x450003_2 x450004_2 x450005_2 x450006_2 = some (r1, r2)) ∧ Aside0 (kq ≤ kj1) ∧ Aside0 (Kd.R Kd.string 9 w' w.heap.size (fun _ => True) (.slice Ao13 x4_1.length co13) x4_1) ∧ Aside0 (Kd.R Kd.string 9 w' w.heap.size (fun _ => True) (.slice Ao13 x4_1.length co13) x4_1) ∧ Aside0 (Kd.R (Kd.int .i64) 3 w' w.heap.size (fun k_ => some k_ ≠ (u450005 : Value).ownBlock) u450002 x450002_2) ∧ Aside0 (Kd.R (Kd.int .i64) 3 w' w.heap.size (fun k_ => some k_ ≠ (u450002 : Value).ownBlock) u450005 x450005_2) ∧ Aside0 (Kd.V k27 27 w' w.heap.size (fun k_ => some k_ ≠ ((.slice Ao13 x4_1.length co13) : Value).ownBlock ∧ some k_ ≠ ((.slice Ao13 x4_1.length co13) : Value).ownBlock ∧ some k_ ≠ (u450002 : Value).ownBlock ∧ some k_ ≠ (u450005 : Value).ownBlock ∧ k_ ≠ gb449) u450006 x450006_2) ∧ Aside0 (w'.heap[gb449]? = some (.cells #[.int .i64 x450000_2, .int .i64 x450001_2, u450002, .int .i64 x450003_2, .int .i64 x450004_2, u450005, u450006] 55 (0, 0))) ∧ Aside0 (Below w.heap.size w w'))
    case atStart => exact ⟨((⟨#[]⟩ : ByteArray)), (0), (t436), (t437), (t438), (t441), (t442), (t443), (t446), (.slice Ao17 t438.length co17), (.slice Ao18 t443.length co18), (.slice Ao19 t446.length co19), (by first | rfl | (simp; done) | (simp [*]; done)), (by first | rfl | (simp; done) | (simp [*]; done)), H', ⟨Nat.le_refl _⟩, ⟨by (with_reducible repeat (first | apply z8m | apply z9m | apply y1m)); exact x6m (x1m (p := ⟨gb449, 6, none⟩) (x1m (p := ⟨gb449, 5, none⟩) (x1m (p := ⟨gb449, 4, none⟩) (x1m (p := ⟨gb449, 3, none⟩) (x1m (p := ⟨gb449, 2, none⟩) (x1m (p := ⟨gb449, 1, none⟩) (x1m (p := ⟨gb449, 0, none⟩) (x7m HO_4.out BK449.out (by decide)) (fun _ hk => hk.2) (.int .i64 t436)) (fun _ hk => hk.2) (.int .i64 t437)) (fun _ hk => hk.2) (.slice Ao17 t438.length co17)) (fun _ hk => hk.2) (.int .i64 t441)) (fun _ hk => hk.2) (.int .i64 t442)) (fun _ hk => hk.2) (.slice Ao18 t443.length co18)) (fun _ hk => hk.2) (.slice Ao19 t446.length co19)) (fun _ hk => trivial)⟩, ⟨by (with_reducible repeat (first | apply z8m | apply z9m | apply y1m)); exact x6m (x1m (p := ⟨gb449, 6, none⟩) (x1m (p := ⟨gb449, 5, none⟩) (x1m (p := ⟨gb449, 4, none⟩) (x1m (p := ⟨gb449, 3, none⟩) (x1m (p := ⟨gb449, 2, none⟩) (x1m (p := ⟨gb449, 1, none⟩) (x1m (p := ⟨gb449, 0, none⟩) (x7m HO_4.out BK449.out (by decide)) (fun _ hk => hk.2) (.int .i64 t436)) (fun _ hk => hk.2) (.int .i64 t437)) (fun _ hk => hk.2) (.slice Ao17 t438.length co17)) (fun _ hk => hk.2) (.int .i64 t441)) (fun _ hk => hk.2) (.int .i64 t442)) (fun _ hk => hk.2) (.slice Ao18 t443.length co18)) (fun _ hk => hk.2) (.slice Ao19 t446.length co19)) (fun _ hk => trivial)⟩, ⟨by (with_reducible repeat (first | apply z8m | apply z9m | apply y1m)); exact x6m (x1m (p := ⟨gb449, 6, none⟩) (x1m (p := ⟨gb449, 5, none⟩) (x1m (p := ⟨gb449, 4, none⟩) (x1m (p := ⟨gb449, 3, none⟩) (x1m (p := ⟨gb449, 2, none⟩) (x1m (p := ⟨gb449, 1, none⟩) (x1m (p := ⟨gb449, 0, none⟩) (x7m HO440.out BK449.out (by decide)) (fun _ hk => hk.2) (.int .i64 t436)) (fun _ hk => hk.2) (.int .i64 t437)) (fun _ hk => hk.2) (.slice Ao17 t438.length co17)) (fun _ hk => hk.2) (.int .i64 t441)) (fun _ hk => hk.2) (.int .i64 t442)) (fun _ hk => hk.2) (.slice Ao18 t443.length co18)) (fun _ hk => hk.2) (.slice Ao19 t446.length co19)) (fun _ hk => hk.1)⟩, ⟨by (with_reducible repeat (first | apply z8m | apply z9m | apply y1m)); exact x6m (x1m (p := ⟨gb449, 6, none⟩) (x1m (p := ⟨gb449, 5, none⟩) (x1m (p := ⟨gb449, 4, none⟩) (x1m (p := ⟨gb449, 3, none⟩) (x1m (p := ⟨gb449, 2, none⟩) (x1m (p := ⟨gb449, 1, none⟩) (x1m (p := ⟨gb449, 0, none⟩) (x7m HO445.out BK449.out (by decide)) (fun _ hk => hk.2) (.int .i64 t436)) (fun _ hk => hk.2) (.int .i64 t437)) (fun _ hk => hk.2) (.slice Ao17 t438.length co17)) (fun _ hk => hk.2) (.int .i64 t441)) (fun _ hk => hk.2) (.int .i64 t442)) (fun _ hk => hk.2) (.slice Ao18 t443.length co18)) (fun _ hk => hk.2) (.slice Ao19 t446.length co19)) (fun _ hk => hk.1)⟩, ⟨Kd.S_V (by (with_reducible repeat (first | apply Kd.S_alloc | apply Kd.S_drewN | apply Kd.S_drew)); exact Kd.S_mono (Kd.S_far (p := ⟨gb449, 6, none⟩) (Kd.S_far (p := ⟨gb449, 5, none⟩) (Kd.S_far (p := ⟨gb449, 4, none⟩) (Kd.S_far (p := ⟨gb449, 3, none⟩) (Kd.S_far (p := ⟨gb449, 2, none⟩) (Kd.S_far (p := ⟨gb449, 1, none⟩) (Kd.S_far (p := ⟨gb449, 0, none⟩) (Kd.S_types (Kd.S_types (Kd.S_apart' HO448.out (Kd.R_typed HO_4.out) (by decide)) BK449.out (by decide)) BK449.out (by decide)) (fun _ hk => hk.2) (.int .i64 t436)) (fun _ hk => hk.2) (.int .i64 t437)) (fun _ hk => hk.2) (.slice Ao17 t438.length co17)) (fun _ hk => hk.2) (.int .i64 t441)) (fun _ hk => hk.2) (.int .i64 t442)) (fun _ hk => hk.2) (.slice Ao18 t443.length co18)) (fun _ hk => hk.2) (.slice Ao19 t446.length co19)) (fun _ hk => ⟨hk.1.1.2, ⟨hk.1.1.2, ⟨hk.1.1.1.1, ⟨hk.1.1.1.2, hk.1.2⟩⟩⟩⟩))⟩, ⟨by (with_reducible repeat (first | refine z1m ?_ _ | refine z3m ?_ | refine z2m ?_ _)); refine blk_put (cs := #[.int .i64 t436, .int .i64 t437, .slice Ao17 t438.length co17, .int .i64 t441, .int .i64 t442, .slice Ao18 t443.length co18, .slice none 0 0]) ?_ 6 _ rfl; (with_reducible repeat (first | refine z1m ?_ _ | refine z3m ?_ | refine z2m ?_ _)); refine blk_put (cs := #[.int .i64 t436, .int .i64 t437, .slice Ao17 t438.length co17, .int .i64 t441, .int .i64 t442, .slice none 0 0, .slice none 0 0]) ?_ 5 _ rfl; (with_reducible repeat (first | refine z1m ?_ _ | refine z3m ?_ | refine z2m ?_ _)); refine blk_put (cs := #[.int .i64 t436, .int .i64 t437, .slice Ao17 t438.length co17, .int .i64 t441, .int .i64 0, .slice none 0 0, .slice none 0 0]) ?_ 4 _ rfl; (with_reducible repeat (first | refine z1m ?_ _ | refine z3m ?_ | refine z2m ?_ _)); refine blk_put (cs := #[.int .i64 t436, .int .i64 t437, .slice Ao17 t438.length co17, .int .i64 0, .int .i64 0, .slice none 0 0, .slice none 0 0]) ?_ 3 _ rfl; (with_reducible repeat (first | refine z1m ?_ _ | refine z3m ?_ | refine z2m ?_ _)); refine blk_put (cs := #[.int .i64 t436, .int .i64 t437, .slice none 0 0, .int .i64 0, .int .i64 0, .slice none 0 0, .slice none 0 0]) ?_ 2 _ rfl; (with_reducible repeat (first | refine z1m ?_ _ | refine z3m ?_ | refine z2m ?_ _)); refine blk_put (cs := #[.int .i64 t436, .int .i64 0, .slice none 0 0, .int .i64 0, .int .i64 0, .slice none 0 0, .slice none 0 0]) ?_ 1 _ rfl; (with_reducible repeat (first | refine z1m ?_ _ | refine z3m ?_ | refine z2m ?_ _)); refine blk_put (cs := #[.int .i64 0, .int .i64 0, .slice none 0 0, .int .i64 0, .int .i64 0, .slice none 0 0, .slice none 0 0]) ?_ 0 _ rfl; (with_reducible repeat (first | refine z1m ?_ _ | refine z3m ?_ | refine z2m ?_ _)); exact BK449.out⟩, ⟨dV HB.out⟩⟩
    case round =>
     clear H'
     try clear c1
     try clear c2
     try clear p2
     try clear c5
     try clear c5b0
     try clear c5b1
     try clear c10
     try clear c10b0
     try clear c10b1
     try clear c11
     try clear hcz16_0
     try clear hcz16_1
     try clear hcz16_2
     try clear hcz16_3
     try clear hcz16_4
     try clear hcz16_5
     try clear hcz16_6
     try clear hfz16_0
     try clear hfz16_1
     try clear hfz16_2
     try clear hfz16_3
     try clear hfz16_4
     try clear hfz16_5
     try clear hfz16_6
     try clear p2
     obtain ⟨x6_2, x22_2, x450000_2, x450001_2, x450002_2, x450003_2, x450004_2, x450005_2, x450006_2, u450002, u450005, u450006, rfl, rfl, HA, HK2, HO_4, HO_20, Ha_, Hb_, Hc_, BK449, HB⟩ := hrel
     cases gk with
     | zero => exact absurd HA.out (by simp [impl_RunScript.l0])
     | succ k2 =>
      have H := HA.out
      clear HA
      simp only [impl_RunScript.l0] at H
      by_cases c20 : x22_2 < (x4_1.length : Int)
      ·rw [if_pos c20] at H
       have c20b0 : decide (x22_2 < (x4_1.length : Int)) = true := decide_eq_true c20
       clear c20
       by_cases c21 : 0 ≤ x22_2
       ·rw [if_pos c21] at H
        have c21b0 : decide (0 ≤ x22_2) = true := decide_eq_true c21
        clear c21
        by_cases c22 : x22_2 < (x4_1.length : Int)
        ·rw [if_pos c22] at H
         have c22b0 : decide (x22_2 < (x4_1.length : Int)) = true := decide_eq_true c22
         clear c22
         replace H := Option.bind_eq_some_iff.mp H
         obtain ⟨⟨t451, t452, t453, t456, t457, t458, t461, t464⟩, A230, H⟩ := H
         (try dsimp only at H)
         have A23 := z0m A230
         clear A230
         by_cases c24 : t464.toList = ([] : List UInt8)
         ·rw [if_pos c24] at H
          have c24b0 : (t464.toList == ([] : List UInt8)) = true := beq_iff_eq.mpr c24
          have c24b1 : (t464.toList != ([] : List UInt8)) = false := bne_eq_false_iff_eq.mpr c24
          clear c24
          have H' := z0m H
          clear H
          have p450 : 0 ≤ (x22_2 : Int) := of_decide_eq_true (by first | (with_reducible assumption) | assumption)
          have q450 : x22_2 < (x4_1.length : Int) := of_decide_eq_true (by first | (with_reducible assumption) | assumption)
          obtain ⟨ad450, e450, hx450_0⟩ := Kd.at_string (x5m HO_20.out).2.2 x22_2 p450 q450
          cases e450
          replace p450 := eq_true p450
          replace q450 := eq_true q450
          have hcz25_0 : wr.cell? ⟨gb449, 0, none⟩ = some (.int .i64 x450000_2) := (x3m BK449.out 0).trans rfl
          have hcz25_1 : wr.cell? ⟨gb449, 1, none⟩ = some (.int .i64 x450001_2) := (x3m BK449.out 1).trans rfl
          have hcz25_2 : wr.cell? ⟨gb449, 2, none⟩ = some (u450002) := (x3m BK449.out 2).trans rfl
          have hcz25_3 : wr.cell? ⟨gb449, 3, none⟩ = some (.int .i64 x450003_2) := (x3m BK449.out 3).trans rfl
          have hcz25_4 : wr.cell? ⟨gb449, 4, none⟩ = some (.int .i64 x450004_2) := (x3m BK449.out 4).trans rfl
          have hcz25_5 : wr.cell? ⟨gb449, 5, none⟩ = some (u450005) := (x3m BK449.out 5).trans rfl
          have hcz25_6 : wr.cell? ⟨gb449, 6, none⟩ = some (u450006) := (x3m BK449.out 6).trans rfl
          have hfz25_0 := x2m BK449.out 0
          have hfz25_1 := x2m BK449.out 1
          have hfz25_2 := x2m BK449.out 2
          have hfz25_3 := x2m BK449.out 3
          have hfz25_4 := x2m BK449.out 4
          have hfz25_5 := x2m BK449.out 5
          have hfz25_6 := x2m BK449.out 6
          obtain ⟨Ao26, co26, eo26⟩ := Kd.R_slice Ha_.out
          subst eo26
          obtain ⟨Ao27, co27, eo27⟩ := Kd.R_slice Hb_.out
          subst eo27
          obtain ⟨Ao28, co28, eo28⟩ := Kd.V_slice Hc_.out
          subst eo28
          go_wp2_with (first | ((with_reducible refine gate_callee (f := 28) rfl ?_); refine goesL_ (some 29) rfl rfl Tryz.func28 (by kernel_rfl) rfl #[.agg #[.int .i64 x450000_2, .int .i64 x450001_2, .slice Ao26 x450002_2.length co26, .int .i64 x450003_2, .int .i64 x450004_2, .slice Ao27 x450005_2.length co27, .slice Ao28 x450006_2.length co28], .string (rdOf ByteArray.empty x4_1 x22_2)] rfl (by (try simp only [List.map_toArray, List.map_cons, List.map_nil]); first | done | rfl | (simp only [List.length_drop, List.length_take]; rfl)) ?_; (with_reducible refine (impl_RunLine.calls k2 x450000_2 x450001_2 _ _ x450002_2 x450003_2 x450004_2 _ _ x450005_2 _ _ x450006_2 (rdOf ByteArray.empty x4_1 x22_2) t451 t452 t453 t456 t457 t458 t461 t464 _ ?side1 ?side2 ?side3 ?side4 ?side5 ?side6 ?side7 A23.out).mono ?_); (case side1 => repeat (first | exact (x5m Ha_.out).2.2 | (with_reducible refine Kd.C_alloc ?_ _) | (with_reducible refine Kd.C_drewN ?_ _) | (with_reducible refine Kd.C_drew ?_))); (case side2 => exact (x5m Ha_.out).2.1); (case side3 => repeat (first | exact (x5m Hb_.out).2.2 | (with_reducible refine Kd.C_alloc ?_ _) | (with_reducible refine Kd.C_drewN ?_ _) | (with_reducible refine Kd.C_drew ?_))); (case side4 => exact (x5m Hb_.out).2.1); (case side5 => repeat (first | exact (Kd.V_reads' Hc_.out).2.2 | (with_reducible refine Kd.C_alloc ?_ _) | (with_reducible refine Kd.C_drewN ?_ _) | (with_reducible refine Kd.C_drew ?_))); (case side6 => exact (Kd.V_reads' Hc_.out).2.1); (case side7 => exact Ext.Glob.below HGB_.out (dV HB.out)); rintro e w29 ⟨v454, v459, v462, rfl, ho0, ho1, ho2, hb⟩; refine ⟨_, rfl, ?_⟩; have n_ := a10 (x4m (rV HO_4.out) hb) (x4m (rV HO_20.out) hb) (x6m (Kd.R_told (Kd.R_told (Kd.R_old (rV Ha_.out) hb) (w2_m ho0)) (w2_m ho1)) (fun _ h_ => h_.1)) (x6m (Kd.R_told (Kd.R_told (Kd.R_old (rV Hb_.out) hb) (w2_m ho0)) (w2_m ho1)) (fun _ h_ => h_.1)) (Kd.V_mono (Kd.V_told (Kd.V_told (Kd.V_old (vV Hc_.out) hb) (w2_m ho0)) (w2_m ho1)) (fun _ h_ => h_.1)) (Kd.R_lower (Kd.R_new' (Kd.R_new' (x6m (ok' := fun k_ => some k_ ≠ (v459 : Value).ownBlock) ho0 (fun _ hk_ => hk_.2)) (Kd.R_lt (rV Ha_.out))) (Kd.R_lt (rV Hb_.out))) (y7m (dV HB.out))) (Kd.R_lower (Kd.R_new' (Kd.R_new' (x6m (ok' := fun k_ => some k_ ≠ (v454 : Value).ownBlock) ho1 (fun _ hk_ => hk_.2)) (Kd.R_lt (rV Ha_.out))) (Kd.R_lt (rV Hb_.out))) (y7m (dV HB.out))) (Kd.V_lower (Kd.V_mono (ok' := fun k_ => some k_ ≠ (v454 : Value).ownBlock ∧ some k_ ≠ (v459 : Value).ownBlock ∧ some k_ ≠ (.slice (some ad450) x4_1.length co13 : Value).ownBlock ∧ some k_ ≠ (.slice (some ad450) x4_1.length co13 : Value).ownBlock ∧ some k_ ≠ (.slice Ao26 x450002_2.length co26 : Value).ownBlock ∧ some k_ ≠ (.slice Ao27 x450005_2.length co27 : Value).ownBlock ∧ k_ ≠ gb449) ho2 (fun k_ hk_ => ⟨hk_.2.1, hk_.2.2, (Kd.fresh' (Kd.R_lt (rV HO_4.out)) k_ hk_.1), (Kd.fresh' (Kd.R_lt (rV HO_20.out)) k_ hk_.1), (Kd.fresh' (Kd.R_lt (rV Ha_.out)) k_ hk_.1), (Kd.fresh' (Kd.R_lt (rV Hb_.out)) k_ hk_.1), (Kd.freshB (bV BK449.out) k_ hk_.1)⟩)) (y7m (dV HB.out))) (bU BK449.out hb) (dU HB.out hb); clear HO_4 HO_20 Ha_ Hb_ Hc_ BK449 HB; obtain ⟨HO_4, HO_20, Ha_, Hb_, Hc_, HO455, HO460, HO463, BK449, HB⟩ := n_; (try clear hb); (try clear ho0); (try clear ho1); (try clear ho2); have hcz30_0 : w29.cell? ⟨gb449, 0, none⟩ = some (.int .i64 x450000_2) := (x3m BK449.out 0).trans rfl; have hcz30_1 : w29.cell? ⟨gb449, 1, none⟩ = some (.int .i64 x450001_2) := (x3m BK449.out 1).trans rfl; have hcz30_2 : w29.cell? ⟨gb449, 2, none⟩ = some (.slice Ao26 x450002_2.length co26) := (x3m BK449.out 2).trans rfl; have hcz30_3 : w29.cell? ⟨gb449, 3, none⟩ = some (.int .i64 x450003_2) := (x3m BK449.out 3).trans rfl; have hcz30_4 : w29.cell? ⟨gb449, 4, none⟩ = some (.int .i64 x450004_2) := (x3m BK449.out 4).trans rfl; have hcz30_5 : w29.cell? ⟨gb449, 5, none⟩ = some (.slice Ao27 x450005_2.length co27) := (x3m BK449.out 5).trans rfl; have hcz30_6 : w29.cell? ⟨gb449, 6, none⟩ = some (.slice Ao28 x450006_2.length co28) := (x3m BK449.out 6).trans rfl; have hfz30_0 := x2m BK449.out 0; have hfz30_1 := x2m BK449.out 1; have hfz30_2 := x2m BK449.out 2; have hfz30_3 := x2m BK449.out 3; have hfz30_4 := x2m BK449.out 4; have hfz30_5 := x2m BK449.out 5; have hfz30_6 := x2m BK449.out 6; obtain ⟨Ao31, co31, eo31⟩ := Kd.R_slice HO455.out; subst eo31; obtain ⟨Ao32, co32, eo32⟩ := Kd.R_slice HO460.out; subst eo32; obtain ⟨Ao33, co33, eo33⟩ := Kd.V_slice HO463.out; subst eo33))
          go_roundg k2
          case measure => have := HJ1.out; have := HK2.out; omega
          case rel => exact ⟨(x6_2), (wrap64 (x22_2 + 1)), (t451), (t452), (t453), (t456), (t457), (t458), (t461), (.slice Ao31 t453.length co31), (.slice Ao32 t458.length co32), (.slice Ao33 t461.length co33), (by first | rfl | (simp; done) | (simp [*]; done)), (by first | rfl | (simp; done) | (simp [*]; done)), H', ⟨by have := HJ1.out; have := HK2.out; omega⟩, ⟨by (with_reducible repeat (first | apply z8m | apply z9m | apply y1m)); exact x6m (x1m (p := ⟨gb449, 6, none⟩) (x1m (p := ⟨gb449, 5, none⟩) (x1m (p := ⟨gb449, 4, none⟩) (x1m (p := ⟨gb449, 3, none⟩) (x1m (p := ⟨gb449, 2, none⟩) (x1m (p := ⟨gb449, 1, none⟩) (x1m (p := ⟨gb449, 0, none⟩) (x7m HO_4.out BK449.out (by decide)) (fun _ hk => hk.2) (.int .i64 t451)) (fun _ hk => hk.2) (.int .i64 t452)) (fun _ hk => hk.2) (.slice Ao31 t453.length co31)) (fun _ hk => hk.2) (.int .i64 t456)) (fun _ hk => hk.2) (.int .i64 t457)) (fun _ hk => hk.2) (.slice Ao32 t458.length co32)) (fun _ hk => hk.2) (.slice Ao33 t461.length co33)) (fun _ hk => trivial)⟩, ⟨by (with_reducible repeat (first | apply z8m | apply z9m | apply y1m)); exact x6m (x1m (p := ⟨gb449, 6, none⟩) (x1m (p := ⟨gb449, 5, none⟩) (x1m (p := ⟨gb449, 4, none⟩) (x1m (p := ⟨gb449, 3, none⟩) (x1m (p := ⟨gb449, 2, none⟩) (x1m (p := ⟨gb449, 1, none⟩) (x1m (p := ⟨gb449, 0, none⟩) (x7m HO_20.out BK449.out (by decide)) (fun _ hk => hk.2) (.int .i64 t451)) (fun _ hk => hk.2) (.int .i64 t452)) (fun _ hk => hk.2) (.slice Ao31 t453.length co31)) (fun _ hk => hk.2) (.int .i64 t456)) (fun _ hk => hk.2) (.int .i64 t457)) (fun _ hk => hk.2) (.slice Ao32 t458.length co32)) (fun _ hk => hk.2) (.slice Ao33 t461.length co33)) (fun _ hk => trivial)⟩, ⟨by (with_reducible repeat (first | apply z8m | apply z9m | apply y1m)); exact x6m (x1m (p := ⟨gb449, 6, none⟩) (x1m (p := ⟨gb449, 5, none⟩) (x1m (p := ⟨gb449, 4, none⟩) (x1m (p := ⟨gb449, 3, none⟩) (x1m (p := ⟨gb449, 2, none⟩) (x1m (p := ⟨gb449, 1, none⟩) (x1m (p := ⟨gb449, 0, none⟩) (x7m HO455.out BK449.out (by decide)) (fun _ hk => hk.2) (.int .i64 t451)) (fun _ hk => hk.2) (.int .i64 t452)) (fun _ hk => hk.2) (.slice Ao31 t453.length co31)) (fun _ hk => hk.2) (.int .i64 t456)) (fun _ hk => hk.2) (.int .i64 t457)) (fun _ hk => hk.2) (.slice Ao32 t458.length co32)) (fun _ hk => hk.2) (.slice Ao33 t461.length co33)) (fun _ hk => hk.1.1.1)⟩, ⟨by (with_reducible repeat (first | apply z8m | apply z9m | apply y1m)); exact x6m (x1m (p := ⟨gb449, 6, none⟩) (x1m (p := ⟨gb449, 5, none⟩) (x1m (p := ⟨gb449, 4, none⟩) (x1m (p := ⟨gb449, 3, none⟩) (x1m (p := ⟨gb449, 2, none⟩) (x1m (p := ⟨gb449, 1, none⟩) (x1m (p := ⟨gb449, 0, none⟩) (x7m HO460.out BK449.out (by decide)) (fun _ hk => hk.2) (.int .i64 t451)) (fun _ hk => hk.2) (.int .i64 t452)) (fun _ hk => hk.2) (.slice Ao31 t453.length co31)) (fun _ hk => hk.2) (.int .i64 t456)) (fun _ hk => hk.2) (.int .i64 t457)) (fun _ hk => hk.2) (.slice Ao32 t458.length co32)) (fun _ hk => hk.2) (.slice Ao33 t461.length co33)) (fun _ hk => hk.1.1.1)⟩, ⟨by (with_reducible repeat (first | apply Kd.V_alloc | apply Kd.V_drewN | apply Kd.V_drew)); exact Kd.V_mono (Kd.V_far (p := ⟨gb449, 6, none⟩) (Kd.V_far (p := ⟨gb449, 5, none⟩) (Kd.V_far (p := ⟨gb449, 4, none⟩) (Kd.V_far (p := ⟨gb449, 3, none⟩) (Kd.V_far (p := ⟨gb449, 2, none⟩) (Kd.V_far (p := ⟨gb449, 1, none⟩) (Kd.V_far (p := ⟨gb449, 0, none⟩) (Kd.V_mono HO463.out (fun k_ hk => (⟨hk, hk.2.2.2.2.2.2⟩ : _ ∧ k_ ≠ gb449))) (fun _ hk => hk.2) (.int .i64 t451)) (fun _ hk => hk.2) (.int .i64 t452)) (fun _ hk => hk.2) (.slice Ao31 t453.length co31)) (fun _ hk => hk.2) (.int .i64 t456)) (fun _ hk => hk.2) (.int .i64 t457)) (fun _ hk => hk.2) (.slice Ao32 t458.length co32)) (fun _ hk => hk.2) (.slice Ao33 t461.length co33)) (fun _ hk => ⟨hk.1.2.2.1, ⟨hk.1.2.2.2.1, ⟨hk.1.1, ⟨hk.1.2.1, hk.1.2.2.2.2.2.2⟩⟩⟩⟩)⟩, ⟨by (with_reducible repeat (first | refine z1m ?_ _ | refine z3m ?_ | refine z2m ?_ _)); refine blk_put (cs := #[.int .i64 t451, .int .i64 t452, .slice Ao31 t453.length co31, .int .i64 t456, .int .i64 t457, .slice Ao32 t458.length co32, .slice Ao28 x450006_2.length co28]) ?_ 6 _ rfl; (with_reducible repeat (first | refine z1m ?_ _ | refine z3m ?_ | refine z2m ?_ _)); refine blk_put (cs := #[.int .i64 t451, .int .i64 t452, .slice Ao31 t453.length co31, .int .i64 t456, .int .i64 t457, .slice Ao27 x450005_2.length co27, .slice Ao28 x450006_2.length co28]) ?_ 5 _ rfl; (with_reducible repeat (first | refine z1m ?_ _ | refine z3m ?_ | refine z2m ?_ _)); refine blk_put (cs := #[.int .i64 t451, .int .i64 t452, .slice Ao31 t453.length co31, .int .i64 t456, .int .i64 x450004_2, .slice Ao27 x450005_2.length co27, .slice Ao28 x450006_2.length co28]) ?_ 4 _ rfl; (with_reducible repeat (first | refine z1m ?_ _ | refine z3m ?_ | refine z2m ?_ _)); refine blk_put (cs := #[.int .i64 t451, .int .i64 t452, .slice Ao31 t453.length co31, .int .i64 x450003_2, .int .i64 x450004_2, .slice Ao27 x450005_2.length co27, .slice Ao28 x450006_2.length co28]) ?_ 3 _ rfl; (with_reducible repeat (first | refine z1m ?_ _ | refine z3m ?_ | refine z2m ?_ _)); refine blk_put (cs := #[.int .i64 t451, .int .i64 t452, .slice Ao26 x450002_2.length co26, .int .i64 x450003_2, .int .i64 x450004_2, .slice Ao27 x450005_2.length co27, .slice Ao28 x450006_2.length co28]) ?_ 2 _ rfl; (with_reducible repeat (first | refine z1m ?_ _ | refine z3m ?_ | refine z2m ?_ _)); refine blk_put (cs := #[.int .i64 t451, .int .i64 x450001_2, .slice Ao26 x450002_2.length co26, .int .i64 x450003_2, .int .i64 x450004_2, .slice Ao27 x450005_2.length co27, .slice Ao28 x450006_2.length co28]) ?_ 1 _ rfl; (with_reducible repeat (first | refine z1m ?_ _ | refine z3m ?_ | refine z2m ?_ _)); refine blk_put (cs := #[.int .i64 x450000_2, .int .i64 x450001_2, .slice Ao26 x450002_2.length co26, .int .i64 x450003_2, .int .i64 x450004_2, .slice Ao27 x450005_2.length co27, .slice Ao28 x450006_2.length co28]) ?_ 0 _ rfl; (with_reducible repeat (first | refine z1m ?_ _ | refine z3m ?_ | refine z2m ?_ _)); exact BK449.out⟩, ⟨dV HB.out⟩⟩
         ·rw [if_neg c24] at H
          have c24b0 : (t464.toList == ([] : List UInt8)) = false := beq_eq_false_iff_ne.mpr c24
          have c24b1 : (t464.toList != ([] : List UInt8)) = true := bne_iff_ne.mpr c24
          by_cases c34 : t464.size + 1 ≤ 9223372036854775807
          ·rw [if_pos c34] at H
           have c34b0 := eq_true c34
           have c34b1 : decide (t464.size + 1 ≤ 9223372036854775807) = true := decide_eq_true c34
           try have c34b2 : (9223372036854775807 < t464.size + 1) = False := eq_false (Nat.not_lt.2 c34)
           by_cases c35 : x6_2.size + (t464 ++ (⟨#[10]⟩ : ByteArray)).size ≤ 9223372036854775807
           ·rw [if_pos c35] at H
            have c35b0 := eq_true c35
            have c35b1 : decide (x6_2.size + (t464 ++ (⟨#[10]⟩ : ByteArray)).size ≤ 9223372036854775807) = true := decide_eq_true c35
            try have c35b2 : (9223372036854775807 < x6_2.size + (t464 ++ (⟨#[10]⟩ : ByteArray)).size) = False := eq_false (Nat.not_lt.2 c35)
            have H' := z0m H
            clear H
            have p450 : 0 ≤ (x22_2 : Int) := of_decide_eq_true (by first | (with_reducible assumption) | assumption)
            have q450 : x22_2 < (x4_1.length : Int) := of_decide_eq_true (by first | (with_reducible assumption) | assumption)
            obtain ⟨ad450, e450, hx450_0⟩ := Kd.at_string (x5m HO_20.out).2.2 x22_2 p450 q450
            cases e450
            replace p450 := eq_true p450
            replace q450 := eq_true q450
            have hcz36_0 : wr.cell? ⟨gb449, 0, none⟩ = some (.int .i64 x450000_2) := (x3m BK449.out 0).trans rfl
            have hcz36_1 : wr.cell? ⟨gb449, 1, none⟩ = some (.int .i64 x450001_2) := (x3m BK449.out 1).trans rfl
            have hcz36_2 : wr.cell? ⟨gb449, 2, none⟩ = some (u450002) := (x3m BK449.out 2).trans rfl
            have hcz36_3 : wr.cell? ⟨gb449, 3, none⟩ = some (.int .i64 x450003_2) := (x3m BK449.out 3).trans rfl
            have hcz36_4 : wr.cell? ⟨gb449, 4, none⟩ = some (.int .i64 x450004_2) := (x3m BK449.out 4).trans rfl
            have hcz36_5 : wr.cell? ⟨gb449, 5, none⟩ = some (u450005) := (x3m BK449.out 5).trans rfl
            have hcz36_6 : wr.cell? ⟨gb449, 6, none⟩ = some (u450006) := (x3m BK449.out 6).trans rfl
            have hfz36_0 := x2m BK449.out 0
            have hfz36_1 := x2m BK449.out 1
            have hfz36_2 := x2m BK449.out 2
            have hfz36_3 := x2m BK449.out 3
            have hfz36_4 := x2m BK449.out 4
            have hfz36_5 := x2m BK449.out 5
            have hfz36_6 := x2m BK449.out 6
            obtain ⟨Ao37, co37, eo37⟩ := Kd.R_slice Ha_.out
            subst eo37
            obtain ⟨Ao38, co38, eo38⟩ := Kd.R_slice Hb_.out
            subst eo38
            obtain ⟨Ao39, co39, eo39⟩ := Kd.V_slice Hc_.out
            subst eo39
            go_wp2_with (first | ((with_reducible refine gate_callee (f := 28) rfl ?_); refine goesL_ (some 29) rfl rfl Tryz.func28 (by kernel_rfl) rfl #[.agg #[.int .i64 x450000_2, .int .i64 x450001_2, .slice Ao37 x450002_2.length co37, .int .i64 x450003_2, .int .i64 x450004_2, .slice Ao38 x450005_2.length co38, .slice Ao39 x450006_2.length co39], .string (rdOf ByteArray.empty x4_1 x22_2)] rfl (by (try simp only [List.map_toArray, List.map_cons, List.map_nil]); first | done | rfl | (simp only [List.length_drop, List.length_take]; rfl)) ?_; (with_reducible refine (impl_RunLine.calls k2 x450000_2 x450001_2 _ _ x450002_2 x450003_2 x450004_2 _ _ x450005_2 _ _ x450006_2 (rdOf ByteArray.empty x4_1 x22_2) t451 t452 t453 t456 t457 t458 t461 t464 _ ?side1 ?side2 ?side3 ?side4 ?side5 ?side6 ?side7 A23.out).mono ?_); (case side1 => repeat (first | exact (x5m Ha_.out).2.2 | (with_reducible refine Kd.C_alloc ?_ _) | (with_reducible refine Kd.C_drewN ?_ _) | (with_reducible refine Kd.C_drew ?_))); (case side2 => exact (x5m Ha_.out).2.1); (case side3 => repeat (first | exact (x5m Hb_.out).2.2 | (with_reducible refine Kd.C_alloc ?_ _) | (with_reducible refine Kd.C_drewN ?_ _) | (with_reducible refine Kd.C_drew ?_))); (case side4 => exact (x5m Hb_.out).2.1); (case side5 => repeat (first | exact (Kd.V_reads' Hc_.out).2.2 | (with_reducible refine Kd.C_alloc ?_ _) | (with_reducible refine Kd.C_drewN ?_ _) | (with_reducible refine Kd.C_drew ?_))); (case side6 => exact (Kd.V_reads' Hc_.out).2.1); (case side7 => exact Ext.Glob.below HGB_.out (dV HB.out)); rintro e w40 ⟨v454, v459, v462, rfl, ho0, ho1, ho2, hb⟩; refine ⟨_, rfl, ?_⟩; have n_ := a10 (x4m (rV HO_4.out) hb) (x4m (rV HO_20.out) hb) (x6m (Kd.R_told (Kd.R_told (Kd.R_old (rV Ha_.out) hb) (w2_m ho0)) (w2_m ho1)) (fun _ h_ => h_.1)) (x6m (Kd.R_told (Kd.R_told (Kd.R_old (rV Hb_.out) hb) (w2_m ho0)) (w2_m ho1)) (fun _ h_ => h_.1)) (Kd.V_mono (Kd.V_told (Kd.V_told (Kd.V_old (vV Hc_.out) hb) (w2_m ho0)) (w2_m ho1)) (fun _ h_ => h_.1)) (Kd.R_lower (Kd.R_new' (Kd.R_new' (x6m (ok' := fun k_ => some k_ ≠ (v459 : Value).ownBlock) ho0 (fun _ hk_ => hk_.2)) (Kd.R_lt (rV Ha_.out))) (Kd.R_lt (rV Hb_.out))) (y7m (dV HB.out))) (Kd.R_lower (Kd.R_new' (Kd.R_new' (x6m (ok' := fun k_ => some k_ ≠ (v454 : Value).ownBlock) ho1 (fun _ hk_ => hk_.2)) (Kd.R_lt (rV Ha_.out))) (Kd.R_lt (rV Hb_.out))) (y7m (dV HB.out))) (Kd.V_lower (Kd.V_mono (ok' := fun k_ => some k_ ≠ (v454 : Value).ownBlock ∧ some k_ ≠ (v459 : Value).ownBlock ∧ some k_ ≠ (.slice (some ad450) x4_1.length co13 : Value).ownBlock ∧ some k_ ≠ (.slice (some ad450) x4_1.length co13 : Value).ownBlock ∧ some k_ ≠ (.slice Ao37 x450002_2.length co37 : Value).ownBlock ∧ some k_ ≠ (.slice Ao38 x450005_2.length co38 : Value).ownBlock ∧ k_ ≠ gb449) ho2 (fun k_ hk_ => ⟨hk_.2.1, hk_.2.2, (Kd.fresh' (Kd.R_lt (rV HO_4.out)) k_ hk_.1), (Kd.fresh' (Kd.R_lt (rV HO_20.out)) k_ hk_.1), (Kd.fresh' (Kd.R_lt (rV Ha_.out)) k_ hk_.1), (Kd.fresh' (Kd.R_lt (rV Hb_.out)) k_ hk_.1), (Kd.freshB (bV BK449.out) k_ hk_.1)⟩)) (y7m (dV HB.out))) (bU BK449.out hb) (dU HB.out hb); clear HO_4 HO_20 Ha_ Hb_ Hc_ BK449 HB; obtain ⟨HO_4, HO_20, Ha_, Hb_, Hc_, HO455, HO460, HO463, BK449, HB⟩ := n_; (try clear hb); (try clear ho0); (try clear ho1); (try clear ho2); have hcz41_0 : w40.cell? ⟨gb449, 0, none⟩ = some (.int .i64 x450000_2) := (x3m BK449.out 0).trans rfl; have hcz41_1 : w40.cell? ⟨gb449, 1, none⟩ = some (.int .i64 x450001_2) := (x3m BK449.out 1).trans rfl; have hcz41_2 : w40.cell? ⟨gb449, 2, none⟩ = some (.slice Ao37 x450002_2.length co37) := (x3m BK449.out 2).trans rfl; have hcz41_3 : w40.cell? ⟨gb449, 3, none⟩ = some (.int .i64 x450003_2) := (x3m BK449.out 3).trans rfl; have hcz41_4 : w40.cell? ⟨gb449, 4, none⟩ = some (.int .i64 x450004_2) := (x3m BK449.out 4).trans rfl; have hcz41_5 : w40.cell? ⟨gb449, 5, none⟩ = some (.slice Ao38 x450005_2.length co38) := (x3m BK449.out 5).trans rfl; have hcz41_6 : w40.cell? ⟨gb449, 6, none⟩ = some (.slice Ao39 x450006_2.length co39) := (x3m BK449.out 6).trans rfl; have hfz41_0 := x2m BK449.out 0; have hfz41_1 := x2m BK449.out 1; have hfz41_2 := x2m BK449.out 2; have hfz41_3 := x2m BK449.out 3; have hfz41_4 := x2m BK449.out 4; have hfz41_5 := x2m BK449.out 5; have hfz41_6 := x2m BK449.out 6; obtain ⟨Ao42, co42, eo42⟩ := Kd.R_slice HO455.out; subst eo42; obtain ⟨Ao43, co43, eo43⟩ := Kd.R_slice HO460.out; subst eo43; obtain ⟨Ao44, co44, eo44⟩ := Kd.V_slice HO463.out; subst eo44))
            go_roundg k2
            case measure => have := HJ1.out; have := HK2.out; omega
            case rel => exact ⟨(x6_2 ++ (t464 ++ (⟨#[10]⟩ : ByteArray))), (wrap64 (x22_2 + 1)), (t451), (t452), (t453), (t456), (t457), (t458), (t461), (.slice Ao42 t453.length co42), (.slice Ao43 t458.length co43), (.slice Ao44 t461.length co44), (by first | rfl | (simp; done) | (simp [*]; done)), (by first | rfl | (simp; done) | (simp [*]; done)), H', ⟨by have := HJ1.out; have := HK2.out; omega⟩, ⟨by (with_reducible repeat (first | apply z8m | apply z9m | apply y1m)); exact x6m (x1m (p := ⟨gb449, 6, none⟩) (x1m (p := ⟨gb449, 5, none⟩) (x1m (p := ⟨gb449, 4, none⟩) (x1m (p := ⟨gb449, 3, none⟩) (x1m (p := ⟨gb449, 2, none⟩) (x1m (p := ⟨gb449, 1, none⟩) (x1m (p := ⟨gb449, 0, none⟩) (x7m HO_4.out BK449.out (by decide)) (fun _ hk => hk.2) (.int .i64 t451)) (fun _ hk => hk.2) (.int .i64 t452)) (fun _ hk => hk.2) (.slice Ao42 t453.length co42)) (fun _ hk => hk.2) (.int .i64 t456)) (fun _ hk => hk.2) (.int .i64 t457)) (fun _ hk => hk.2) (.slice Ao43 t458.length co43)) (fun _ hk => hk.2) (.slice Ao44 t461.length co44)) (fun _ hk => trivial)⟩, ⟨by (with_reducible repeat (first | apply z8m | apply z9m | apply y1m)); exact x6m (x1m (p := ⟨gb449, 6, none⟩) (x1m (p := ⟨gb449, 5, none⟩) (x1m (p := ⟨gb449, 4, none⟩) (x1m (p := ⟨gb449, 3, none⟩) (x1m (p := ⟨gb449, 2, none⟩) (x1m (p := ⟨gb449, 1, none⟩) (x1m (p := ⟨gb449, 0, none⟩) (x7m HO_20.out BK449.out (by decide)) (fun _ hk => hk.2) (.int .i64 t451)) (fun _ hk => hk.2) (.int .i64 t452)) (fun _ hk => hk.2) (.slice Ao42 t453.length co42)) (fun _ hk => hk.2) (.int .i64 t456)) (fun _ hk => hk.2) (.int .i64 t457)) (fun _ hk => hk.2) (.slice Ao43 t458.length co43)) (fun _ hk => hk.2) (.slice Ao44 t461.length co44)) (fun _ hk => trivial)⟩, ⟨by (with_reducible repeat (first | apply z8m | apply z9m | apply y1m)); exact x6m (x1m (p := ⟨gb449, 6, none⟩) (x1m (p := ⟨gb449, 5, none⟩) (x1m (p := ⟨gb449, 4, none⟩) (x1m (p := ⟨gb449, 3, none⟩) (x1m (p := ⟨gb449, 2, none⟩) (x1m (p := ⟨gb449, 1, none⟩) (x1m (p := ⟨gb449, 0, none⟩) (x7m HO455.out BK449.out (by decide)) (fun _ hk => hk.2) (.int .i64 t451)) (fun _ hk => hk.2) (.int .i64 t452)) (fun _ hk => hk.2) (.slice Ao42 t453.length co42)) (fun _ hk => hk.2) (.int .i64 t456)) (fun _ hk => hk.2) (.int .i64 t457)) (fun _ hk => hk.2) (.slice Ao43 t458.length co43)) (fun _ hk => hk.2) (.slice Ao44 t461.length co44)) (fun _ hk => hk.1.1.1)⟩, ⟨by (with_reducible repeat (first | apply z8m | apply z9m | apply y1m)); exact x6m (x1m (p := ⟨gb449, 6, none⟩) (x1m (p := ⟨gb449, 5, none⟩) (x1m (p := ⟨gb449, 4, none⟩) (x1m (p := ⟨gb449, 3, none⟩) (x1m (p := ⟨gb449, 2, none⟩) (x1m (p := ⟨gb449, 1, none⟩) (x1m (p := ⟨gb449, 0, none⟩) (x7m HO460.out BK449.out (by decide)) (fun _ hk => hk.2) (.int .i64 t451)) (fun _ hk => hk.2) (.int .i64 t452)) (fun _ hk => hk.2) (.slice Ao42 t453.length co42)) (fun _ hk => hk.2) (.int .i64 t456)) (fun _ hk => hk.2) (.int .i64 t457)) (fun _ hk => hk.2) (.slice Ao43 t458.length co43)) (fun _ hk => hk.2) (.slice Ao44 t461.length co44)) (fun _ hk => hk.1.1.1)⟩, ⟨by (with_reducible repeat (first | apply Kd.V_alloc | apply Kd.V_drewN | apply Kd.V_drew)); exact Kd.V_mono (Kd.V_far (p := ⟨gb449, 6, none⟩) (Kd.V_far (p := ⟨gb449, 5, none⟩) (Kd.V_far (p := ⟨gb449, 4, none⟩) (Kd.V_far (p := ⟨gb449, 3, none⟩) (Kd.V_far (p := ⟨gb449, 2, none⟩) (Kd.V_far (p := ⟨gb449, 1, none⟩) (Kd.V_far (p := ⟨gb449, 0, none⟩) (Kd.V_mono HO463.out (fun k_ hk => (⟨hk, hk.2.2.2.2.2.2⟩ : _ ∧ k_ ≠ gb449))) (fun _ hk => hk.2) (.int .i64 t451)) (fun _ hk => hk.2) (.int .i64 t452)) (fun _ hk => hk.2) (.slice Ao42 t453.length co42)) (fun _ hk => hk.2) (.int .i64 t456)) (fun _ hk => hk.2) (.int .i64 t457)) (fun _ hk => hk.2) (.slice Ao43 t458.length co43)) (fun _ hk => hk.2) (.slice Ao44 t461.length co44)) (fun _ hk => ⟨hk.1.2.2.1, ⟨hk.1.2.2.2.1, ⟨hk.1.1, ⟨hk.1.2.1, hk.1.2.2.2.2.2.2⟩⟩⟩⟩)⟩, ⟨by (with_reducible repeat (first | refine z1m ?_ _ | refine z3m ?_ | refine z2m ?_ _)); refine blk_put (cs := #[.int .i64 t451, .int .i64 t452, .slice Ao42 t453.length co42, .int .i64 t456, .int .i64 t457, .slice Ao43 t458.length co43, .slice Ao39 x450006_2.length co39]) ?_ 6 _ rfl; (with_reducible repeat (first | refine z1m ?_ _ | refine z3m ?_ | refine z2m ?_ _)); refine blk_put (cs := #[.int .i64 t451, .int .i64 t452, .slice Ao42 t453.length co42, .int .i64 t456, .int .i64 t457, .slice Ao38 x450005_2.length co38, .slice Ao39 x450006_2.length co39]) ?_ 5 _ rfl; (with_reducible repeat (first | refine z1m ?_ _ | refine z3m ?_ | refine z2m ?_ _)); refine blk_put (cs := #[.int .i64 t451, .int .i64 t452, .slice Ao42 t453.length co42, .int .i64 t456, .int .i64 x450004_2, .slice Ao38 x450005_2.length co38, .slice Ao39 x450006_2.length co39]) ?_ 4 _ rfl; (with_reducible repeat (first | refine z1m ?_ _ | refine z3m ?_ | refine z2m ?_ _)); refine blk_put (cs := #[.int .i64 t451, .int .i64 t452, .slice Ao42 t453.length co42, .int .i64 x450003_2, .int .i64 x450004_2, .slice Ao38 x450005_2.length co38, .slice Ao39 x450006_2.length co39]) ?_ 3 _ rfl; (with_reducible repeat (first | refine z1m ?_ _ | refine z3m ?_ | refine z2m ?_ _)); refine blk_put (cs := #[.int .i64 t451, .int .i64 t452, .slice Ao37 x450002_2.length co37, .int .i64 x450003_2, .int .i64 x450004_2, .slice Ao38 x450005_2.length co38, .slice Ao39 x450006_2.length co39]) ?_ 2 _ rfl; (with_reducible repeat (first | refine z1m ?_ _ | refine z3m ?_ | refine z2m ?_ _)); refine blk_put (cs := #[.int .i64 t451, .int .i64 x450001_2, .slice Ao37 x450002_2.length co37, .int .i64 x450003_2, .int .i64 x450004_2, .slice Ao38 x450005_2.length co38, .slice Ao39 x450006_2.length co39]) ?_ 1 _ rfl; (with_reducible repeat (first | refine z1m ?_ _ | refine z3m ?_ | refine z2m ?_ _)); refine blk_put (cs := #[.int .i64 x450000_2, .int .i64 x450001_2, .slice Ao37 x450002_2.length co37, .int .i64 x450003_2, .int .i64 x450004_2, .slice Ao38 x450005_2.length co38, .slice Ao39 x450006_2.length co39]) ?_ 0 _ rfl; (with_reducible repeat (first | refine z1m ?_ _ | refine z3m ?_ | refine z2m ?_ _)); exact BK449.out⟩, ⟨dV HB.out⟩⟩
           ·rw [if_neg c35] at H
            exact absurd H (by simp)
          ·rw [if_neg c34] at H
           exact absurd H (by simp)
        ·rw [if_neg c22] at H
         exact absurd H (by simp)
       ·rw [if_neg c21] at H
        exact absurd H (by simp)
      ·rw [if_neg c20] at H
       have c20b0 : decide (x22_2 < (x4_1.length : Int)) = false := decide_eq_false c20
       clear c20
       simp only [Option.some.injEq, Prod.mk.injEq] at H
       obtain ⟨rfl, rfl⟩ := H
       go_wp2
       go_ret2
       exact ⟨by first | rfl | (simp [errW_none, errW_some] <;> rfl) | (simp [*, errW_none, errW_some] <;> rfl), dV HB.out⟩

end Go.Proofs.YtkcgnnepgebekaaGreatDoor.PFnDesk
