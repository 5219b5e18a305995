/- Machine side of laws FnCausal: written for this claim by the kit's print program under this session's wip/tools/mp_setup.py (with contracts of the session's own, wip/ext). -/
import Derived.Test.YtnohdgbfgdnpfaaPFnCausalx0
import Derived.Test.YtnohdgbfgdnpfaaPFnCausalx1
import Derived.Test.YtnohdgbfgdnpfaaPFnCausalx2
namespace Go.Proofs.Ytnohdgbfgdnpfaa.PFnCausal
open Go.RowKit Go.Proofs.YtnohdgbfgdnpfaaW.PrintWords Go.Proofs.YtnohdgbfgdnpfaaW.PrintLast Go.Proofs.YtnohdgbfgdnpfaaW.PrintMore
attribute [local go_sem] max2_int min2_int max_two min_two max_three min_three max_four min_four   -- for this text's walks alone
set_option linter.unusedVariables false
set_option linter.unusedSimpArgs false
-- squeezed: words under short names
set_option linter.defProp false in
def z0d := @Aside0.mk
set_option linter.defProp false in
def z4d := @below_alloc
set_option linter.defProp false in
def z5d := @pw_below_drewN
set_option linter.defProp false in
def z6d := @below_drew1
def bsd_ (n m : Nat) : Array Bool := ((List.range n).map fun i => m.testBit i).toArray
def spec_MakePicture.f (k : Nat) (l0 : List Int) (a1 : Int) : Option (Int × Int × List Int) := (spec_l01New.f k l0).bind fun bt161 => ((spec_l1Draw.f k bt161.1 bt161.2.1 bt161.2.2 (mx 1 (mn a1 16))).bind fun bt165 => (some (bt165.1, bt165.2.1, bt165.2.2.1)))
set_option maxHeartbeats 8000000 in
set_option maxRecDepth 100000 in
theorem spec_MakePicture.calls (k : Nat) (A0 : Option Addr) (c0 : Nat) (l0 : List Int) (a1 : Int) (r1 : Int) (r2 : Int) (r3 : List Int) (w : World) (hr0 : Kd.C (Kd.int .u8) w A0 l0.length l0) (hc0 : l0.length ≤ c0) (h : spec_MakePicture.f k l0 a1 = some (r1, r2, r3)) :
  Calls Try.prog 11 #[.slice A0 l0.length c0, .int .i64 a1] w fun e w' => ∃ v2_ : Value, e = .returned (.agg #[.int .i64 r1, .int .i64 r2, v2_]) ∧ Kd.R (Kd.int .i64) 3 w' w.heap.size (fun _ => True) v2_ r3 ∧ Below w.heap.size w w' := by
 have hu31 := Try.underlying31
 have HR0 := z0d hr0
 have HC0 := z0d hc0
 clear hr0 hc0
 have HB := z0d (Below.refl w.heap.size w)
 have H : ((spec_l01New.f k l0).bind fun bt161 => ((spec_l1Draw.f k bt161.1 bt161.2.1 bt161.2.2 (mx 1 (mn a1 16))).bind fun bt165 => (some (bt165.1, bt165.2.1, bt165.2.2.1)))) = some (r1, r2, r3) := h
 clear h
 replace H := Option.bind_eq_some_iff.mp H
 obtain ⟨⟨t161, t162, t163⟩, A30, H⟩ := H
 replace H : ((spec_l1Draw.f k t161 t162 t163 (mx 1 (mn a1 16))).bind fun bt165 => (some (bt165.1, bt165.2.1, bt165.2.2.1))) = some (r1, r2, r3) := H
 have A3 := z0d A30
 clear A30
 obtain ⟨ji4, hji4⟩ : ∃ j_ : Int, (mn a1 16) = j_ := ⟨_, rfl⟩
 replace H : ((spec_l1Draw.f k t161 t162 t163 (mx 1 (ji4))).bind fun bt165 => (some (bt165.1, bt165.2.1, bt165.2.2.1))) = some (r1, r2, r3) := by first|(rw [hji4] at H;exact H)|(simp only [hji4] at H ⊢;exact H)
 (try rw [hji4] at A3)
 (try (have hji4h : ji4 ≤ 16 := by (rw [← hji4];unfold mn;(repeat' split) <;> omega)))
 (try (have hji4g : ji4 ≤ 64 := by omega))
 have hji4_ : (if 16 < a1 then 16 else a1) = ji4 := hji4
 obtain ⟨ji5, hji5⟩ : ∃ j_ : Int, (mx 1 (ji4)) = j_ := ⟨_, rfl⟩
 replace H : ((spec_l1Draw.f k t161 t162 t163 (ji5)).bind fun bt165 => (some (bt165.1, bt165.2.1, bt165.2.2.1))) = some (r1, r2, r3) := by first|(rw [hji5] at H;exact H)|(simp only [hji5] at H ⊢;exact H)
 (try rw [hji5] at A3)
 have hji5_ : (if 1 < (ji4) then (ji4) else 1) = ji5 := hji5
 replace H := Option.bind_eq_some_iff.mp H
 obtain ⟨⟨t165, t166, t167, t170, t171⟩, A60, H⟩ := H
 replace H : (some (t165, t166, t167)) = some (r1, r2, r3) := H
 have A6 := z0d A60
 clear A60
 simp only [Option.some.injEq, Prod.mk.injEq] at H
 obtain ⟨rfl, rfl, rfl⟩ := H
 go_enter Try.func11, Try.ntmps11
 go_wp2_with (first|((with_reducible refine gate_dst (N := 4) rfl ?_);refine box_event ?hg (N := 4) ?hd (cs := #[.int .i64 0, .int .i64 0, .slice none 0 0]) (t := 31) ?hr ?_;(case hd => rfl);(case hg => rfl);(case hr => first|(go_simp;done)|(go_simp;rfl));intro gb160 hg w7 hbox hb;have n0_ := z0d (below_step (by repeat (first|(with_reducible first|exact HB.out|apply z4d|apply z5d|apply z6d)|exact HB.out)) hb);have n1_ := z0d (hbox);have n2_ := z0d ((by rw [hg];exact (below_size (by repeat (first|(with_reducible first|exact HB.out|apply z4d|apply z5d|apply z6d)|exact HB.out))) : w.heap.size ≤ gb160));have n3_ := z0d ((by rw [hg];exact (below_size (by repeat (first|(with_reducible first|exact HB.out|apply z4d|apply z5d|apply z6d)|exact HB.out))) : w.heap.size ≤ gb160));clear HB;have HB := n0_;have BK160 := n1_;have GW160 := n2_;have GE160 := n3_;clear n0_ n1_ n2_ n3_;clear hb hbox hg)|((with_reducible refine gate_callee (f := 37) rfl ?_);refine goesL_ (some 6) rfl rfl Try.func37 (by kernel_rfl) rfl #[.slice A0 l0.length c0] rfl (by (try simp only [List.map_toArray, List.map_cons, List.map_nil]);first | done |rfl|(simp only [List.length_drop, List.length_take];rfl)) ?_;(with_reducible refine (spec_l01New.calls k _ _ l0 t161 t162 t163 w _ ?side1 ?side2 ?side3 A3.out).mono ?_);(case side1 => repeat (first|(with_reducible first|exact HB.out|apply z4d|apply z5d|apply z6d|refine below_set ?_ GE160.out)|exact HB.out));(case side2 => exact HR0.out);(case side3 => exact HC0.out);rintro e w8 ⟨g164, rfl, hi, hb, hb2⟩;refine ⟨_, rfl, ?_⟩;have n0_ := z0d (blk_below (g := gb160) (o := .cells #[.int .i64 0, .int .i64 0, .slice none 0 0] 31 (0, 0)) (by (with_reducible repeat (first|refine blk_drewN ?_ _|refine blk_drew ?_|refine blk_alloc ?_ _));exact BK160.out) hb2);have n1_ := z0d (hb);have n2_ := z0d (hi);have n3_ := z0d (IsS78.ne_blk hi (blk_below (g := gb160) (o := .cells #[.int .i64 0, .int .i64 0, .slice none 0 0] 31 (0, 0)) (by (with_reducible repeat (first|refine blk_drewN ?_ _|refine blk_drew ?_|refine blk_alloc ?_ _));exact BK160.out) hb2) (by decide));have n4_ := z0d (Ne.symm (IsS78.ne_blk hi (blk_below (g := gb160) (o := .cells #[.int .i64 0, .int .i64 0, .slice none 0 0] 31 (0, 0)) (by (with_reducible repeat (first|refine blk_drewN ?_ _|refine blk_drew ?_|refine blk_alloc ?_ _));exact BK160.out) hb2) (by decide)));clear BK160;clear HB;have BK160 := n0_;have HB := n1_;have HI164 := n2_;have NB164_160 := n3_;have NB160_164 := n4_;clear n0_ n1_ n2_ n3_ n4_;(try clear hb);(try clear hb2);(try clear hk);(try clear hi))|((with_reducible refine gate_callee (f := 41) rfl ?_);refine goesL_ (some 10) rfl rfl Try.func41 (by kernel_rfl) rfl #[.pointer (some ⟨g164, 0, none⟩), .int .i64 ji5] rfl (by (try simp only [List.map_toArray, List.map_cons, List.map_nil]);first | done|(simp only [hji5];rfl) |rfl|(simp only [List.length_drop, List.length_take];rfl)) ?_;(with_reducible refine (spec_l1Draw.calls k g164 t161 t162 t163 ji5 t165 t166 t167 t170 t171 w _ ?side1 ?side2 A6.out).mono ?_);(case side1 => repeat (first|(with_reducible first|exact HI164.out|apply IsS78.alloc|apply IsS78.drewN|apply IsS78.drew|apply IsS78.set_1|apply IsS78.set_2|refine IsS78.far ?_ NB164_160.out _)|exact HI164.out));(case side2 => repeat (first|(with_reducible first|exact HB.out|apply z4d|apply z5d|apply z6d|refine below_set ?_ (IsS78.ge HI164.out)|refine below_set ?_ GE160.out)|exact HB.out));rintro e w9 ⟨v168, rfl, ho0, hi, hb, hk⟩;refine ⟨_, rfl, ?_⟩;have n0_ := z0d (KeepBut.blk hk (g' := gb160) (o := .cells #[.int .i64 0, .int .i64 0, .slice none 0 0] 31 (0, 0)) (by (with_reducible repeat (first|refine blk_drewN ?_ _|refine blk_drew ?_|refine blk_alloc ?_ _));exact BK160.out) NB160_164.out (by simp));have n1_ := z0d (Kd.R_lower ho0 (below_size (by repeat (first|(with_reducible first|exact HB.out|apply z4d|apply z5d|apply z6d|refine below_set ?_ (IsS78.ge HI164.out)|refine below_set ?_ GE160.out)|exact HB.out))));have n2_ := z0d (hb);have n3_ := z0d (hi);clear BK160;clear HB;clear HI164;have BK160 := n0_;have HO169 := n1_;have HB := n2_;have HI164 := n3_;clear n0_ n1_ n2_ n3_;(try clear hb);(try clear hb2);(try clear hk);(try clear hi);(try clear ho0);have hnb10 := NB160_164.out;have hnc10 := NB164_160.out;have hcz11_0 : w9.cell? ⟨gb160, 0, none⟩ = some (.int .i64 0) := (blk_cell BK160.out 0).trans rfl;have hcz11_1 : w9.cell? ⟨gb160, 1, none⟩ = some (.int .i64 0) := (blk_cell BK160.out 1).trans rfl;have hcz11_2 : w9.cell? ⟨gb160, 2, none⟩ = some (.slice none 0 0) := (blk_cell BK160.out 2).trans rfl;have hfz11_0 := blk_frozen BK160.out 0;have hfz11_1 := blk_frozen BK160.out 1;have hfz11_2 := blk_frozen BK160.out 2;obtain ⟨Ao12, co12, eo12⟩ := Kd.R_slice HO169.out;subst eo12))
 refine bodyPost_ret (results_cell_row rfl _ _ gb160 31 #[.int .i64 t165, .int .i64 t166, .slice Ao12 t167.length co12] (0, 0) _ rfl (by (with_reducible repeat (first|refine blk_drewN ?_ _|refine blk_drew ?_|refine blk_alloc ?_ _));refine blk_put (cs := #[.int .i64 t165, .int .i64 t166, .slice none 0 0]) ?_ 2 _ rfl;(with_reducible repeat (first|refine blk_drewN ?_ _|refine blk_drew ?_|refine blk_alloc ?_ _));refine blk_put (cs := #[.int .i64 t165, .int .i64 0, .slice none 0 0]) ?_ 1 _ rfl;(with_reducible repeat (first|refine blk_drewN ?_ _|refine blk_drew ?_|refine blk_alloc ?_ _));refine blk_put (cs := #[.int .i64 0, .int .i64 0, .slice none 0 0]) ?_ 0 _ rfl;(with_reducible repeat (first|refine blk_drewN ?_ _|refine blk_drew ?_|refine blk_alloc ?_ _));exact BK160.out) Try.underlying31 rfl (by kernel_rfl)) rfl ?_
 exact ⟨_, by first |rfl|(simp [errW_none, errW_some] <;> rfl)|(simp only [← hji4, ← hji5];first |rfl|(simp [errW_none, errW_some] <;> rfl))|(simp [*, errW_none, errW_some] <;> rfl), by (with_reducible repeat (first|apply Kd.R_alloc|apply Kd.R_drewN|apply Kd.R_drew));exact Kd.R_mono (Kd.R_far (p := ⟨gb160, 2, none⟩) (Kd.R_far (p := ⟨gb160, 1, none⟩) (Kd.R_far (p := ⟨gb160, 0, none⟩) (Kd.R_types HO169.out BK160.out (by decide)) (fun _ hk => hk.2) (.int .i64 t165)) (fun _ hk => hk.2) (.int .i64 t166)) (fun _ hk => hk.2) (.slice Ao12 t167.length co12)) (fun _ hk => trivial), by repeat (first|(with_reducible first|exact HB.out|apply z4d|apply z5d|apply z6d|refine below_set ?_ (IsS78.ge HI164.out)|refine below_set ?_ GE160.out)|exact HB.out)⟩

def laws_fresh.l0 : Nat → List Int → Int → List Int → Int → Option (List Int)
 | 0, _, _, _, _ => none
 | k + 1, x0, x1, x5, x6 => if x6 < (x0.length : Int) then (if x6 < 600 then (if 0 ≤ x6 then (if x5.length < 140737488355328 then (laws_fresh.l0 k x0 x1 (x5 ++ [(wrap64 ((wrap64 ((wrap64 (rd x0 x6)) * 3)) + (wrap64 (x1 * (wrap64 ((Int.tmod x6 7) + 1)))))) % 256]) (wrap64 (x6 + 1))) else (none)) else (none)) else (some x5)) else (some x5)
def laws_fresh.f (k : Nat) (l0 : List Int) (a1 : Int) : Option (List Int) := laws_fresh.l0 k l0 a1 (([(a1) % 256] : List Int)) 0
set_option maxHeartbeats 8000000 in
set_option maxRecDepth 100000 in
theorem laws_fresh.calls (k : Nat) (A0 : Option Addr) (c0 : Nat) (l0 : List Int) (a1 : Int) (r : List Int) (w : World) (hr0 : Kd.C (Kd.int .u8) w A0 l0.length l0) (hc0 : l0.length ≤ c0) (h : laws_fresh.f k l0 a1 = some r) :
  Calls Try.prog 12 #[.slice A0 l0.length c0, .int .i64 a1] w fun e w' => ∃ v0_ : Value, e = .returned (v0_) ∧ Kd.R (Kd.int .u8) 5 w' w.heap.size (fun _ => True) v0_ r ∧ Below w.heap.size w w' := by
 have HR0 := z0d hr0
 have HC0 := z0d hc0
 clear hr0 hc0
 have HB := z0d (Below.refl w.heap.size w)
 have H : (laws_fresh.l0 k l0 a1 (([(a1) % 256] : List Int)) 0) = some r := h
 clear h
 obtain ⟨y172, hy172⟩ : ∃ y_ : List Int, y_ = (([(a1) % 256] : List Int)) := ⟨_, rfl⟩
 replace H : (laws_fresh.l0 k l0 a1 y172 0) = some r := by first|(rw [hy172];with_reducible exact H)|(have H2_ := (Option.bind_some _ _).symm.trans H;rw [hy172];with_reducible exact H2_)|(have H2_ := (Option.bind_some _ _).symm.trans H;with_reducible exact H2_) | with_reducible exact H|(rw [hy172];exact H)|exact H
 have Ny172 := z0d hy172
 clear hy172
 have H' := z0d H
 clear H
 go_enter Try.func12, Try.ntmps12
 go_wp2_with (first|((with_reducible refine gate_dst (N := 9) rfl ?_);refine Kd.R_lit (Kd.int .u8) _ 5 ?hg (N := 9) ?hd (xs := ([(a1) % 256] : List Int)) (inner := [.int .u8 ((a1) % 256)]) (ok := fun _ => True) (okp := fun _ => True) ?hr ?hp (fun _ hk => hk) trivial (Below.refl _ _) (Nat.le_refl _) (by simp) ?_;(case hd => rfl);(case hg => rfl);(case hr => first|(go_simp;done)|(go_simp;rfl));(case hp => exact (Reps.one (show Kd.M (Kd.int .u8) _ _ _ ((a1) % 256) [.int .u8 ((a1) % 256)] from rfl) (Reps.none _ _)));intro v173 w3 ho4 hb hg_ hnew_;clear hg_ hnew_;(first | rw [← Ny172.out] at ho4|(simp only [Int.reduceToNat] at ho4;rw [← Ny172.out] at ho4));have n0_ := z0d (Kd.R_lower ho4 (below_size (by repeat (first|(with_reducible first|exact HB.out|apply z4d|apply z5d|apply z6d)|exact HB.out))));have n1_ := z0d (below_step (by repeat (first|(with_reducible first|exact HB.out|apply z4d|apply z5d|apply z6d)|exact HB.out)) hb);clear HB;have HO174 := n0_;have HB := n1_;clear n0_ n1_;clear hb ho4))
 go_loopg [5, 6] k (fun kq v5 v6 w' => ∃ (x5_1 : List Int) (x6_1 : Int), v6 = .int .i64 x6_1 ∧ Aside0 (laws_fresh.l0 kq l0 a1 x5_1 x6_1 = some r) ∧ Aside0 (kq ≤ k) ∧ Aside0 (Kd.R (Kd.int .u8) 5 w' w.heap.size (fun _ => True) v5 x5_1) ∧ Aside0 (Below w.heap.size w w'))
 case atStart => exact ⟨(y172), (0), (by first |rfl|(simp;done)|(simp [*];done)), H', ⟨Nat.le_refl _⟩, ⟨by (with_reducible repeat (first|apply Kd.R_alloc|apply Kd.R_drewN|apply Kd.R_drew));exact HO174.out⟩, ⟨by repeat (first|(with_reducible first|exact HB.out|apply z4d|apply z5d|apply z6d)|exact HB.out)⟩⟩
 case round =>
  clear H'
  (try clear c1);(try clear p2)
  obtain ⟨x5_1, x6_1, rfl, HA, HK1, HO_5, HB⟩ := hrel
  cases gk with
  | zero => exact absurd HA.out (by simp [laws_fresh.l0])
  | succ k1 =>
   have H := HA.out
   clear HA
   simp only [laws_fresh.l0] at H
   by_cases c5 : x6_1 < (l0.length : Int)
   ·rw [if_pos c5] at H
    have c5b0 : decide (x6_1 < (l0.length : Int)) = true := decide_eq_true c5
    clear c5
    by_cases c6 : x6_1 < 600
    ·rw [if_pos c6] at H
     have c6b0 : decide (x6_1 < 600) = true := decide_eq_true c6
     clear c6
     by_cases c7 : 0 ≤ x6_1
     ·rw [if_pos c7] at H
      have c7b0 : decide (0 ≤ x6_1) = true := decide_eq_true c7
      clear c7
      by_cases c8 : x5_1.length < 140737488355328
      ·rw [if_pos c8] at H
       have LMc8 := z0d c8
       clear c8
       obtain ⟨y176, hy176⟩ : ∃ y_ : List Int, y_ = (x5_1 ++ [(wrap64 ((wrap64 ((wrap64 (rd l0 x6_1)) * 3)) + (wrap64 (a1 * (wrap64 ((Int.tmod x6_1 7) + 1)))))) % 256]) := ⟨_, rfl⟩
       replace H : (laws_fresh.l0 k1 l0 a1 y176 (wrap64 (x6_1 + 1))) = some r := by first|(rw [hy176];with_reducible exact H)|(have H2_ := (Option.bind_some _ _).symm.trans H;rw [hy176];with_reducible exact H2_)|(have H2_ := (Option.bind_some _ _).symm.trans H;with_reducible exact H2_) | with_reducible exact H|(rw [hy176];exact H)|exact H
       have Ny176 := z0d hy176
       clear hy176
       have H' := z0d H
       clear H
       have p175 : 0 ≤ (x6_1 : Int) := of_decide_eq_true (by first|(with_reducible assumption) | assumption)
       have q175 : x6_1 < (l0.length : Int) := of_decide_eq_true (by first|(with_reducible assumption) | assumption)
       obtain ⟨ad175, e175, hx175_0⟩ := Kd.at_int HR0.out x6_1 p175 q175
       cases e175
       replace hx175_0 := (HB.out.cell (World.block_lt_of_cell? w _ hx175_0)).trans hx175_0
       replace p175 := eq_true p175
       replace q175 := eq_true q175
       go_wp2_with (first|((with_reducible refine gate_builtin (b := .append) (xs := #[.tmp 20, .tmp 34]) rfl ?_);at_builtin;refine Kd.R_append (Kd.int .u8) (w0 := w) w.heap.size rfl (.tmp 20) (.tmp 34) 22 5 (.int .u8 0) 1 rfl Try.underlying22 info5 rfl (by decide) (by omega) u5 x5_1 ((wrap64 ((wrap64 ((wrap64 (rd l0 x6_1)) * 3)) + (wrap64 (a1 * (wrap64 ((Int.tmod x6_1 7) + 1)))))) % 256) [.int .u8 ((wrap64 ((wrap64 ((wrap64 (rd l0 x6_1)) * 3)) + (wrap64 (a1 * (wrap64 ((Int.tmod x6_1 7) + 1)))))) % 256)] (fun _ => True) (fun _ => False) rfl rfl ?aP (fun _ hk => hk.elim) ?aF ?aO ?aB ?aS ?aL ?_;(case aP => exact rfl);(case aB => exact (by repeat (first|(with_reducible first|exact HB.out|apply z4d|apply z5d|apply z6d)|exact HB.out)));(case aF => exact (fun _ _ => trivial));(case aO => exact (by (with_reducible repeat (first|apply Kd.R_alloc|apply Kd.R_drewN|apply Kd.R_drew));exact HO_5.out));(case aS => exact (below_size (by repeat (first|(with_reducible first|exact HB.out|apply z4d|apply z5d|apply z6d)|exact HB.out))));(case aL => have := LMc8.out;omega);intro v177 w9 ho hb hg hat;rw [← Ny176.out] at ho;have n0_ := z0d (hb);have n1_ := z0d (ho);clear HB;clear HO_5;have HB := n0_;have HO178 := n1_;clear n0_ n1_;clear ho hb hg hat))
       go_roundg k1
       case measure => have := HK1.out;omega
       case rel => exact ⟨(y176), (wrap64 (x6_1 + 1)), (by first |rfl|(simp;done)|(simp [*];done)), H', ⟨by have := HK1.out;omega⟩, ⟨by (with_reducible repeat (first|apply Kd.R_alloc|apply Kd.R_drewN|apply Kd.R_drew));exact HO178.out⟩, ⟨by repeat (first|(with_reducible first|exact HB.out|apply z4d|apply z5d|apply z6d)|exact HB.out)⟩⟩
      ·rw [if_neg c8] at H
       exact absurd H (by simp)
     ·rw [if_neg c7] at H
      exact absurd H (by simp)
    ·rw [if_neg c6] at H
     have c6b0 : decide (x6_1 < 600) = false := decide_eq_false c6
     clear c6
     obtain rfl := Option.some.inj H
     go_wp2
     go_ret
     exact ⟨_, by first |rfl|(simp [errW_none, errW_some] <;> rfl)|(simp [*, errW_none, errW_some] <;> rfl), by (with_reducible repeat (first|apply Kd.R_alloc|apply Kd.R_drewN|apply Kd.R_drew));exact HO_5.out, by repeat (first|(with_reducible first|exact HB.out|apply z4d|apply z5d|apply z6d)|exact HB.out)⟩
   ·rw [if_neg c5] at H
    have c5b0 : decide (x6_1 < (l0.length : Int)) = false := decide_eq_false c5
    clear c5
    obtain rfl := Option.some.inj H
    go_wp2
    go_ret
    exact ⟨_, by first |rfl|(simp [errW_none, errW_some] <;> rfl)|(simp [*, errW_none, errW_some] <;> rfl), by (with_reducible repeat (first|apply Kd.R_alloc|apply Kd.R_drewN|apply Kd.R_drew));exact HO_5.out, by repeat (first|(with_reducible first|exact HB.out|apply z4d|apply z5d|apply z6d)|exact HB.out)⟩

end Go.Proofs.Ytnohdgbfgdnpfaa.PFnCausal
