/- Machine side of laws FnLattice: written for this claim by the kit's print program under this session's wip/tools/mp_setup.py (with contracts of the session's own, wip/ext). -/
import Derived.Test.YtabciloabpmklaaPFnLatticex0
import Derived.Test.YtabciloabpmklaaPFnLatticex1
import Derived.Test.YtabciloabpmklaaPFnLatticex2
namespace Go.Proofs.Ytabciloabpmklaa.PFnLattice
open Go.RowKit Go.Proofs.YtabciloabpmklaaW.PrintWords Go.Proofs.YtabciloabpmklaaW.PrintLast Go.Proofs.YtabciloabpmklaaW.PrintMore
attribute [local go_sem] max2_int min2_int max_two min_two max_three min_three max_four min_four   -- for this text's walks alone
set_option linter.unusedVariables false
set_option linter.unusedSimpArgs false

/-! ### spec_MakeLattice: function 32 -/
def spec_MakeLattice.f (k : Nat) (l0 : List Int) : Option (Int × Int) := (spec_l01New.f k l0).bind fun bt147 => ((some (([(⟨1, 0⟩ : S25), (⟨1, 1⟩ : S25), (⟨2, 0⟩ : S25), (⟨2, 1⟩ : S25), (⟨1, 2⟩ : S25), (⟨3, 1⟩ : S25), (⟨2, 2⟩ : S25), (⟨3, 2⟩ : S25), (⟨3, 0⟩ : S25), (⟨4, 0⟩ : S25), (⟨3, 3⟩ : S25), (⟨2, 3⟩ : S25), (⟨4, 2⟩ : S25), (⟨1, 3⟩ : S25), (⟨4, 4⟩ : S25), (⟨2, 4⟩ : S25)] : List (S25)) : List (S25))).bind fun y151 => ((spec_l01Below.f bt147.1 bt147.2.1 bt147.2.2 (y151.length : Int)).bind fun bt154 => (if 0 ≤ bt154.1 then (if bt154.1 < (y151.length : Int) then (some ((rd_T25 y151 bt154.1).f0, (rd_T25 y151 bt154.1).f1)) else (none)) else (none))))
theorem spec_MakeLattice.mono : ∀ a0 k, LeO (spec_MakeLattice.f k a0) (spec_MakeLattice.f (k + 1) a0) := by
  intro a0 k
  unfold spec_MakeLattice.f
  repeat' first
      | (with_reducible exact spec_l01New.mono _ _)
      | (with_reducible exact LeO.refl _)
      | (with_reducible exact LeO.none _)
      | (with_reducible refine LeO.ite ?_ ?_)
      | (with_reducible refine LeO.bind ?_ (fun _ => ?_))
      | exact spec_l01New.mono _ _
      | exact LeO.none _
      | refine LeO.ite ?_ ?_
      | refine LeO.bind ?_ (fun _ => ?_)
set_option maxHeartbeats 8000000 in
set_option maxRecDepth 100000 in
theorem spec_MakeLattice.calls (k : Nat) (A0 : Option Addr) (c0 : Nat) (l0 : List Int) (r1 : Int) (r2 : Int) (w : World) (hr0 : Kd.C (Kd.int .u8) w A0 l0.length l0) (hc0 : l0.length ≤ c0) (h : spec_MakeLattice.f k l0 = some (r1, r2)) :
    Calls Try.prog 32 #[.slice A0 l0.length c0] w fun e w' => e = .returned (.agg #[.int .i64 r1, .int .i64 r2]) ∧ Below w.heap.size w w' := by
  have hu25 := Try.underlying25
  have HR0 := Aside0.mk hr0
  have HC0 := Aside0.mk hc0
  clear hr0 hc0
  have HB := Aside0.mk (Below.refl w.heap.size w)
  have H : ((spec_l01New.f k l0).bind fun bt147 => ((some (([(⟨1, 0⟩ : S25), (⟨1, 1⟩ : S25), (⟨2, 0⟩ : S25), (⟨2, 1⟩ : S25), (⟨1, 2⟩ : S25), (⟨3, 1⟩ : S25), (⟨2, 2⟩ : S25), (⟨3, 2⟩ : S25), (⟨3, 0⟩ : S25), (⟨4, 0⟩ : S25), (⟨3, 3⟩ : S25), (⟨2, 3⟩ : S25), (⟨4, 2⟩ : S25), (⟨1, 3⟩ : S25), (⟨4, 4⟩ : S25), (⟨2, 4⟩ : S25)] : List (S25)) : List (S25))).bind fun y151 => ((spec_l01Below.f bt147.1 bt147.2.1 bt147.2.2 (y151.length : Int)).bind fun bt154 => (if 0 ≤ bt154.1 then (if bt154.1 < (y151.length : Int) then (some ((rd_T25 y151 bt154.1).f0, (rd_T25 y151 bt154.1).f1)) else (none)) else (none))))) = some (r1, r2) := h
  clear h
  replace H := Option.bind_eq_some_iff.mp H
  obtain ⟨⟨t147, t148, t149⟩, A20, H⟩ := H
  replace H : ((some (([(⟨1, 0⟩ : S25), (⟨1, 1⟩ : S25), (⟨2, 0⟩ : S25), (⟨2, 1⟩ : S25), (⟨1, 2⟩ : S25), (⟨3, 1⟩ : S25), (⟨2, 2⟩ : S25), (⟨3, 2⟩ : S25), (⟨3, 0⟩ : S25), (⟨4, 0⟩ : S25), (⟨3, 3⟩ : S25), (⟨2, 3⟩ : S25), (⟨4, 2⟩ : S25), (⟨1, 3⟩ : S25), (⟨4, 4⟩ : S25), (⟨2, 4⟩ : S25)] : List (S25)) : List (S25))).bind fun y151 => ((spec_l01Below.f t147 t148 t149 (y151.length : Int)).bind fun bt154 => (if 0 ≤ bt154.1 then (if bt154.1 < (y151.length : Int) then (some ((rd_T25 y151 bt154.1).f0, (rd_T25 y151 bt154.1).f1)) else (none)) else (none)))) = some (r1, r2) := H
  have A2 := Aside0.mk A20
  clear A20
  obtain ⟨y151, hy151⟩ : ∃ y_ : List (S25), y_ = (([(⟨1, 0⟩ : S25), (⟨1, 1⟩ : S25), (⟨2, 0⟩ : S25), (⟨2, 1⟩ : S25), (⟨1, 2⟩ : S25), (⟨3, 1⟩ : S25), (⟨2, 2⟩ : S25), (⟨3, 2⟩ : S25), (⟨3, 0⟩ : S25), (⟨4, 0⟩ : S25), (⟨3, 3⟩ : S25), (⟨2, 3⟩ : S25), (⟨4, 2⟩ : S25), (⟨1, 3⟩ : S25), (⟨4, 4⟩ : S25), (⟨2, 4⟩ : S25)] : List (S25))) := ⟨_, rfl⟩
  replace H : ((spec_l01Below.f t147 t148 t149 (y151.length : Int)).bind fun bt154 => (if 0 ≤ bt154.1 then (if bt154.1 < (y151.length : Int) then (some ((rd_T25 y151 bt154.1).f0, (rd_T25 y151 bt154.1).f1)) else (none)) else (none))) = some (r1, r2) := by first | (rw [hy151]; with_reducible exact H) | (have H2_ := (Option.bind_some _ _).symm.trans H; rw [hy151]; with_reducible exact H2_) | (have H2_ := (Option.bind_some _ _).symm.trans H; with_reducible exact H2_) | with_reducible exact H | (rw [hy151]; exact H) | exact H
  have Ny151 := Aside0.mk hy151
  clear hy151
  replace H := Option.bind_eq_some_iff.mp H
  obtain ⟨⟨t154, t155, t156⟩, A30, H⟩ := H
  replace H : (if 0 ≤ t154 then (if t154 < (y151.length : Int) then (some ((rd_T25 y151 t154).f0, (rd_T25 y151 t154).f1)) else (none)) else (none)) = some (r1, r2) := H
  have A3 := Aside0.mk A30
  clear A30
  by_cases c4 : 0 ≤ t154
  · rw [if_pos c4] at H
    have c4b0 : decide (0 ≤ t154) = true := decide_eq_true c4
    clear c4
    by_cases c5 : t154 < (y151.length : Int)
    · rw [if_pos c5] at H
      have c5b0 : decide (t154 < (y151.length : Int)) = true := decide_eq_true c5
      clear c5
      simp only [Option.some.injEq, Prod.mk.injEq] at H
      obtain ⟨rfl, rfl⟩ := H
      go_enter Try.func32, Try.ntmps32
      go_wp2_with (first | ((with_reducible refine gate_dst (N := 2) rfl ?_); refine box_event ?hg (N := 2) ?hd (cs := #[.int .i64 0, .int .i64 0]) (t := 25) ?hr ?_; (case hd => rfl); (case hg => rfl); (case hr => first | (go_simp; done) | (go_simp; rfl)); intro gb146 hg w6 hbox hb; have n0_ := Aside0.mk (below_step (by repeat (first | (with_reducible first | exact HB.out | apply below_alloc | apply pw_below_drewN | apply below_drew1) | exact HB.out)) hb); have n1_ := Aside0.mk (hbox); have n2_ := Aside0.mk ((by rw [hg]; exact (below_size (by repeat (first | (with_reducible first | exact HB.out | apply below_alloc | apply pw_below_drewN | apply below_drew1) | exact HB.out))) : w.heap.size ≤ gb146)); have n3_ := Aside0.mk ((by rw [hg]; exact (below_size (by repeat (first | (with_reducible first | exact HB.out | apply below_alloc | apply pw_below_drewN | apply below_drew1) | exact HB.out))) : w.heap.size ≤ gb146)); clear HB; have HB := n0_; have BK146 := n1_; have GW146 := n2_; have GE146 := n3_; clear n0_ n1_ n2_ n3_; clear hb hbox hg) | ((with_reducible refine gate_callee (f := 47) rfl ?_); refine goesL_ (some 6) rfl rfl Try.func47 (by kernel_rfl) rfl #[.slice A0 l0.length c0] rfl (by (try simp only [List.map_toArray, List.map_cons, List.map_nil]); first | done | rfl | (simp only [List.length_drop, List.length_take]; rfl)) ?_; (with_reducible refine (spec_l01New.calls k _ _ l0 t147 t148 t149 w _ ?side1 ?side2 ?side3 A2.out).mono ?_); (case side1 => repeat (first | (with_reducible first | exact HB.out | apply below_alloc | apply pw_below_drewN | apply below_drew1 | refine below_set ?_ GE146.out) | exact HB.out)); (case side2 => exact HR0.out); (case side3 => exact HC0.out); rintro e w7 ⟨g150, rfl, hi, hb, hb2⟩; refine ⟨_, rfl, ?_⟩; have n0_ := Aside0.mk (blk_below (g := gb146) (o := .cells #[.int .i64 0, .int .i64 0] 25 (0, 0)) (by (with_reducible repeat (first | refine blk_drewN ?_ _ | refine blk_drew ?_ | refine blk_alloc ?_ _)); exact BK146.out) hb2); have n1_ := Aside0.mk (hb); have n2_ := Aside0.mk (hi); have n3_ := Aside0.mk (IsS52.ne_blk hi (blk_below (g := gb146) (o := .cells #[.int .i64 0, .int .i64 0] 25 (0, 0)) (by (with_reducible repeat (first | refine blk_drewN ?_ _ | refine blk_drew ?_ | refine blk_alloc ?_ _)); exact BK146.out) hb2) (by decide)); have n4_ := Aside0.mk (Ne.symm (IsS52.ne_blk hi (blk_below (g := gb146) (o := .cells #[.int .i64 0, .int .i64 0] 25 (0, 0)) (by (with_reducible repeat (first | refine blk_drewN ?_ _ | refine blk_drew ?_ | refine blk_alloc ?_ _)); exact BK146.out) hb2) (by decide))); clear BK146; clear HB; have BK146 := n0_; have HB := n1_; have HI150 := n2_; have NB150_146 := n3_; have NB146_150 := n4_; clear n0_ n1_ n2_ n3_ n4_; (try clear hb); (try clear hb2); (try clear hk); (try clear hi)) | ((with_reducible refine gate_dst (N := 23) rfl ?_); refine Kd.R_lit k25 _ 25 ?hg (N := 23) ?hd (xs := ([(⟨1, 0⟩ : S25), (⟨1, 1⟩ : S25), (⟨2, 0⟩ : S25), (⟨2, 1⟩ : S25), (⟨1, 2⟩ : S25), (⟨3, 1⟩ : S25), (⟨2, 2⟩ : S25), (⟨3, 2⟩ : S25), (⟨3, 0⟩ : S25), (⟨4, 0⟩ : S25), (⟨3, 3⟩ : S25), (⟨2, 3⟩ : S25), (⟨4, 2⟩ : S25), (⟨1, 3⟩ : S25), (⟨4, 4⟩ : S25), (⟨2, 4⟩ : S25)] : List (S25))) (inner := [.int .i64 1, .int .i64 0, .int .i64 1, .int .i64 1, .int .i64 2, .int .i64 0, .int .i64 2, .int .i64 1, .int .i64 1, .int .i64 2, .int .i64 3, .int .i64 1, .int .i64 2, .int .i64 2, .int .i64 3, .int .i64 2, .int .i64 3, .int .i64 0, .int .i64 4, .int .i64 0, .int .i64 3, .int .i64 3, .int .i64 2, .int .i64 3, .int .i64 4, .int .i64 2, .int .i64 1, .int .i64 3, .int .i64 4, .int .i64 4, .int .i64 2, .int .i64 4]) (ok := fun _ => True) (okp := fun _ => True) ?hr ?hp (fun _ hk => hk) trivial (Below.refl _ _) (Nat.le_refl _) (by simp) ?_; (case hd => rfl); (case hg => rfl); (case hr => first | (go_simp; done) | (go_simp; rfl)); (case hp => exact (Reps.c2 (show Kd.M k25 _ _ _ (⟨1, 0⟩ : S25) [.int .i64 1, .int .i64 0] from (k25_mkM _ _ _ (⟨1, 0⟩ : S25) )) (Reps.c2 (show Kd.M k25 _ _ _ (⟨1, 1⟩ : S25) [.int .i64 1, .int .i64 1] from (k25_mkM _ _ _ (⟨1, 1⟩ : S25) )) (Reps.c2 (show Kd.M k25 _ _ _ (⟨2, 0⟩ : S25) [.int .i64 2, .int .i64 0] from (k25_mkM _ _ _ (⟨2, 0⟩ : S25) )) (Reps.c2 (show Kd.M k25 _ _ _ (⟨2, 1⟩ : S25) [.int .i64 2, .int .i64 1] from (k25_mkM _ _ _ (⟨2, 1⟩ : S25) )) (Reps.c2 (show Kd.M k25 _ _ _ (⟨1, 2⟩ : S25) [.int .i64 1, .int .i64 2] from (k25_mkM _ _ _ (⟨1, 2⟩ : S25) )) (Reps.c2 (show Kd.M k25 _ _ _ (⟨3, 1⟩ : S25) [.int .i64 3, .int .i64 1] from (k25_mkM _ _ _ (⟨3, 1⟩ : S25) )) (Reps.c2 (show Kd.M k25 _ _ _ (⟨2, 2⟩ : S25) [.int .i64 2, .int .i64 2] from (k25_mkM _ _ _ (⟨2, 2⟩ : S25) )) (Reps.c2 (show Kd.M k25 _ _ _ (⟨3, 2⟩ : S25) [.int .i64 3, .int .i64 2] from (k25_mkM _ _ _ (⟨3, 2⟩ : S25) )) (Reps.c2 (show Kd.M k25 _ _ _ (⟨3, 0⟩ : S25) [.int .i64 3, .int .i64 0] from (k25_mkM _ _ _ (⟨3, 0⟩ : S25) )) (Reps.c2 (show Kd.M k25 _ _ _ (⟨4, 0⟩ : S25) [.int .i64 4, .int .i64 0] from (k25_mkM _ _ _ (⟨4, 0⟩ : S25) )) (Reps.c2 (show Kd.M k25 _ _ _ (⟨3, 3⟩ : S25) [.int .i64 3, .int .i64 3] from (k25_mkM _ _ _ (⟨3, 3⟩ : S25) )) (Reps.c2 (show Kd.M k25 _ _ _ (⟨2, 3⟩ : S25) [.int .i64 2, .int .i64 3] from (k25_mkM _ _ _ (⟨2, 3⟩ : S25) )) (Reps.c2 (show Kd.M k25 _ _ _ (⟨4, 2⟩ : S25) [.int .i64 4, .int .i64 2] from (k25_mkM _ _ _ (⟨4, 2⟩ : S25) )) (Reps.c2 (show Kd.M k25 _ _ _ (⟨1, 3⟩ : S25) [.int .i64 1, .int .i64 3] from (k25_mkM _ _ _ (⟨1, 3⟩ : S25) )) (Reps.c2 (show Kd.M k25 _ _ _ (⟨4, 4⟩ : S25) [.int .i64 4, .int .i64 4] from (k25_mkM _ _ _ (⟨4, 4⟩ : S25) )) (Reps.c2 (show Kd.M k25 _ _ _ (⟨2, 4⟩ : S25) [.int .i64 2, .int .i64 4] from (k25_mkM _ _ _ (⟨2, 4⟩ : S25) )) (Reps.none _ _)))))))))))))))))); intro v152 w8 ho9 hb hg_ hnew_; clear hg_ hnew_; (first | rw [← Ny151.out] at ho9 | (simp only [Int.reduceToNat] at ho9; rw [← Ny151.out] at ho9)); have n0_ := Aside0.mk (Kd.R_lower (Kd.R_newB ho9 (g := gb146) (o := .cells #[.int .i64 0, .int .i64 0] 25 (0, 0)) (by (with_reducible repeat (first | refine blk_drewN ?_ _ | refine blk_drew ?_ | refine blk_alloc ?_ _)); exact BK146.out)) (below_size (by repeat (first | (with_reducible first | exact HB.out | apply below_alloc | apply pw_below_drewN | apply below_drew1 | refine below_set ?_ (IsS52.ge HI150.out) | refine below_set ?_ GE146.out) | exact HB.out)))); have n1_ := Aside0.mk (blk_below (g := gb146) (o := .cells #[.int .i64 0, .int .i64 0] 25 (0, 0)) (by (with_reducible repeat (first | refine blk_drewN ?_ _ | refine blk_drew ?_ | refine blk_alloc ?_ _)); exact BK146.out) hb); have n2_ := Aside0.mk (IsS52.below (by repeat (first | (with_reducible first | exact HI150.out | apply IsS52.alloc | apply IsS52.drewN | apply IsS52.drew | apply IsS52.set_1 | apply IsS52.set_2 | refine IsS52.far ?_ NB150_146.out _) | exact HI150.out)) hb); have n3_ := Aside0.mk (below_step (by repeat (first | (with_reducible first | exact HB.out | apply below_alloc | apply pw_below_drewN | apply below_drew1 | refine below_set ?_ (IsS52.ge HI150.out) | refine below_set ?_ GE146.out) | exact HB.out)) hb); clear BK146; clear HI150; clear HB; have HO153 := n0_; have BK146 := n1_; have HI150 := n2_; have HB := n3_; clear n0_ n1_ n2_ n3_; clear hb ho9; obtain ⟨Ao10, co10, eo10⟩ := Kd.R_slice HO153.out; subst eo10) | ((with_reducible refine gate_callee (f := 48) rfl ?_); refine goesL_ (some 28) rfl rfl Try.func48 (by kernel_rfl) rfl #[.pointer (some ⟨g150, 0, none⟩), .int .i64 (y151.length : Int)] rfl (by (try simp only [List.map_toArray, List.map_cons, List.map_nil]); first | done | rfl | (simp only [List.length_drop, List.length_take]; rfl)) ?_; (with_reducible refine (spec_l01Below.calls g150 t147 t148 t149 (y151.length : Int) t154 t155 t156 w _ ?side1 ?side2 A3.out).mono ?_); (case side1 => repeat (first | (with_reducible first | exact HI150.out | apply IsS52.alloc | apply IsS52.drewN | apply IsS52.drew | apply IsS52.set_1 | apply IsS52.set_2 | refine IsS52.far ?_ NB150_146.out _) | exact HI150.out)); (case side2 => repeat (first | (with_reducible first | exact HB.out | apply below_alloc | apply pw_below_drewN | apply below_drew1 | refine below_set ?_ (IsS52.ge HI150.out) | refine below_set ?_ GE146.out) | exact HB.out)); rintro e w11 ⟨rfl, hi, hb, hk⟩; refine ⟨_, rfl, ?_⟩; have n0_ := Aside0.mk (KeepBut.blk hk (g' := gb146) (o := .cells #[.int .i64 0, .int .i64 0] 25 (0, 0)) (by (with_reducible repeat (first | refine blk_drewN ?_ _ | refine blk_drew ?_ | refine blk_alloc ?_ _)); exact BK146.out) NB146_150.out (by simp)); have n1_ := Aside0.mk (Kd.R_mono (Kd.R_keep (IsS52.apart (show IsS52 w _ g150 t147 t148 t149 from by repeat (first | (with_reducible first | exact HI150.out | apply IsS52.alloc | apply IsS52.drewN | apply IsS52.drew | apply IsS52.set_1 | apply IsS52.set_2 | refine IsS52.far ?_ NB150_146.out _) | exact HI150.out)) (by (with_reducible repeat (first | apply Kd.R_alloc | apply Kd.R_drewN | apply Kd.R_drew)); exact HO153.out) (by decide)) hk (fun _ h => h.2)) (fun _ h => h.1)); have n2_ := Aside0.mk (hb); have n3_ := Aside0.mk (hi); clear BK146; clear HO153; clear HB; clear HI150; have BK146 := n0_; have HO153 := n1_; have HB := n2_; have HI150 := n3_; clear n0_ n1_ n2_ n3_; (try clear hb); (try clear hb2); (try clear hk); (try clear hi); have p157 : 0 ≤ (t154 : Int) := of_decide_eq_true (by first | (with_reducible assumption) | assumption); have q157 : t154 < (y151.length : Int) := of_decide_eq_true (by first | (with_reducible assumption) | assumption); obtain ⟨ad157, e157, hx157_0, hx157_1⟩ := at_T25 (Kd.R_reads' HO153.out).2.2 t154 p157 q157; cases e157; replace p157 := eq_true p157; replace q157 := eq_true q157; have hnb12 := NB146_150.out; have hnc12 := NB150_146.out; have hcz13_0 : w11.cell? ⟨gb146, 0, none⟩ = some (.int .i64 0) := (blk_cell BK146.out 0).trans rfl; have hcz13_1 : w11.cell? ⟨gb146, 1, none⟩ = some (.int .i64 0) := (blk_cell BK146.out 1).trans rfl; have hfz13_0 := blk_frozen BK146.out 0; have hfz13_1 := blk_frozen BK146.out 1))
      refine bodyPost_ret (results_cell_row rfl _ _ gb146 25 #[.int .i64 ((rd_T25 y151 t154).f0), .int .i64 ((rd_T25 y151 t154).f1)] (0, 0) _ rfl (by (with_reducible repeat (first | refine blk_drewN ?_ _ | refine blk_drew ?_ | refine blk_alloc ?_ _)); refine blk_put (cs := #[.int .i64 ((rd_T25 y151 t154).f0), .int .i64 0]) ?_ 1 _ rfl; (with_reducible repeat (first | refine blk_drewN ?_ _ | refine blk_drew ?_ | refine blk_alloc ?_ _)); refine blk_put (cs := #[.int .i64 0, .int .i64 0]) ?_ 0 _ rfl; (with_reducible repeat (first | refine blk_drewN ?_ _ | refine blk_drew ?_ | refine blk_alloc ?_ _)); exact BK146.out) Try.underlying25 rfl (by kernel_rfl)) rfl ?_
      exact ⟨by first | rfl | (simp [errW_none, errW_some] <;> rfl) | (simp [*, errW_none, errW_some] <;> rfl), by repeat (first | (with_reducible first | exact HB.out | apply below_alloc | apply pw_below_drewN | apply below_drew1 | refine below_set ?_ (IsS52.ge HI150.out) | refine below_set ?_ GE146.out) | exact HB.out)⟩
    · rw [if_neg c5] at H
      exact absurd H (by simp)
  · rw [if_neg c4] at H
    exact absurd H (by simp)

/-! ### laws_at: function 33 -/
def laws_at.f (l0 : List Int) (a1 : Int) : Option (Int) := if a1 < (l0.length : Int) then (if 0 ≤ a1 then (some (wrap64 (rd l0 a1))) else (none)) else (some (Int.tmod (wrap64 ((wrap64 (a1 * 37)) + (wrap64 ((l0.length : Int) * 11)))) 256))
set_option maxHeartbeats 8000000 in
set_option maxRecDepth 100000 in
theorem laws_at.calls (A0 : Option Addr) (c0 : Nat) (l0 : List Int) (a1 : Int) (r : Int) (w : World) (hr0 : Kd.C (Kd.int .u8) w A0 l0.length l0) (hc0 : l0.length ≤ c0) (h : laws_at.f l0 a1 = some r) :
    Calls Try.prog 33 #[.slice A0 l0.length c0, .int .i64 a1] w fun e w' => e = .returned (.int .i64 r) ∧ Drawn0 w w' := by
  have HR0 := Aside0.mk hr0
  have HC0 := Aside0.mk hc0
  clear hr0 hc0
  have H : (if a1 < (l0.length : Int) then (if 0 ≤ a1 then (some (wrap64 (rd l0 a1))) else (none)) else (some (Int.tmod (wrap64 ((wrap64 (a1 * 37)) + (wrap64 ((l0.length : Int) * 11)))) 256))) = some r := h
  clear h
  by_cases c3 : a1 < (l0.length : Int)
  · rw [if_pos c3] at H
    have c3b0 : decide (a1 < (l0.length : Int)) = true := decide_eq_true c3
    clear c3
    by_cases c4 : 0 ≤ a1
    · rw [if_pos c4] at H
      have c4b0 : decide (0 ≤ a1) = true := decide_eq_true c4
      clear c4
      obtain rfl := Option.some.inj H
      have p158 : 0 ≤ (a1 : Int) := of_decide_eq_true (by first | (with_reducible assumption) | assumption)
      have q158 : a1 < (l0.length : Int) := of_decide_eq_true (by first | (with_reducible assumption) | assumption)
      obtain ⟨ad158, e158, hx158_0⟩ := Kd.at_int HR0.out a1 p158 q158
      cases e158
      replace p158 := eq_true p158
      replace q158 := eq_true q158
      go_enter Try.func33, Try.ntmps33
      go_wp2
      go_ret
      exact ⟨by first | rfl | (simp; done) | (simp [*]; done), by repeat (first | exact Drawn0.refl _ | apply Drawn0.step)⟩
    · rw [if_neg c4] at H
      exact absurd H (by simp)
  · rw [if_neg c3] at H
    have c3b0 : decide (a1 < (l0.length : Int)) = false := decide_eq_false c3
    clear c3
    obtain rfl := Option.some.inj H
    go_enter Try.func33, Try.ntmps33
    go_wp2
    go_ret
    exact ⟨by first | rfl | (simp; done) | (simp [*]; done), by repeat (first | exact Drawn0.refl _ | apply Drawn0.step)⟩

/-! ### laws_FnLattice: function 11 -/
def laws_FnLattice.j0 : Nat → Int → Int → Int → Bool → Int → Int → Option (Bool)
  | 0, _, _, _, _, _, _ => none
  | k + 1, x4, x5, x10, x78, x162000, x162001 => if x78 = true then (some false) else ((impl_PointOf.f k x162000 x162001 x10).bind fun bt170 => (if bt170.2.2 = true then ((impl_HasPoint.f x162000 x162001 (wrap64 (x4 - bt170.1)) (wrap64 (x5 - bt170.2.1))).bind fun t173 => (if t173 = true then ((impl_HasPoint.f x162000 x162001 x4 x5).bind fun t174 => (some (t174 == (x10 == 0)))) else (some false))) else (some false)))
def laws_FnLattice.f (k : Nat) (l0 : List Int) : Option (Bool) := if (l0.length : Int) > 1048576 then (some true) else ((spec_MakeLattice.f k l0).bind fun bt159 => ((laws_at.f l0 1).bind fun t162 => ((laws_at.f l0 2).bind fun t163 => ((laws_at.f l0 3).bind fun t164 => ((laws_at.f l0 4).bind fun t165 => ((impl_NameOf.f k bt159.1 bt159.2 (wrap64 (t162 - 128)) (wrap64 (t163 - 128))).bind fun t166 => ((impl_NameOf.f k bt159.1 bt159.2 (wrap64 ((wrap64 (t162 - 128)) + (wrap64 ((wrap64 ((wrap64 ((Int.tmod t164 20) - 10)) * bt159.1)) - (wrap64 ((wrap64 ((Int.tmod t165 20) - 10)) * bt159.2)))))) (wrap64 ((wrap64 (t163 - 128)) + (wrap64 ((wrap64 ((wrap64 ((Int.tmod t164 20) - 10)) * bt159.2)) + (wrap64 ((wrap64 ((Int.tmod t165 20) - 10)) * bt159.1))))))).bind fun t167 => (if t166 = t167 then ((impl_HasPoint.f bt159.1 bt159.2 (wrap64 ((wrap64 ((wrap64 ((Int.tmod t164 20) - 10)) * bt159.1)) - (wrap64 ((wrap64 ((Int.tmod t165 20) - 10)) * bt159.2)))) (wrap64 ((wrap64 ((wrap64 ((Int.tmod t164 20) - 10)) * bt159.2)) + (wrap64 ((wrap64 ((Int.tmod t165 20) - 10)) * bt159.1))))).bind fun t168 => (if t168 = true then ((impl_NameOf.f k bt159.1 bt159.2 (wrap64 ((wrap64 ((wrap64 ((Int.tmod t164 20) - 10)) * bt159.1)) - (wrap64 ((wrap64 ((Int.tmod t165 20) - 10)) * bt159.2)))) (wrap64 ((wrap64 ((wrap64 ((Int.tmod t164 20) - 10)) * bt159.2)) + (wrap64 ((wrap64 ((Int.tmod t165 20) - 10)) * bt159.1))))).bind fun t169 => (laws_FnLattice.j0 k (wrap64 (t162 - 128)) (wrap64 (t163 - 128)) t166 (t169 != 0) bt159.1 bt159.2)) else (laws_FnLattice.j0 k (wrap64 (t162 - 128)) (wrap64 (t163 - 128)) t166 true bt159.1 bt159.2))) else (laws_FnLattice.j0 k (wrap64 (t162 - 128)) (wrap64 (t163 - 128)) t166 true bt159.1 bt159.2)))))))))
theorem laws_FnLattice.mono_l : ∀ k, (∀ y0 y1 y2 y3 y4 y5, LeO (laws_FnLattice.j0 k y0 y1 y2 y3 y4 y5) (laws_FnLattice.j0 (k + 1) y0 y1 y2 y3 y4 y5))
  | 0 => fun _ _ _ _ _ _ r h => by simp [laws_FnLattice.j0] at h
  | k + 1 => by
    have ih0 := laws_FnLattice.mono_l k
    · intro y0 y1 y2 y3 y4 y5
      unfold laws_FnLattice.j0
      repeat' first
      | (with_reducible exact ih0 _ _ _ _ _ _)
      | (with_reducible exact impl_NameOf.mono _ _ _ _ _)
      | (with_reducible exact impl_PointOf.mono _ _ _ _)
      | (with_reducible exact spec_MakeLattice.mono _ _)
      | (with_reducible exact LeO.refl _)
      | (with_reducible exact LeO.none _)
      | (with_reducible refine LeO.ite ?_ ?_)
      | (with_reducible refine LeO.bind ?_ (fun _ => ?_))
      | exact ih0 _ _ _ _ _ _
      | exact impl_NameOf.mono _ _ _ _ _
      | exact impl_PointOf.mono _ _ _ _
      | exact spec_MakeLattice.mono _ _
      | exact LeO.none _
      | refine LeO.ite ?_ ?_
      | refine LeO.bind ?_ (fun _ => ?_)
theorem laws_FnLattice.mono : ∀ a0 k, LeO (laws_FnLattice.f k a0) (laws_FnLattice.f (k + 1) a0) := by
  intro a0 k
  have ih0 := laws_FnLattice.mono_l k
  unfold laws_FnLattice.f
  repeat' first
      | (with_reducible exact ih0 _ _ _ _ _ _)
      | (with_reducible exact impl_NameOf.mono _ _ _ _ _)
      | (with_reducible exact impl_PointOf.mono _ _ _ _)
      | (with_reducible exact spec_MakeLattice.mono _ _)
      | (with_reducible exact LeO.refl _)
      | (with_reducible exact LeO.none _)
      | (with_reducible refine LeO.ite ?_ ?_)
      | (with_reducible refine LeO.bind ?_ (fun _ => ?_))
      | exact ih0 _ _ _ _ _ _
      | exact impl_NameOf.mono _ _ _ _ _
      | exact impl_PointOf.mono _ _ _ _
      | exact spec_MakeLattice.mono _ _
      | exact LeO.none _
      | refine LeO.ite ?_ ?_
      | refine LeO.bind ?_ (fun _ => ?_)
set_option maxHeartbeats 8000000 in
set_option maxRecDepth 100000 in
theorem laws_FnLattice.calls (k : Nat) (A0 : Option Addr) (c0 : Nat) (l0 : List Int) (r : Bool) (w : World) (hr0 : Kd.C (Kd.int .u8) w A0 l0.length l0) (hc0 : l0.length ≤ c0) (h : laws_FnLattice.f k l0 = some r) :
    Calls Try.prog 11 #[.slice A0 l0.length c0] w fun e w' => e = .returned (.bool r) ∧ Below w.heap.size w w' := by
  have hu25 := Try.underlying25
  have HR0 := Aside0.mk hr0
  have HC0 := Aside0.mk hc0
  clear hr0 hc0
  have HB := Aside0.mk (Below.refl w.heap.size w)
  have H : (if (l0.length : Int) > 1048576 then (some true) else ((spec_MakeLattice.f k l0).bind fun bt159 => ((laws_at.f l0 1).bind fun t162 => ((laws_at.f l0 2).bind fun t163 => ((laws_at.f l0 3).bind fun t164 => ((laws_at.f l0 4).bind fun t165 => ((impl_NameOf.f k bt159.1 bt159.2 (wrap64 (t162 - 128)) (wrap64 (t163 - 128))).bind fun t166 => ((impl_NameOf.f k bt159.1 bt159.2 (wrap64 ((wrap64 (t162 - 128)) + (wrap64 ((wrap64 ((wrap64 ((Int.tmod t164 20) - 10)) * bt159.1)) - (wrap64 ((wrap64 ((Int.tmod t165 20) - 10)) * bt159.2)))))) (wrap64 ((wrap64 (t163 - 128)) + (wrap64 ((wrap64 ((wrap64 ((Int.tmod t164 20) - 10)) * bt159.2)) + (wrap64 ((wrap64 ((Int.tmod t165 20) - 10)) * bt159.1))))))).bind fun t167 => (if t166 = t167 then ((impl_HasPoint.f bt159.1 bt159.2 (wrap64 ((wrap64 ((wrap64 ((Int.tmod t164 20) - 10)) * bt159.1)) - (wrap64 ((wrap64 ((Int.tmod t165 20) - 10)) * bt159.2)))) (wrap64 ((wrap64 ((wrap64 ((Int.tmod t164 20) - 10)) * bt159.2)) + (wrap64 ((wrap64 ((Int.tmod t165 20) - 10)) * bt159.1))))).bind fun t168 => (if t168 = true then ((impl_NameOf.f k bt159.1 bt159.2 (wrap64 ((wrap64 ((wrap64 ((Int.tmod t164 20) - 10)) * bt159.1)) - (wrap64 ((wrap64 ((Int.tmod t165 20) - 10)) * bt159.2)))) (wrap64 ((wrap64 ((wrap64 ((Int.tmod t164 20) - 10)) * bt159.2)) + (wrap64 ((wrap64 ((Int.tmod t165 20) - 10)) * bt159.1))))).bind fun t169 => (laws_FnLattice.j0 k (wrap64 (t162 - 128)) (wrap64 (t163 - 128)) t166 (t169 != 0) bt159.1 bt159.2)) else (laws_FnLattice.j0 k (wrap64 (t162 - 128)) (wrap64 (t163 - 128)) t166 true bt159.1 bt159.2))) else (laws_FnLattice.j0 k (wrap64 (t162 - 128)) (wrap64 (t163 - 128)) t166 true bt159.1 bt159.2)))))))))) = some r := h
  clear h
  by_cases c2 : (l0.length : Int) > 1048576
  · rw [if_pos c2] at H
    have c2b0 : decide (1048576 < (l0.length : Int)) = true := decide_eq_true c2
    have c2b1 : decide (1048576 < l0.length) = true := decide_eq_true (by omega)
    clear c2
    obtain rfl := Option.some.inj H
    go_enter Try.func11, Try.ntmps11
    go_wp2
    go_ret
    exact ⟨by first | rfl | (simp [errW_none, errW_some] <;> rfl) | (simp [*, errW_none, errW_some] <;> rfl), by repeat (first | (with_reducible first | exact HB.out | apply below_alloc | apply pw_below_drewN | apply below_drew1) | exact HB.out)⟩
  · rw [if_neg c2] at H
    have c2b0 : decide (1048576 < (l0.length : Int)) = false := decide_eq_false c2
    have c2b1 : decide (1048576 < l0.length) = false := decide_eq_false (by omega)
    clear c2
    replace H := Option.bind_eq_some_iff.mp H
    obtain ⟨⟨t159, t160⟩, A30, H⟩ := H
    replace H : ((laws_at.f l0 1).bind fun t162 => ((laws_at.f l0 2).bind fun t163 => ((laws_at.f l0 3).bind fun t164 => ((laws_at.f l0 4).bind fun t165 => ((impl_NameOf.f k t159 t160 (wrap64 (t162 - 128)) (wrap64 (t163 - 128))).bind fun t166 => ((impl_NameOf.f k t159 t160 (wrap64 ((wrap64 (t162 - 128)) + (wrap64 ((wrap64 ((wrap64 ((Int.tmod t164 20) - 10)) * t159)) - (wrap64 ((wrap64 ((Int.tmod t165 20) - 10)) * t160)))))) (wrap64 ((wrap64 (t163 - 128)) + (wrap64 ((wrap64 ((wrap64 ((Int.tmod t164 20) - 10)) * t160)) + (wrap64 ((wrap64 ((Int.tmod t165 20) - 10)) * t159))))))).bind fun t167 => (if t166 = t167 then ((impl_HasPoint.f t159 t160 (wrap64 ((wrap64 ((wrap64 ((Int.tmod t164 20) - 10)) * t159)) - (wrap64 ((wrap64 ((Int.tmod t165 20) - 10)) * t160)))) (wrap64 ((wrap64 ((wrap64 ((Int.tmod t164 20) - 10)) * t160)) + (wrap64 ((wrap64 ((Int.tmod t165 20) - 10)) * t159))))).bind fun t168 => (if t168 = true then ((impl_NameOf.f k t159 t160 (wrap64 ((wrap64 ((wrap64 ((Int.tmod t164 20) - 10)) * t159)) - (wrap64 ((wrap64 ((Int.tmod t165 20) - 10)) * t160)))) (wrap64 ((wrap64 ((wrap64 ((Int.tmod t164 20) - 10)) * t160)) + (wrap64 ((wrap64 ((Int.tmod t165 20) - 10)) * t159))))).bind fun t169 => (laws_FnLattice.j0 k (wrap64 (t162 - 128)) (wrap64 (t163 - 128)) t166 (t169 != 0) t159 t160)) else (laws_FnLattice.j0 k (wrap64 (t162 - 128)) (wrap64 (t163 - 128)) t166 true t159 t160))) else (laws_FnLattice.j0 k (wrap64 (t162 - 128)) (wrap64 (t163 - 128)) t166 true t159 t160)))))))) = some r := H
    have A3 := Aside0.mk A30
    clear A30
    replace H := Option.bind_eq_some_iff.mp H
    obtain ⟨t162, A40, H⟩ := H
    replace H : ((laws_at.f l0 2).bind fun t163 => ((laws_at.f l0 3).bind fun t164 => ((laws_at.f l0 4).bind fun t165 => ((impl_NameOf.f k t159 t160 (wrap64 (t162 - 128)) (wrap64 (t163 - 128))).bind fun t166 => ((impl_NameOf.f k t159 t160 (wrap64 ((wrap64 (t162 - 128)) + (wrap64 ((wrap64 ((wrap64 ((Int.tmod t164 20) - 10)) * t159)) - (wrap64 ((wrap64 ((Int.tmod t165 20) - 10)) * t160)))))) (wrap64 ((wrap64 (t163 - 128)) + (wrap64 ((wrap64 ((wrap64 ((Int.tmod t164 20) - 10)) * t160)) + (wrap64 ((wrap64 ((Int.tmod t165 20) - 10)) * t159))))))).bind fun t167 => (if t166 = t167 then ((impl_HasPoint.f t159 t160 (wrap64 ((wrap64 ((wrap64 ((Int.tmod t164 20) - 10)) * t159)) - (wrap64 ((wrap64 ((Int.tmod t165 20) - 10)) * t160)))) (wrap64 ((wrap64 ((wrap64 ((Int.tmod t164 20) - 10)) * t160)) + (wrap64 ((wrap64 ((Int.tmod t165 20) - 10)) * t159))))).bind fun t168 => (if t168 = true then ((impl_NameOf.f k t159 t160 (wrap64 ((wrap64 ((wrap64 ((Int.tmod t164 20) - 10)) * t159)) - (wrap64 ((wrap64 ((Int.tmod t165 20) - 10)) * t160)))) (wrap64 ((wrap64 ((wrap64 ((Int.tmod t164 20) - 10)) * t160)) + (wrap64 ((wrap64 ((Int.tmod t165 20) - 10)) * t159))))).bind fun t169 => (laws_FnLattice.j0 k (wrap64 (t162 - 128)) (wrap64 (t163 - 128)) t166 (t169 != 0) t159 t160)) else (laws_FnLattice.j0 k (wrap64 (t162 - 128)) (wrap64 (t163 - 128)) t166 true t159 t160))) else (laws_FnLattice.j0 k (wrap64 (t162 - 128)) (wrap64 (t163 - 128)) t166 true t159 t160))))))) = some r := H
    have A4 := Aside0.mk A40
    clear A40
    replace H := Option.bind_eq_some_iff.mp H
    obtain ⟨t163, A50, H⟩ := H
    replace H : ((laws_at.f l0 3).bind fun t164 => ((laws_at.f l0 4).bind fun t165 => ((impl_NameOf.f k t159 t160 (wrap64 (t162 - 128)) (wrap64 (t163 - 128))).bind fun t166 => ((impl_NameOf.f k t159 t160 (wrap64 ((wrap64 (t162 - 128)) + (wrap64 ((wrap64 ((wrap64 ((Int.tmod t164 20) - 10)) * t159)) - (wrap64 ((wrap64 ((Int.tmod t165 20) - 10)) * t160)))))) (wrap64 ((wrap64 (t163 - 128)) + (wrap64 ((wrap64 ((wrap64 ((Int.tmod t164 20) - 10)) * t160)) + (wrap64 ((wrap64 ((Int.tmod t165 20) - 10)) * t159))))))).bind fun t167 => (if t166 = t167 then ((impl_HasPoint.f t159 t160 (wrap64 ((wrap64 ((wrap64 ((Int.tmod t164 20) - 10)) * t159)) - (wrap64 ((wrap64 ((Int.tmod t165 20) - 10)) * t160)))) (wrap64 ((wrap64 ((wrap64 ((Int.tmod t164 20) - 10)) * t160)) + (wrap64 ((wrap64 ((Int.tmod t165 20) - 10)) * t159))))).bind fun t168 => (if t168 = true then ((impl_NameOf.f k t159 t160 (wrap64 ((wrap64 ((wrap64 ((Int.tmod t164 20) - 10)) * t159)) - (wrap64 ((wrap64 ((Int.tmod t165 20) - 10)) * t160)))) (wrap64 ((wrap64 ((wrap64 ((Int.tmod t164 20) - 10)) * t160)) + (wrap64 ((wrap64 ((Int.tmod t165 20) - 10)) * t159))))).bind fun t169 => (laws_FnLattice.j0 k (wrap64 (t162 - 128)) (wrap64 (t163 - 128)) t166 (t169 != 0) t159 t160)) else (laws_FnLattice.j0 k (wrap64 (t162 - 128)) (wrap64 (t163 - 128)) t166 true t159 t160))) else (laws_FnLattice.j0 k (wrap64 (t162 - 128)) (wrap64 (t163 - 128)) t166 true t159 t160)))))) = some r := H
    have A5 := Aside0.mk A50
    clear A50
    replace H := Option.bind_eq_some_iff.mp H
    obtain ⟨t164, A60, H⟩ := H
    replace H : ((laws_at.f l0 4).bind fun t165 => ((impl_NameOf.f k t159 t160 (wrap64 (t162 - 128)) (wrap64 (t163 - 128))).bind fun t166 => ((impl_NameOf.f k t159 t160 (wrap64 ((wrap64 (t162 - 128)) + (wrap64 ((wrap64 ((wrap64 ((Int.tmod t164 20) - 10)) * t159)) - (wrap64 ((wrap64 ((Int.tmod t165 20) - 10)) * t160)))))) (wrap64 ((wrap64 (t163 - 128)) + (wrap64 ((wrap64 ((wrap64 ((Int.tmod t164 20) - 10)) * t160)) + (wrap64 ((wrap64 ((Int.tmod t165 20) - 10)) * t159))))))).bind fun t167 => (if t166 = t167 then ((impl_HasPoint.f t159 t160 (wrap64 ((wrap64 ((wrap64 ((Int.tmod t164 20) - 10)) * t159)) - (wrap64 ((wrap64 ((Int.tmod t165 20) - 10)) * t160)))) (wrap64 ((wrap64 ((wrap64 ((Int.tmod t164 20) - 10)) * t160)) + (wrap64 ((wrap64 ((Int.tmod t165 20) - 10)) * t159))))).bind fun t168 => (if t168 = true then ((impl_NameOf.f k t159 t160 (wrap64 ((wrap64 ((wrap64 ((Int.tmod t164 20) - 10)) * t159)) - (wrap64 ((wrap64 ((Int.tmod t165 20) - 10)) * t160)))) (wrap64 ((wrap64 ((wrap64 ((Int.tmod t164 20) - 10)) * t160)) + (wrap64 ((wrap64 ((Int.tmod t165 20) - 10)) * t159))))).bind fun t169 => (laws_FnLattice.j0 k (wrap64 (t162 - 128)) (wrap64 (t163 - 128)) t166 (t169 != 0) t159 t160)) else (laws_FnLattice.j0 k (wrap64 (t162 - 128)) (wrap64 (t163 - 128)) t166 true t159 t160))) else (laws_FnLattice.j0 k (wrap64 (t162 - 128)) (wrap64 (t163 - 128)) t166 true t159 t160))))) = some r := H
    have A6 := Aside0.mk A60
    clear A60
    replace H := Option.bind_eq_some_iff.mp H
    obtain ⟨t165, A70, H⟩ := H
    replace H : ((impl_NameOf.f k t159 t160 (wrap64 (t162 - 128)) (wrap64 (t163 - 128))).bind fun t166 => ((impl_NameOf.f k t159 t160 (wrap64 ((wrap64 (t162 - 128)) + (wrap64 ((wrap64 ((wrap64 ((Int.tmod t164 20) - 10)) * t159)) - (wrap64 ((wrap64 ((Int.tmod t165 20) - 10)) * t160)))))) (wrap64 ((wrap64 (t163 - 128)) + (wrap64 ((wrap64 ((wrap64 ((Int.tmod t164 20) - 10)) * t160)) + (wrap64 ((wrap64 ((Int.tmod t165 20) - 10)) * t159))))))).bind fun t167 => (if t166 = t167 then ((impl_HasPoint.f t159 t160 (wrap64 ((wrap64 ((wrap64 ((Int.tmod t164 20) - 10)) * t159)) - (wrap64 ((wrap64 ((Int.tmod t165 20) - 10)) * t160)))) (wrap64 ((wrap64 ((wrap64 ((Int.tmod t164 20) - 10)) * t160)) + (wrap64 ((wrap64 ((Int.tmod t165 20) - 10)) * t159))))).bind fun t168 => (if t168 = true then ((impl_NameOf.f k t159 t160 (wrap64 ((wrap64 ((wrap64 ((Int.tmod t164 20) - 10)) * t159)) - (wrap64 ((wrap64 ((Int.tmod t165 20) - 10)) * t160)))) (wrap64 ((wrap64 ((wrap64 ((Int.tmod t164 20) - 10)) * t160)) + (wrap64 ((wrap64 ((Int.tmod t165 20) - 10)) * t159))))).bind fun t169 => (laws_FnLattice.j0 k (wrap64 (t162 - 128)) (wrap64 (t163 - 128)) t166 (t169 != 0) t159 t160)) else (laws_FnLattice.j0 k (wrap64 (t162 - 128)) (wrap64 (t163 - 128)) t166 true t159 t160))) else (laws_FnLattice.j0 k (wrap64 (t162 - 128)) (wrap64 (t163 - 128)) t166 true t159 t160)))) = some r := H
    have A7 := Aside0.mk A70
    clear A70
    replace H := Option.bind_eq_some_iff.mp H
    obtain ⟨t166, A80, H⟩ := H
    replace H : ((impl_NameOf.f k t159 t160 (wrap64 ((wrap64 (t162 - 128)) + (wrap64 ((wrap64 ((wrap64 ((Int.tmod t164 20) - 10)) * t159)) - (wrap64 ((wrap64 ((Int.tmod t165 20) - 10)) * t160)))))) (wrap64 ((wrap64 (t163 - 128)) + (wrap64 ((wrap64 ((wrap64 ((Int.tmod t164 20) - 10)) * t160)) + (wrap64 ((wrap64 ((Int.tmod t165 20) - 10)) * t159))))))).bind fun t167 => (if t166 = t167 then ((impl_HasPoint.f t159 t160 (wrap64 ((wrap64 ((wrap64 ((Int.tmod t164 20) - 10)) * t159)) - (wrap64 ((wrap64 ((Int.tmod t165 20) - 10)) * t160)))) (wrap64 ((wrap64 ((wrap64 ((Int.tmod t164 20) - 10)) * t160)) + (wrap64 ((wrap64 ((Int.tmod t165 20) - 10)) * t159))))).bind fun t168 => (if t168 = true then ((impl_NameOf.f k t159 t160 (wrap64 ((wrap64 ((wrap64 ((Int.tmod t164 20) - 10)) * t159)) - (wrap64 ((wrap64 ((Int.tmod t165 20) - 10)) * t160)))) (wrap64 ((wrap64 ((wrap64 ((Int.tmod t164 20) - 10)) * t160)) + (wrap64 ((wrap64 ((Int.tmod t165 20) - 10)) * t159))))).bind fun t169 => (laws_FnLattice.j0 k (wrap64 (t162 - 128)) (wrap64 (t163 - 128)) t166 (t169 != 0) t159 t160)) else (laws_FnLattice.j0 k (wrap64 (t162 - 128)) (wrap64 (t163 - 128)) t166 true t159 t160))) else (laws_FnLattice.j0 k (wrap64 (t162 - 128)) (wrap64 (t163 - 128)) t166 true t159 t160))) = some r := H
    have A8 := Aside0.mk A80
    clear A80
    have HC9 := Aside0.mk H
    clear H
    go_enter Try.func11, Try.ntmps11
    go_upto_region 11 with (first | ((with_reducible refine gate_callee (f := 32) rfl ?_); refine goesL_ (some 18) rfl rfl Try.func32 (by kernel_rfl) rfl #[.slice A0 l0.length c0] rfl (by (try simp only [List.map_toArray, List.map_cons, List.map_nil]); first | done | rfl | (simp only [List.length_drop, List.length_take]; rfl)) ?_; (with_reducible refine (spec_MakeLattice.calls k _ _ l0 t159 t160 _ ?side1 ?side2 A3.out).mono ?_); (case side1 => repeat (first | exact HR0.out | (with_reducible refine Kd.C_alloc ?_ _) | (with_reducible refine Kd.C_drewN ?_ _) | (with_reducible refine Kd.C_drew ?_))); (case side2 => exact HC0.out); rintro e w10 ⟨rfl, hb⟩; refine ⟨_, rfl, ?_⟩; have n0_ := Aside0.mk (below_step (by repeat (first | (with_reducible first | exact HB.out | apply below_alloc | apply pw_below_drewN | apply below_drew1) | exact HB.out)) hb); clear HB; have HB := n0_; clear n0_; (try clear hb); (try clear hb2); (try clear hk); (try clear hi)) | ((with_reducible refine gate_dst (N := 3) rfl ?_); refine box_event ?hg (N := 3) ?hd (cs := #[.int .i64 0, .int .i64 0]) (t := 25) ?hr ?_; (case hd => rfl); (case hg => rfl); (case hr => first | (go_simp; done) | (go_simp; rfl)); intro gb161 hg w11 hbox hb; have n0_ := Aside0.mk (below_step (by repeat (first | (with_reducible first | exact HB.out | apply below_alloc | apply pw_below_drewN | apply below_drew1) | exact HB.out)) hb); have n1_ := Aside0.mk (hbox); have n2_ := Aside0.mk ((by rw [hg]; exact (below_size (by repeat (first | (with_reducible first | exact HB.out | apply below_alloc | apply pw_below_drewN | apply below_drew1) | exact HB.out))) : w.heap.size ≤ gb161)); have n3_ := Aside0.mk ((by rw [hg]; exact (below_size (by repeat (first | (with_reducible first | exact HB.out | apply below_alloc | apply pw_below_drewN | apply below_drew1) | exact HB.out))) : w.heap.size ≤ gb161)); clear HB; have HB := n0_; have BK161 := n1_; have GW161 := n2_; have GE161 := n3_; clear n0_ n1_ n2_ n3_; clear hb hbox hg; have hcz12_0 : w11.cell? ⟨gb161, 0, none⟩ = some (.int .i64 0) := (blk_cell BK161.out 0).trans rfl; have hcz12_1 : w11.cell? ⟨gb161, 1, none⟩ = some (.int .i64 0) := (blk_cell BK161.out 1).trans rfl; have hfz12_0 := blk_frozen BK161.out 0; have hfz12_1 := blk_frozen BK161.out 1) | ((with_reducible refine gate_callee (f := 33) rfl ?_); refine goesL_ (some 20) rfl rfl Try.func33 (by kernel_rfl) rfl #[.slice A0 l0.length c0, .int .i64 1] rfl (by (try simp only [List.map_toArray, List.map_cons, List.map_nil]); first | done | rfl | (simp only [List.length_drop, List.length_take]; rfl)) ?_; (with_reducible refine (laws_at.calls _ _ l0 1 t162 _ ?side1 ?side2 A4.out).mono ?_); (case side1 => exact Kd.C_below HR0.out (by repeat (first | (with_reducible first | exact HB.out | apply below_alloc | apply pw_below_drewN | apply below_drew1 | refine below_set ?_ GE161.out) | exact HB.out))); (case side2 => exact HC0.out); rintro e w' ⟨rfl, ⟨nd, rfl⟩⟩; refine ⟨_, rfl, ?_⟩) | ((with_reducible refine gate_callee (f := 33) rfl ?_); refine goesL_ (some 23) rfl rfl Try.func33 (by kernel_rfl) rfl #[.slice A0 l0.length c0, .int .i64 2] rfl (by (try simp only [List.map_toArray, List.map_cons, List.map_nil]); first | done | rfl | (simp only [List.length_drop, List.length_take]; rfl)) ?_; (with_reducible refine (laws_at.calls _ _ l0 2 t163 _ ?side1 ?side2 A5.out).mono ?_); (case side1 => exact Kd.C_below HR0.out (by repeat (first | (with_reducible first | exact HB.out | apply below_alloc | apply pw_below_drewN | apply below_drew1 | refine below_set ?_ GE161.out) | exact HB.out))); (case side2 => exact HC0.out); rintro e w' ⟨rfl, ⟨nd, rfl⟩⟩; refine ⟨_, rfl, ?_⟩) | ((with_reducible refine gate_callee (f := 33) rfl ?_); refine goesL_ (some 26) rfl rfl Try.func33 (by kernel_rfl) rfl #[.slice A0 l0.length c0, .int .i64 3] rfl (by (try simp only [List.map_toArray, List.map_cons, List.map_nil]); first | done | rfl | (simp only [List.length_drop, List.length_take]; rfl)) ?_; (with_reducible refine (laws_at.calls _ _ l0 3 t164 _ ?side1 ?side2 A6.out).mono ?_); (case side1 => exact Kd.C_below HR0.out (by repeat (first | (with_reducible first | exact HB.out | apply below_alloc | apply pw_below_drewN | apply below_drew1 | refine below_set ?_ GE161.out) | exact HB.out))); (case side2 => exact HC0.out); rintro e w' ⟨rfl, ⟨nd, rfl⟩⟩; refine ⟨_, rfl, ?_⟩) | ((with_reducible refine gate_callee (f := 33) rfl ?_); refine goesL_ (some 30) rfl rfl Try.func33 (by kernel_rfl) rfl #[.slice A0 l0.length c0, .int .i64 4] rfl (by (try simp only [List.map_toArray, List.map_cons, List.map_nil]); first | done | rfl | (simp only [List.length_drop, List.length_take]; rfl)) ?_; (with_reducible refine (laws_at.calls _ _ l0 4 t165 _ ?side1 ?side2 A7.out).mono ?_); (case side1 => exact Kd.C_below HR0.out (by repeat (first | (with_reducible first | exact HB.out | apply below_alloc | apply pw_below_drewN | apply below_drew1 | refine below_set ?_ GE161.out) | exact HB.out))); (case side2 => exact HC0.out); rintro e w' ⟨rfl, ⟨nd, rfl⟩⟩; refine ⟨_, rfl, ?_⟩) | ((with_reducible refine gate_callee (f := 31) rfl ?_); refine goesL_ (some 54) rfl rfl Try.func31 (by kernel_rfl) rfl #[.agg #[.int .i64 t159, .int .i64 t160], .int .i64 (wrap64 (t162 - 128)), .int .i64 (wrap64 (t163 - 128))] rfl (by (try simp only [List.map_toArray, List.map_cons, List.map_nil]); first | done | rfl | (simp only [List.length_drop, List.length_take]; rfl)) ?_; (with_reducible refine (impl_NameOf.calls k t159 t160 (wrap64 (t162 - 128)) (wrap64 (t163 - 128)) t166 _ A8.out).mono ?_); rintro e w13 ⟨rfl, hb⟩; refine ⟨_, rfl, ?_⟩; have n0_ := Aside0.mk (blk_below (g := gb161) (o := .cells #[.int .i64 t159, .int .i64 t160] 25 (0, 0)) (by (with_reducible repeat (first | refine blk_drewN ?_ _ | refine blk_drew ?_ | refine blk_alloc ?_ _)); refine blk_put (cs := #[.int .i64 t159, .int .i64 0]) ?_ 1 _ rfl; (with_reducible repeat (first | refine blk_drewN ?_ _ | refine blk_drew ?_ | refine blk_alloc ?_ _)); refine blk_put (cs := #[.int .i64 0, .int .i64 0]) ?_ 0 _ rfl; (with_reducible repeat (first | refine blk_drewN ?_ _ | refine blk_drew ?_ | refine blk_alloc ?_ _)); exact BK161.out) hb); have n1_ := Aside0.mk (below_step (by repeat (first | (with_reducible first | exact HB.out | apply below_alloc | apply pw_below_drewN | apply below_drew1 | refine below_set ?_ GE161.out) | exact HB.out)) hb); clear BK161; clear HB; have BK161 := n0_; have HB := n1_; clear n0_ n1_; (try clear hb); (try clear hb2); (try clear hk); (try clear hi)))
    (try simp only [Act.put, List.setIfInBounds_toArray, List.set_cons_zero, List.set_cons_succ])
    go_cut [78] (fun v78 wc => ∃ (kq : Nat) (x78_8 : Bool), v78 = .bool x78_8 ∧ Aside0 (laws_FnLattice.j0 kq (wrap64 (t162 - 128)) (wrap64 (t163 - 128)) t166 x78_8 t159 t160 = some r) ∧ Aside0 (kq ≤ k) ∧ Aside0 (wc.heap[gb161]? = some (.cells #[.int .i64 t159, .int .i64 t160] 25 (0, 0))) ∧ Aside0 (Below w.heap.size w wc))
    case first =>
      have H := HC9.out
      clear HC9
      replace H := Option.bind_eq_some_iff.mp H
      obtain ⟨t167, A140, H⟩ := H
      replace H : (if t166 = t167 then ((impl_HasPoint.f t159 t160 (wrap64 ((wrap64 ((wrap64 ((Int.tmod t164 20) - 10)) * t159)) - (wrap64 ((wrap64 ((Int.tmod t165 20) - 10)) * t160)))) (wrap64 ((wrap64 ((wrap64 ((Int.tmod t164 20) - 10)) * t160)) + (wrap64 ((wrap64 ((Int.tmod t165 20) - 10)) * t159))))).bind fun t168 => (if t168 = true then ((impl_NameOf.f k t159 t160 (wrap64 ((wrap64 ((wrap64 ((Int.tmod t164 20) - 10)) * t159)) - (wrap64 ((wrap64 ((Int.tmod t165 20) - 10)) * t160)))) (wrap64 ((wrap64 ((wrap64 ((Int.tmod t164 20) - 10)) * t160)) + (wrap64 ((wrap64 ((Int.tmod t165 20) - 10)) * t159))))).bind fun t169 => (laws_FnLattice.j0 k (wrap64 (t162 - 128)) (wrap64 (t163 - 128)) t166 (t169 != 0) t159 t160)) else (laws_FnLattice.j0 k (wrap64 (t162 - 128)) (wrap64 (t163 - 128)) t166 true t159 t160))) else (laws_FnLattice.j0 k (wrap64 (t162 - 128)) (wrap64 (t163 - 128)) t166 true t159 t160)) = some r := H
      have A14 := Aside0.mk A140
      clear A140
      by_cases c15 : t166 = t167
      · rw [if_pos c15] at H
        have c15b0 : (t166 == t167) = true := beq_iff_eq.mpr c15
        have c15b1 : (t166 != t167) = false := bne_eq_false_iff_eq.mpr c15
        clear c15
        (first | rw [c15b0] | (simp only [i64_w, i32_w]; rw [c15b0]) | skip)
        replace H := Option.bind_eq_some_iff.mp H
        obtain ⟨t168, A160, H⟩ := H
        replace H : (if t168 = true then ((impl_NameOf.f k t159 t160 (wrap64 ((wrap64 ((wrap64 ((Int.tmod t164 20) - 10)) * t159)) - (wrap64 ((wrap64 ((Int.tmod t165 20) - 10)) * t160)))) (wrap64 ((wrap64 ((wrap64 ((Int.tmod t164 20) - 10)) * t160)) + (wrap64 ((wrap64 ((Int.tmod t165 20) - 10)) * t159))))).bind fun t169 => (laws_FnLattice.j0 k (wrap64 (t162 - 128)) (wrap64 (t163 - 128)) t166 (t169 != 0) t159 t160)) else (laws_FnLattice.j0 k (wrap64 (t162 - 128)) (wrap64 (t163 - 128)) t166 true t159 t160)) = some r := H
        have A16 := Aside0.mk A160
        clear A160
        by_cases c17 : t168 = true
        · subst c17
          have H1 : ((impl_NameOf.f k t159 t160 (wrap64 ((wrap64 ((wrap64 ((Int.tmod t164 20) - 10)) * t159)) - (wrap64 ((wrap64 ((Int.tmod t165 20) - 10)) * t160)))) (wrap64 ((wrap64 ((wrap64 ((Int.tmod t164 20) - 10)) * t160)) + (wrap64 ((wrap64 ((Int.tmod t165 20) - 10)) * t159))))).bind fun t169 => (laws_FnLattice.j0 k (wrap64 (t162 - 128)) (wrap64 (t163 - 128)) t166 (t169 != 0) t159 t160)) = some r := by rw [if_pos rfl] at H; exact H
          clear H
          have H := H1
          clear H1
          replace H := Option.bind_eq_some_iff.mp H
          obtain ⟨t169, A180, H⟩ := H
          replace H : (laws_FnLattice.j0 k (wrap64 (t162 - 128)) (wrap64 (t163 - 128)) t166 (t169 != 0) t159 t160) = some r := H
          have A18 := Aside0.mk A180
          clear A180
          have H' := Aside0.mk H
          clear H
          have hcz19_0 : w13.cell? ⟨gb161, 0, none⟩ = some (.int .i64 t159) := (blk_cell BK161.out 0).trans rfl
          have hcz19_1 : w13.cell? ⟨gb161, 1, none⟩ = some (.int .i64 t160) := (blk_cell BK161.out 1).trans rfl
          have hfz19_0 := blk_frozen BK161.out 0
          have hfz19_1 := blk_frozen BK161.out 1
          go_wp2_with (first | ((with_reducible refine gate_callee (f := 31) rfl ?_); refine goesL_ (some 63) rfl rfl Try.func31 (by kernel_rfl) rfl #[.agg #[.int .i64 t159, .int .i64 t160], .int .i64 (wrap64 ((wrap64 (t162 - 128)) + (wrap64 ((wrap64 ((wrap64 ((Int.tmod t164 20) - 10)) * t159)) - (wrap64 ((wrap64 ((Int.tmod t165 20) - 10)) * t160)))))), .int .i64 (wrap64 ((wrap64 (t163 - 128)) + (wrap64 ((wrap64 ((wrap64 ((Int.tmod t164 20) - 10)) * t160)) + (wrap64 ((wrap64 ((Int.tmod t165 20) - 10)) * t159))))))] rfl (by (try simp only [List.map_toArray, List.map_cons, List.map_nil]); first | done | rfl | (simp only [List.length_drop, List.length_take]; rfl)) ?_; (with_reducible refine (impl_NameOf.calls k t159 t160 (wrap64 ((wrap64 (t162 - 128)) + (wrap64 ((wrap64 ((wrap64 ((Int.tmod t164 20) - 10)) * t159)) - (wrap64 ((wrap64 ((Int.tmod t165 20) - 10)) * t160)))))) (wrap64 ((wrap64 (t163 - 128)) + (wrap64 ((wrap64 ((wrap64 ((Int.tmod t164 20) - 10)) * t160)) + (wrap64 ((wrap64 ((Int.tmod t165 20) - 10)) * t159)))))) t167 _ A14.out).mono ?_); rintro e w20 ⟨rfl, hb⟩; refine ⟨_, rfl, ?_⟩; have n0_ := Aside0.mk (blk_below (g := gb161) (o := .cells #[.int .i64 t159, .int .i64 t160] 25 (0, 0)) (by (with_reducible repeat (first | refine blk_drewN ?_ _ | refine blk_drew ?_ | refine blk_alloc ?_ _)); exact BK161.out) hb); have n1_ := Aside0.mk (below_step (by repeat (first | (with_reducible first | exact HB.out | apply below_alloc | apply pw_below_drewN | apply below_drew1 | refine below_set ?_ GE161.out) | exact HB.out)) hb); clear BK161; clear HB; have BK161 := n0_; have HB := n1_; clear n0_ n1_; (try clear hb); (try clear hb2); (try clear hk); (try clear hi); have hcz21_0 : w20.cell? ⟨gb161, 0, none⟩ = some (.int .i64 t159) := (blk_cell BK161.out 0).trans rfl; have hcz21_1 : w20.cell? ⟨gb161, 1, none⟩ = some (.int .i64 t160) := (blk_cell BK161.out 1).trans rfl; have hfz21_0 := blk_frozen BK161.out 0; have hfz21_1 := blk_frozen BK161.out 1) | (go_at_call 25; (with_reducible refine (impl_HasPoint.calls t159 t160 (wrap64 ((wrap64 ((wrap64 ((Int.tmod t164 20) - 10)) * t159)) - (wrap64 ((wrap64 ((Int.tmod t165 20) - 10)) * t160)))) (wrap64 ((wrap64 ((wrap64 ((Int.tmod t164 20) - 10)) * t160)) + (wrap64 ((wrap64 ((Int.tmod t165 20) - 10)) * t159)))) true _ A16.out).mono ?_); rintro e w22 ⟨rfl, hb⟩; have n0_ := Aside0.mk (blk_below (g := gb161) (o := .cells #[.int .i64 t159, .int .i64 t160] 25 (0, 0)) (by (with_reducible repeat (first | refine blk_drewN ?_ _ | refine blk_drew ?_ | refine blk_alloc ?_ _)); exact BK161.out) hb); have n1_ := Aside0.mk (below_step (by repeat (first | (with_reducible first | exact HB.out | apply below_alloc | apply pw_below_drewN | apply below_drew1 | refine below_set ?_ GE161.out) | exact HB.out)) hb); clear BK161; clear HB; have BK161 := n0_; have HB := n1_; clear n0_ n1_; (try clear hb); (try clear hb2); (try clear hk); (try clear hi); have hcz23_0 : w22.cell? ⟨gb161, 0, none⟩ = some (.int .i64 t159) := (blk_cell BK161.out 0).trans rfl; have hcz23_1 : w22.cell? ⟨gb161, 1, none⟩ = some (.int .i64 t160) := (blk_cell BK161.out 1).trans rfl; have hfz23_0 := blk_frozen BK161.out 0; have hfz23_1 := blk_frozen BK161.out 1) | (go_at_call 31; (with_reducible refine (impl_NameOf.calls k t159 t160 (wrap64 ((wrap64 ((wrap64 ((Int.tmod t164 20) - 10)) * t159)) - (wrap64 ((wrap64 ((Int.tmod t165 20) - 10)) * t160)))) (wrap64 ((wrap64 ((wrap64 ((Int.tmod t164 20) - 10)) * t160)) + (wrap64 ((wrap64 ((Int.tmod t165 20) - 10)) * t159)))) t169 _ A18.out).mono ?_); rintro e w24 ⟨rfl, hb⟩; have n0_ := Aside0.mk (blk_below (g := gb161) (o := .cells #[.int .i64 t159, .int .i64 t160] 25 (0, 0)) (by (with_reducible repeat (first | refine blk_drewN ?_ _ | refine blk_drew ?_ | refine blk_alloc ?_ _)); exact BK161.out) hb); have n1_ := Aside0.mk (below_step (by repeat (first | (with_reducible first | exact HB.out | apply below_alloc | apply pw_below_drewN | apply below_drew1 | refine below_set ?_ GE161.out) | exact HB.out)) hb); clear BK161; clear HB; have BK161 := n0_; have HB := n1_; clear n0_ n1_; (try clear hb); (try clear hb2); (try clear hk); (try clear hi)))
          go_meet
          case rel => exact ⟨_, ((t169 != 0)), (by first | rfl | (simp; done) | (simp [*]; done)), H', ⟨by first | omega | exact Nat.le_refl _⟩, ⟨by (with_reducible repeat (first | refine blk_drewN ?_ _ | refine blk_drew ?_ | refine blk_alloc ?_ _)); exact BK161.out⟩, ⟨by repeat (first | (with_reducible first | exact HB.out | apply below_alloc | apply pw_below_drewN | apply below_drew1 | refine below_set ?_ GE161.out) | exact HB.out)⟩⟩
        · replace c17 := Bool.eq_false_iff.mpr c17
          subst c17
          have H1 : (laws_FnLattice.j0 k (wrap64 (t162 - 128)) (wrap64 (t163 - 128)) t166 true t159 t160) = some r := by rw [if_neg (show ¬ (false = true) by decide)] at H; exact H
          clear H
          have H := H1
          clear H1
          have H' := Aside0.mk H
          clear H
          have hcz25_0 : w13.cell? ⟨gb161, 0, none⟩ = some (.int .i64 t159) := (blk_cell BK161.out 0).trans rfl
          have hcz25_1 : w13.cell? ⟨gb161, 1, none⟩ = some (.int .i64 t160) := (blk_cell BK161.out 1).trans rfl
          have hfz25_0 := blk_frozen BK161.out 0
          have hfz25_1 := blk_frozen BK161.out 1
          go_wp2_with (first | ((with_reducible refine gate_callee (f := 31) rfl ?_); refine goesL_ (some 63) rfl rfl Try.func31 (by kernel_rfl) rfl #[.agg #[.int .i64 t159, .int .i64 t160], .int .i64 (wrap64 ((wrap64 (t162 - 128)) + (wrap64 ((wrap64 ((wrap64 ((Int.tmod t164 20) - 10)) * t159)) - (wrap64 ((wrap64 ((Int.tmod t165 20) - 10)) * t160)))))), .int .i64 (wrap64 ((wrap64 (t163 - 128)) + (wrap64 ((wrap64 ((wrap64 ((Int.tmod t164 20) - 10)) * t160)) + (wrap64 ((wrap64 ((Int.tmod t165 20) - 10)) * t159))))))] rfl (by (try simp only [List.map_toArray, List.map_cons, List.map_nil]); first | done | rfl | (simp only [List.length_drop, List.length_take]; rfl)) ?_; (with_reducible refine (impl_NameOf.calls k t159 t160 (wrap64 ((wrap64 (t162 - 128)) + (wrap64 ((wrap64 ((wrap64 ((Int.tmod t164 20) - 10)) * t159)) - (wrap64 ((wrap64 ((Int.tmod t165 20) - 10)) * t160)))))) (wrap64 ((wrap64 (t163 - 128)) + (wrap64 ((wrap64 ((wrap64 ((Int.tmod t164 20) - 10)) * t160)) + (wrap64 ((wrap64 ((Int.tmod t165 20) - 10)) * t159)))))) t167 _ A14.out).mono ?_); rintro e w26 ⟨rfl, hb⟩; refine ⟨_, rfl, ?_⟩; have n0_ := Aside0.mk (blk_below (g := gb161) (o := .cells #[.int .i64 t159, .int .i64 t160] 25 (0, 0)) (by (with_reducible repeat (first | refine blk_drewN ?_ _ | refine blk_drew ?_ | refine blk_alloc ?_ _)); exact BK161.out) hb); have n1_ := Aside0.mk (below_step (by repeat (first | (with_reducible first | exact HB.out | apply below_alloc | apply pw_below_drewN | apply below_drew1 | refine below_set ?_ GE161.out) | exact HB.out)) hb); clear BK161; clear HB; have BK161 := n0_; have HB := n1_; clear n0_ n1_; (try clear hb); (try clear hb2); (try clear hk); (try clear hi); have hcz27_0 : w26.cell? ⟨gb161, 0, none⟩ = some (.int .i64 t159) := (blk_cell BK161.out 0).trans rfl; have hcz27_1 : w26.cell? ⟨gb161, 1, none⟩ = some (.int .i64 t160) := (blk_cell BK161.out 1).trans rfl; have hfz27_0 := blk_frozen BK161.out 0; have hfz27_1 := blk_frozen BK161.out 1) | (go_at_call 25; (with_reducible refine (impl_HasPoint.calls t159 t160 (wrap64 ((wrap64 ((wrap64 ((Int.tmod t164 20) - 10)) * t159)) - (wrap64 ((wrap64 ((Int.tmod t165 20) - 10)) * t160)))) (wrap64 ((wrap64 ((wrap64 ((Int.tmod t164 20) - 10)) * t160)) + (wrap64 ((wrap64 ((Int.tmod t165 20) - 10)) * t159)))) false _ A16.out).mono ?_); rintro e w28 ⟨rfl, hb⟩; have n0_ := Aside0.mk (blk_below (g := gb161) (o := .cells #[.int .i64 t159, .int .i64 t160] 25 (0, 0)) (by (with_reducible repeat (first | refine blk_drewN ?_ _ | refine blk_drew ?_ | refine blk_alloc ?_ _)); exact BK161.out) hb); have n1_ := Aside0.mk (below_step (by repeat (first | (with_reducible first | exact HB.out | apply below_alloc | apply pw_below_drewN | apply below_drew1 | refine below_set ?_ GE161.out) | exact HB.out)) hb); clear BK161; clear HB; have BK161 := n0_; have HB := n1_; clear n0_ n1_; (try clear hb); (try clear hb2); (try clear hk); (try clear hi)))
          go_meet
          case rel => exact ⟨_, (true), (by first | rfl | (simp; done) | (simp [*]; done)), H', ⟨by first | omega | exact Nat.le_refl _⟩, ⟨by (with_reducible repeat (first | refine blk_drewN ?_ _ | refine blk_drew ?_ | refine blk_alloc ?_ _)); exact BK161.out⟩, ⟨by repeat (first | (with_reducible first | exact HB.out | apply below_alloc | apply pw_below_drewN | apply below_drew1 | refine below_set ?_ GE161.out) | exact HB.out)⟩⟩
      · rw [if_neg c15] at H
        have c15b0 : (t166 == t167) = false := beq_eq_false_iff_ne.mpr c15
        have c15b1 : (t166 != t167) = true := bne_iff_ne.mpr c15
        (first | rw [c15b0] | (simp only [i64_w, i32_w]; rw [c15b0]) | skip)
        have H' := Aside0.mk H
        clear H
        have hcz29_0 : w13.cell? ⟨gb161, 0, none⟩ = some (.int .i64 t159) := (blk_cell BK161.out 0).trans rfl
        have hcz29_1 : w13.cell? ⟨gb161, 1, none⟩ = some (.int .i64 t160) := (blk_cell BK161.out 1).trans rfl
        have hfz29_0 := blk_frozen BK161.out 0
        have hfz29_1 := blk_frozen BK161.out 1
        go_wp2_with (first | ((with_reducible refine gate_callee (f := 31) rfl ?_); refine goesL_ (some 63) rfl rfl Try.func31 (by kernel_rfl) rfl #[.agg #[.int .i64 t159, .int .i64 t160], .int .i64 (wrap64 ((wrap64 (t162 - 128)) + (wrap64 ((wrap64 ((wrap64 ((Int.tmod t164 20) - 10)) * t159)) - (wrap64 ((wrap64 ((Int.tmod t165 20) - 10)) * t160)))))), .int .i64 (wrap64 ((wrap64 (t163 - 128)) + (wrap64 ((wrap64 ((wrap64 ((Int.tmod t164 20) - 10)) * t160)) + (wrap64 ((wrap64 ((Int.tmod t165 20) - 10)) * t159))))))] rfl (by (try simp only [List.map_toArray, List.map_cons, List.map_nil]); first | done | rfl | (simp only [List.length_drop, List.length_take]; rfl)) ?_; (with_reducible refine (impl_NameOf.calls k t159 t160 (wrap64 ((wrap64 (t162 - 128)) + (wrap64 ((wrap64 ((wrap64 ((Int.tmod t164 20) - 10)) * t159)) - (wrap64 ((wrap64 ((Int.tmod t165 20) - 10)) * t160)))))) (wrap64 ((wrap64 (t163 - 128)) + (wrap64 ((wrap64 ((wrap64 ((Int.tmod t164 20) - 10)) * t160)) + (wrap64 ((wrap64 ((Int.tmod t165 20) - 10)) * t159)))))) t167 _ A14.out).mono ?_); rintro e w30 ⟨rfl, hb⟩; refine ⟨_, rfl, ?_⟩; have n0_ := Aside0.mk (blk_below (g := gb161) (o := .cells #[.int .i64 t159, .int .i64 t160] 25 (0, 0)) (by (with_reducible repeat (first | refine blk_drewN ?_ _ | refine blk_drew ?_ | refine blk_alloc ?_ _)); exact BK161.out) hb); have n1_ := Aside0.mk (below_step (by repeat (first | (with_reducible first | exact HB.out | apply below_alloc | apply pw_below_drewN | apply below_drew1 | refine below_set ?_ GE161.out) | exact HB.out)) hb); clear BK161; clear HB; have BK161 := n0_; have HB := n1_; clear n0_ n1_; (try clear hb); (try clear hb2); (try clear hk); (try clear hi)))
        go_meet
        case rel => exact ⟨_, (true), (by first | rfl | (simp; done) | (simp [*]; done)), H', ⟨by first | omega | exact Nat.le_refl _⟩, ⟨by (with_reducible repeat (first | refine blk_drewN ?_ _ | refine blk_drew ?_ | refine blk_alloc ?_ _)); exact BK161.out⟩, ⟨by repeat (first | (with_reducible first | exact HB.out | apply below_alloc | apply pw_below_drewN | apply below_drew1 | refine below_set ?_ GE161.out) | exact HB.out)⟩⟩
    case rest =>
      clear HC9
      try clear c1
      try clear c2
      try clear c2b0
      try clear c2b1
      try clear p2
      try clear c3
      try clear p6
      try clear c11
      try clear c15
      try clear c15b0
      try clear c15b1
      try clear c17
      try clear hcz12_0
      try clear hcz12_1
      try clear hcz19_0
      try clear hcz19_1
      try clear hcz21_0
      try clear hcz21_1
      try clear hcz23_0
      try clear hcz23_1
      try clear hcz25_0
      try clear hcz25_1
      try clear hcz27_0
      try clear hcz27_1
      try clear hcz29_0
      try clear hcz29_1
      try clear hfz12_0
      try clear hfz12_1
      try clear hfz19_0
      try clear hfz19_1
      try clear hfz21_0
      try clear hfz21_1
      try clear hfz23_0
      try clear hfz23_1
      try clear hfz25_0
      try clear hfz25_1
      try clear hfz27_0
      try clear hfz27_1
      try clear hfz29_0
      try clear hfz29_1
      obtain ⟨kq, x78_8, rfl, HA, HJ8, BK161, HB⟩ := hcut
      cases kq with
      | zero => exact absurd HA.out (by simp [laws_FnLattice.j0])
      | succ kj8 =>
        have H := HA.out
        clear HA
        simp only [laws_FnLattice.j0] at H
        by_cases c31 : x78_8 = true
        · subst c31
          have H1 : (some false) = some r := by rw [if_pos rfl] at H; exact H
          clear H
          have H := H1
          clear H1
          obtain rfl := Option.some.inj H
          go_wp2
          go_ret
          exact ⟨by first | rfl | (simp [errW_none, errW_some] <;> rfl) | (simp [*, errW_none, errW_some] <;> rfl), by repeat (first | (with_reducible first | exact HB.out | apply below_alloc | apply pw_below_drewN | apply below_drew1 | refine below_set ?_ GE161.out) | exact HB.out)⟩
        · replace c31 := Bool.eq_false_iff.mpr c31
          subst c31
          have H1 : ((impl_PointOf.f kj8 t159 t160 t166).bind fun bt170 => (if bt170.2.2 = true then ((impl_HasPoint.f t159 t160 (wrap64 ((wrap64 (t162 - 128)) - bt170.1)) (wrap64 ((wrap64 (t163 - 128)) - bt170.2.1))).bind fun t173 => (if t173 = true then ((impl_HasPoint.f t159 t160 (wrap64 (t162 - 128)) (wrap64 (t163 - 128))).bind fun t174 => (some (t174 == (t166 == 0)))) else (some false))) else (some false))) = some r := by rw [if_neg (show ¬ (false = true) by decide)] at H; exact H
          clear H
          have H := H1
          clear H1
          replace H := Option.bind_eq_some_iff.mp H
          obtain ⟨⟨t170, t171, t172⟩, A320, H⟩ := H
          replace H : (if t172 = true then ((impl_HasPoint.f t159 t160 (wrap64 ((wrap64 (t162 - 128)) - t170)) (wrap64 ((wrap64 (t163 - 128)) - t171))).bind fun t173 => (if t173 = true then ((impl_HasPoint.f t159 t160 (wrap64 (t162 - 128)) (wrap64 (t163 - 128))).bind fun t174 => (some (t174 == (t166 == 0)))) else (some false))) else (some false)) = some r := H
          have A32 := Aside0.mk A320
          clear A320
          by_cases c33 : t172 = true
          · subst c33
            have H1 : ((impl_HasPoint.f t159 t160 (wrap64 ((wrap64 (t162 - 128)) - t170)) (wrap64 ((wrap64 (t163 - 128)) - t171))).bind fun t173 => (if t173 = true then ((impl_HasPoint.f t159 t160 (wrap64 (t162 - 128)) (wrap64 (t163 - 128))).bind fun t174 => (some (t174 == (t166 == 0)))) else (some false))) = some r := by rw [if_pos rfl] at H; exact H
            clear H
            have H := H1
            clear H1
            replace H := Option.bind_eq_some_iff.mp H
            obtain ⟨t173, A340, H⟩ := H
            replace H : (if t173 = true then ((impl_HasPoint.f t159 t160 (wrap64 (t162 - 128)) (wrap64 (t163 - 128))).bind fun t174 => (some (t174 == (t166 == 0)))) else (some false)) = some r := H
            have A34 := Aside0.mk A340
            clear A340
            by_cases c35 : t173 = true
            · subst c35
              have H1 : ((impl_HasPoint.f t159 t160 (wrap64 (t162 - 128)) (wrap64 (t163 - 128))).bind fun t174 => (some (t174 == (t166 == 0)))) = some r := by rw [if_pos rfl] at H; exact H
              clear H
              have H := H1
              clear H1
              replace H := Option.bind_eq_some_iff.mp H
              obtain ⟨t174, A360, H⟩ := H
              replace H : (some (t174 == (t166 == 0))) = some r := H
              have A36 := Aside0.mk A360
              clear A360
              obtain rfl := Option.some.inj H
              have hcz37_0 : wc.cell? ⟨gb161, 0, none⟩ = some (.int .i64 t159) := (blk_cell BK161.out 0).trans rfl
              have hcz37_1 : wc.cell? ⟨gb161, 1, none⟩ = some (.int .i64 t160) := (blk_cell BK161.out 1).trans rfl
              have hfz37_0 := blk_frozen BK161.out 0
              have hfz37_1 := blk_frozen BK161.out 1
              go_wp2_with (first | ((with_reducible refine gate_callee (f := 27) rfl ?_); refine goesL_ (some 82) rfl rfl Try.func27 (by kernel_rfl) rfl #[.agg #[.int .i64 t159, .int .i64 t160], .int .i64 t166] rfl (by (try simp only [List.map_toArray, List.map_cons, List.map_nil]); first | done | rfl | (simp only [List.length_drop, List.length_take]; rfl)) ?_; (with_reducible refine (impl_PointOf.calls kj8 t159 t160 t166 t170 t171 true _ A32.out).mono ?_); rintro e w38 ⟨rfl, hb⟩; refine ⟨_, rfl, ?_⟩; have n0_ := Aside0.mk (blk_below (g := gb161) (o := .cells #[.int .i64 t159, .int .i64 t160] 25 (0, 0)) (by (with_reducible repeat (first | refine blk_drewN ?_ _ | refine blk_drew ?_ | refine blk_alloc ?_ _)); exact BK161.out) hb); have n1_ := Aside0.mk (below_step (by repeat (first | (with_reducible first | exact HB.out | apply below_alloc | apply pw_below_drewN | apply below_drew1 | refine below_set ?_ GE161.out) | exact HB.out)) hb); clear BK161; clear HB; have BK161 := n0_; have HB := n1_; clear n0_ n1_; (try clear hb); (try clear hb2); (try clear hk); (try clear hi); have hcz39_0 : w38.cell? ⟨gb161, 0, none⟩ = some (.int .i64 t159) := (blk_cell BK161.out 0).trans rfl; have hcz39_1 : w38.cell? ⟨gb161, 1, none⟩ = some (.int .i64 t160) := (blk_cell BK161.out 1).trans rfl; have hfz39_0 := blk_frozen BK161.out 0; have hfz39_1 := blk_frozen BK161.out 1) | (go_at_call 25; (with_reducible refine (impl_HasPoint.calls t159 t160 (wrap64 ((wrap64 (t162 - 128)) - t170)) (wrap64 ((wrap64 (t163 - 128)) - t171)) true _ A34.out).mono ?_); rintro e w40 ⟨rfl, hb⟩; have n0_ := Aside0.mk (blk_below (g := gb161) (o := .cells #[.int .i64 t159, .int .i64 t160] 25 (0, 0)) (by (with_reducible repeat (first | refine blk_drewN ?_ _ | refine blk_drew ?_ | refine blk_alloc ?_ _)); exact BK161.out) hb); have n1_ := Aside0.mk (below_step (by repeat (first | (with_reducible first | exact HB.out | apply below_alloc | apply pw_below_drewN | apply below_drew1 | refine below_set ?_ GE161.out) | exact HB.out)) hb); clear BK161; clear HB; have BK161 := n0_; have HB := n1_; clear n0_ n1_; (try clear hb); (try clear hb2); (try clear hk); (try clear hi); have hcz41_0 : w40.cell? ⟨gb161, 0, none⟩ = some (.int .i64 t159) := (blk_cell BK161.out 0).trans rfl; have hcz41_1 : w40.cell? ⟨gb161, 1, none⟩ = some (.int .i64 t160) := (blk_cell BK161.out 1).trans rfl; have hfz41_0 := blk_frozen BK161.out 0; have hfz41_1 := blk_frozen BK161.out 1) | (go_at_call 25; (with_reducible refine (impl_HasPoint.calls t159 t160 (wrap64 (t162 - 128)) (wrap64 (t163 - 128)) t174 _ A36.out).mono ?_); rintro e w42 ⟨rfl, hb⟩; have n0_ := Aside0.mk (blk_below (g := gb161) (o := .cells #[.int .i64 t159, .int .i64 t160] 25 (0, 0)) (by (with_reducible repeat (first | refine blk_drewN ?_ _ | refine blk_drew ?_ | refine blk_alloc ?_ _)); exact BK161.out) hb); have n1_ := Aside0.mk (below_step (by repeat (first | (with_reducible first | exact HB.out | apply below_alloc | apply pw_below_drewN | apply below_drew1 | refine below_set ?_ GE161.out) | exact HB.out)) hb); clear BK161; clear HB; have BK161 := n0_; have HB := n1_; clear n0_ n1_; (try clear hb); (try clear hb2); (try clear hk); (try clear hi)))
              go_ret
              exact ⟨by first | rfl | (simp [errW_none, errW_some] <;> rfl) | (simp [*, errW_none, errW_some] <;> rfl), by repeat (first | (with_reducible first | exact HB.out | apply below_alloc | apply pw_below_drewN | apply below_drew1 | refine below_set ?_ GE161.out) | exact HB.out)⟩
            · replace c35 := Bool.eq_false_iff.mpr c35
              subst c35
              have H1 : (some false) = some r := by rw [if_neg (show ¬ (false = true) by decide)] at H; exact H
              clear H
              have H := H1
              clear H1
              obtain rfl := Option.some.inj H
              have hcz43_0 : wc.cell? ⟨gb161, 0, none⟩ = some (.int .i64 t159) := (blk_cell BK161.out 0).trans rfl
              have hcz43_1 : wc.cell? ⟨gb161, 1, none⟩ = some (.int .i64 t160) := (blk_cell BK161.out 1).trans rfl
              have hfz43_0 := blk_frozen BK161.out 0
              have hfz43_1 := blk_frozen BK161.out 1
              go_wp2_with (first | ((with_reducible refine gate_callee (f := 27) rfl ?_); refine goesL_ (some 82) rfl rfl Try.func27 (by kernel_rfl) rfl #[.agg #[.int .i64 t159, .int .i64 t160], .int .i64 t166] rfl (by (try simp only [List.map_toArray, List.map_cons, List.map_nil]); first | done | rfl | (simp only [List.length_drop, List.length_take]; rfl)) ?_; (with_reducible refine (impl_PointOf.calls kj8 t159 t160 t166 t170 t171 true _ A32.out).mono ?_); rintro e w44 ⟨rfl, hb⟩; refine ⟨_, rfl, ?_⟩; have n0_ := Aside0.mk (blk_below (g := gb161) (o := .cells #[.int .i64 t159, .int .i64 t160] 25 (0, 0)) (by (with_reducible repeat (first | refine blk_drewN ?_ _ | refine blk_drew ?_ | refine blk_alloc ?_ _)); exact BK161.out) hb); have n1_ := Aside0.mk (below_step (by repeat (first | (with_reducible first | exact HB.out | apply below_alloc | apply pw_below_drewN | apply below_drew1 | refine below_set ?_ GE161.out) | exact HB.out)) hb); clear BK161; clear HB; have BK161 := n0_; have HB := n1_; clear n0_ n1_; (try clear hb); (try clear hb2); (try clear hk); (try clear hi); have hcz45_0 : w44.cell? ⟨gb161, 0, none⟩ = some (.int .i64 t159) := (blk_cell BK161.out 0).trans rfl; have hcz45_1 : w44.cell? ⟨gb161, 1, none⟩ = some (.int .i64 t160) := (blk_cell BK161.out 1).trans rfl; have hfz45_0 := blk_frozen BK161.out 0; have hfz45_1 := blk_frozen BK161.out 1) | (go_at_call 25; (with_reducible refine (impl_HasPoint.calls t159 t160 (wrap64 ((wrap64 (t162 - 128)) - t170)) (wrap64 ((wrap64 (t163 - 128)) - t171)) false _ A34.out).mono ?_); rintro e w46 ⟨rfl, hb⟩; have n0_ := Aside0.mk (blk_below (g := gb161) (o := .cells #[.int .i64 t159, .int .i64 t160] 25 (0, 0)) (by (with_reducible repeat (first | refine blk_drewN ?_ _ | refine blk_drew ?_ | refine blk_alloc ?_ _)); exact BK161.out) hb); have n1_ := Aside0.mk (below_step (by repeat (first | (with_reducible first | exact HB.out | apply below_alloc | apply pw_below_drewN | apply below_drew1 | refine below_set ?_ GE161.out) | exact HB.out)) hb); clear BK161; clear HB; have BK161 := n0_; have HB := n1_; clear n0_ n1_; (try clear hb); (try clear hb2); (try clear hk); (try clear hi)))
              go_ret
              exact ⟨by first | rfl | (simp [errW_none, errW_some] <;> rfl) | (simp [*, errW_none, errW_some] <;> rfl), by repeat (first | (with_reducible first | exact HB.out | apply below_alloc | apply pw_below_drewN | apply below_drew1 | refine below_set ?_ GE161.out) | exact HB.out)⟩
          · replace c33 := Bool.eq_false_iff.mpr c33
            subst c33
            have H1 : (some false) = some r := by rw [if_neg (show ¬ (false = true) by decide)] at H; exact H
            clear H
            have H := H1
            clear H1
            obtain rfl := Option.some.inj H
            have hcz47_0 : wc.cell? ⟨gb161, 0, none⟩ = some (.int .i64 t159) := (blk_cell BK161.out 0).trans rfl
            have hcz47_1 : wc.cell? ⟨gb161, 1, none⟩ = some (.int .i64 t160) := (blk_cell BK161.out 1).trans rfl
            have hfz47_0 := blk_frozen BK161.out 0
            have hfz47_1 := blk_frozen BK161.out 1
            go_wp2_with (first | ((with_reducible refine gate_callee (f := 27) rfl ?_); refine goesL_ (some 82) rfl rfl Try.func27 (by kernel_rfl) rfl #[.agg #[.int .i64 t159, .int .i64 t160], .int .i64 t166] rfl (by (try simp only [List.map_toArray, List.map_cons, List.map_nil]); first | done | rfl | (simp only [List.length_drop, List.length_take]; rfl)) ?_; (with_reducible refine (impl_PointOf.calls kj8 t159 t160 t166 t170 t171 false _ A32.out).mono ?_); rintro e w48 ⟨rfl, hb⟩; refine ⟨_, rfl, ?_⟩; have n0_ := Aside0.mk (blk_below (g := gb161) (o := .cells #[.int .i64 t159, .int .i64 t160] 25 (0, 0)) (by (with_reducible repeat (first | refine blk_drewN ?_ _ | refine blk_drew ?_ | refine blk_alloc ?_ _)); exact BK161.out) hb); have n1_ := Aside0.mk (below_step (by repeat (first | (with_reducible first | exact HB.out | apply below_alloc | apply pw_below_drewN | apply below_drew1 | refine below_set ?_ GE161.out) | exact HB.out)) hb); clear BK161; clear HB; have BK161 := n0_; have HB := n1_; clear n0_ n1_; (try clear hb); (try clear hb2); (try clear hk); (try clear hi)))
            go_ret
            exact ⟨by first | rfl | (simp [errW_none, errW_some] <;> rfl) | (simp [*, errW_none, errW_some] <;> rfl), by repeat (first | (with_reducible first | exact HB.out | apply below_alloc | apply pw_below_drewN | apply below_drew1 | refine below_set ?_ GE161.out) | exact HB.out)⟩

/-- THE ONE PURE STATEMENT of laws_FnLattice: yours. -/
def laws_FnLattice.Pure : Prop := ∀ (l0 : List Int), l0.length ≤ maxLen → l0.length * 1 ≤ 140737488351232 → (∀ x ∈ l0, (Lit.int .u8 x).wf = true) → ∃ k, laws_FnLattice.f k l0 = some true
theorem laws_FnLattice.walk (P : laws_FnLattice.Pure) (a0 : Option Addr) (len0 cap0 : Nat) (z0 : List Int) (w : World) (w0 : (a0 = none ∧ len0 = 0 ∧ cap0 = 0 ∧ z0 = []) ∨ ∃ x, a0 = some x ∧ len0 ≤ cap0 ∧ cap0 ≤ maxLen ∧ z0.length = cap0 ∧ (∀ i, i < z0.length → w.cell? (x.add i) = some (.int .u8 (z0.getD i 0))) ∧ ∀ n ∈ z0, (Lit.int .u8 n).wf = true) (y0 : len0 * 1 ≤ 140737488351232) :
    Calls Try.prog 11 #[.slice a0 len0 cap0] w fun e w' => e = .returned (.bool true) ∧ Below w.heap.size w w' := by
  obtain ⟨l0, rfl, hr0, hm0, hw0, hc0⟩ := ReadsInt.ofRowC w0
  obtain ⟨k, h⟩ := P l0 hm0 y0 hw0
  refine (laws_FnLattice.calls k _ _ l0 true w (Kd.C_of_reads (d := (0 : Int)) (h1 := fun _ => rfl) hr0) hc0 h).mono ?_
  rintro e w' ⟨rfl, hd⟩
  exact ⟨rfl, hd⟩

end Go.Proofs.Ytabciloabpmklaa.PFnLattice
