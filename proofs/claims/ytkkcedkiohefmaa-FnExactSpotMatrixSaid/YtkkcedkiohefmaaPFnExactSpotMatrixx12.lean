/- Machine side of laws FnExactSpotMatrix: written for this claim by the kit's print program under this session's wip/tools/mp_setup.py (with contracts of the session's own, wip/ext). -/
import Derived.Test.YtkkcedkiohefmaaPFnExactSpotMatrixx0
import Derived.Test.YtkkcedkiohefmaaPFnExactSpotMatrixx8
import Derived.Test.YtkkcedkiohefmaaPFnExactSpotMatrixx9
import Derived.Test.YtkkcedkiohefmaaPFnExactSpotMatrixx10
import Derived.Test.YtkkcedkiohefmaaPFnExactSpotMatrixx11
namespace Go.Proofs.Ytkkcedkiohefmaa.PFnExactSpotMatrix
open Go.RowKit Go.Proofs.YtkkcedkiohefmaaW.PrintWords Go.Proofs.YtkkcedkiohefmaaW.PrintLast Go.Proofs.YtkkcedkiohefmaaW.PrintMore
attribute [local go_sem] max2_int min2_int max_two min_two max_three min_three max_four min_four   -- for this text's walks alone
set_option linter.unusedVariables false
set_option linter.unusedSimpArgs false

mutual
def laws_FnExactSpotMatrix.j0 : Nat → Bool → Bool → Int → Int → Int → Int → List Int → Int → Int → List Int → Option (Bool)
  | 0, _, _, _, _, _, _, _, _, _, _ => none
  | k + 1, x4, x31, x305000, x305001, x314000, x314001, x314002, x323000, x323001, x323002 => if x31 = true then (some false) else ((laws_markMatrix.f k x323000 x323001 x323002 1).bind fun bt324 => ((laws_heldMatrix.f k x323000 x323001 bt324.2 1).bind fun t326 => (if t326 < 0 then (some false) else (if t326 = bt324.1 then ((laws_toLattice.f x305000 x305001).bind fun bt327 => ((impl_SpotMatrix.f k bt327.1 bt327.2).bind fun bt329 => ((laws_eqMatrix.f k bt329.1 bt329.2.1 bt329.2.2.1 x314000 x314001 x314002).bind fun t336 => (if t336 = true then (laws_FnExactSpotMatrix.j1 k bt324.1 (bt329.2.2.2 != x4) x323000 x323001 bt324.2) else (laws_FnExactSpotMatrix.j1 k bt324.1 true x323000 x323001 bt324.2))))) else (some false)))))
def laws_FnExactSpotMatrix.j1 : Nat → Int → Bool → Int → Int → List Int → Option (Bool)
  | 0, _, _, _, _, _ => none
  | k + 1, x7, x57, x323000, x323001, x323002 => if x57 = true then (some false) else ((laws_heldMatrix.f k x323000 x323001 x323002 1).bind fun t337 => (if t337 < 0 then (some false) else (if t337 = x7 then (some true) else (some false))))
end
def laws_FnExactSpotMatrix.f (k : Nat) (a0_0 : Int) (a0_1 : Int) : Option (Bool) := (laws_toLattice.f a0_0 a0_1).bind fun bt305 => ((spec_SpotMatrix.f k bt305.1 bt305.2).bind fun bt307 => ((laws_toLattice.f a0_0 a0_1).bind fun bt314 => ((impl_SpotMatrix.f k bt314.1 bt314.2).bind fun bt316 => ((laws_eqMatrix.f k bt316.1 bt316.2.1 bt316.2.2.1 bt307.1 bt307.2.1 bt307.2.2.1).bind fun t323 => (if t323 = true then (laws_FnExactSpotMatrix.j0 k bt307.2.2.2 (bt316.2.2.2 != bt307.2.2.2) a0_0 a0_1 bt307.1 bt307.2.1 bt307.2.2.1 bt316.1 bt316.2.1 bt316.2.2.1) else (laws_FnExactSpotMatrix.j0 k bt307.2.2.2 true a0_0 a0_1 bt307.1 bt307.2.1 bt307.2.2.1 bt316.1 bt316.2.1 bt316.2.2.1))))))
set_option maxHeartbeats 8000000 in
set_option maxRecDepth 100000 in
theorem laws_FnExactSpotMatrix.calls (k : Nat) (a0_0 : Int) (a0_1 : Int) (r : Bool) (w : World) (h : laws_FnExactSpotMatrix.f k a0_0 a0_1 = some r) (hr_ : r = true := by rfl) :
    Calls Try.prog 7 #[.agg #[.int .i64 a0_0, .int .i64 a0_1]] w fun e w' => e = .returned (.bool r) ∧ Below w.heap.size w w' := by
  have HRT_ := Aside0.mk hr_
  clear hr_
  have hu42 := Try.underlying42
  have hu37 := Try.underlying37
  have HB := Aside0.mk (Below.refl w.heap.size w)
  have H : ((laws_toLattice.f a0_0 a0_1).bind fun bt305 => ((spec_SpotMatrix.f k bt305.1 bt305.2).bind fun bt307 => ((laws_toLattice.f a0_0 a0_1).bind fun bt314 => ((impl_SpotMatrix.f k bt314.1 bt314.2).bind fun bt316 => ((laws_eqMatrix.f k bt316.1 bt316.2.1 bt316.2.2.1 bt307.1 bt307.2.1 bt307.2.2.1).bind fun t323 => (if t323 = true then (laws_FnExactSpotMatrix.j0 k bt307.2.2.2 (bt316.2.2.2 != bt307.2.2.2) a0_0 a0_1 bt307.1 bt307.2.1 bt307.2.2.1 bt316.1 bt316.2.1 bt316.2.2.1) else (laws_FnExactSpotMatrix.j0 k bt307.2.2.2 true a0_0 a0_1 bt307.1 bt307.2.1 bt307.2.2.1 bt316.1 bt316.2.1 bt316.2.2.1))))))) = some r := h
  clear h
  replace H := Option.bind_eq_some_iff.mp H
  obtain ⟨⟨t305, t306⟩, A20, H⟩ := H
  replace H : ((spec_SpotMatrix.f k t305 t306).bind fun bt307 => ((laws_toLattice.f a0_0 a0_1).bind fun bt314 => ((impl_SpotMatrix.f k bt314.1 bt314.2).bind fun bt316 => ((laws_eqMatrix.f k bt316.1 bt316.2.1 bt316.2.2.1 bt307.1 bt307.2.1 bt307.2.2.1).bind fun t323 => (if t323 = true then (laws_FnExactSpotMatrix.j0 k bt307.2.2.2 (bt316.2.2.2 != bt307.2.2.2) a0_0 a0_1 bt307.1 bt307.2.1 bt307.2.2.1 bt316.1 bt316.2.1 bt316.2.2.1) else (laws_FnExactSpotMatrix.j0 k bt307.2.2.2 true a0_0 a0_1 bt307.1 bt307.2.1 bt307.2.2.1 bt316.1 bt316.2.1 bt316.2.2.1)))))) = some r := H
  have A2 := Aside0.mk A20
  clear A20
  replace H := Option.bind_eq_some_iff.mp H
  obtain ⟨⟨t307, t308, t309, t312⟩, A30, H⟩ := H
  replace H : ((laws_toLattice.f a0_0 a0_1).bind fun bt314 => ((impl_SpotMatrix.f k bt314.1 bt314.2).bind fun bt316 => ((laws_eqMatrix.f k bt316.1 bt316.2.1 bt316.2.2.1 t307 t308 t309).bind fun t323 => (if t323 = true then (laws_FnExactSpotMatrix.j0 k t312 (bt316.2.2.2 != t312) a0_0 a0_1 t307 t308 t309 bt316.1 bt316.2.1 bt316.2.2.1) else (laws_FnExactSpotMatrix.j0 k t312 true a0_0 a0_1 t307 t308 t309 bt316.1 bt316.2.1 bt316.2.2.1))))) = some r := H
  have A3 := Aside0.mk A30
  clear A30
  replace H := Option.bind_eq_some_iff.mp H
  obtain ⟨⟨t314, t315⟩, A40, H⟩ := H
  replace H : ((impl_SpotMatrix.f k t314 t315).bind fun bt316 => ((laws_eqMatrix.f k bt316.1 bt316.2.1 bt316.2.2.1 t307 t308 t309).bind fun t323 => (if t323 = true then (laws_FnExactSpotMatrix.j0 k t312 (bt316.2.2.2 != t312) a0_0 a0_1 t307 t308 t309 bt316.1 bt316.2.1 bt316.2.2.1) else (laws_FnExactSpotMatrix.j0 k t312 true a0_0 a0_1 t307 t308 t309 bt316.1 bt316.2.1 bt316.2.2.1)))) = some r := H
  have A4 := Aside0.mk A40
  clear A40
  replace H := Option.bind_eq_some_iff.mp H
  obtain ⟨⟨t316, t317, t318, t321⟩, A50, H⟩ := H
  replace H : ((laws_eqMatrix.f k t316 t317 t318 t307 t308 t309).bind fun t323 => (if t323 = true then (laws_FnExactSpotMatrix.j0 k t312 (t321 != t312) a0_0 a0_1 t307 t308 t309 t316 t317 t318) else (laws_FnExactSpotMatrix.j0 k t312 true a0_0 a0_1 t307 t308 t309 t316 t317 t318))) = some r := H
  have A5 := Aside0.mk A50
  clear A50
  have HC6 := Aside0.mk H
  clear H
  go_enter Try.func7, Try.ntmps7
  go_upto_region 3 with (first | ((with_reducible refine gate_dst (N := 1) rfl ?_); refine box_event ?hg (N := 1) ?hd (cs := #[.int .i64 a0_0, .int .i64 a0_1]) (t := 42) ?hr ?_; (case hd => rfl); (case hg => rfl); (case hr => first | (go_simp; done) | (go_simp; rfl)); intro gb304 hg w7 hbox hb; have n0_ := Aside0.mk (below_step (by repeat (first | (with_reducible first | exact HB.out | apply below_alloc | apply pw_below_drewN | apply below_drew1) | exact HB.out)) hb); have n1_ := Aside0.mk (hbox); have n2_ := Aside0.mk ((by rw [hg]; exact (below_size (by repeat (first | (with_reducible first | exact HB.out | apply below_alloc | apply pw_below_drewN | apply below_drew1) | exact HB.out))) : w.heap.size ≤ gb304)); have n3_ := Aside0.mk ((by rw [hg]; exact (below_size (by repeat (first | (with_reducible first | exact HB.out | apply below_alloc | apply pw_below_drewN | apply below_drew1) | exact HB.out))) : w.heap.size ≤ gb304)); clear HB; have HB := n0_; have BK304 := n1_; have GW304 := n2_; have GE304 := n3_; clear n0_ n1_ n2_ n3_; clear hb hbox hg; have hcz8_0 : w7.cell? ⟨gb304, 0, none⟩ = some (.int .i64 a0_0) := (blk_cell BK304.out 0).trans rfl; have hcz8_1 : w7.cell? ⟨gb304, 1, none⟩ = some (.int .i64 a0_1) := (blk_cell BK304.out 1).trans rfl; have hfz8_0 := blk_frozen BK304.out 0; have hfz8_1 := blk_frozen BK304.out 1) | ((with_reducible refine gate_callee (f := 20) rfl ?_); refine goesL_ (some 13) rfl rfl Try.func20 (by kernel_rfl) rfl #[.agg #[.int .i64 a0_0, .int .i64 a0_1]] rfl (by (try simp only [List.map_toArray, List.map_cons, List.map_nil]); first | done | rfl | (simp only [List.length_drop, List.length_take]; rfl)) ?_; (with_reducible refine (laws_toLattice.calls a0_0 a0_1 t305 t306 _ A2.out).mono ?_); rintro e w9 ⟨rfl, hb⟩; refine ⟨_, rfl, ?_⟩; have n0_ := Aside0.mk (blk_below (g := gb304) (o := .cells #[.int .i64 a0_0, .int .i64 a0_1] 42 (0, 0)) (by (with_reducible repeat (first | refine blk_drewN ?_ _ | refine blk_drew ?_ | refine blk_alloc ?_ _)); exact BK304.out) hb); have n1_ := Aside0.mk (below_step (by repeat (first | (with_reducible first | exact HB.out | apply below_alloc | apply pw_below_drewN | apply below_drew1 | refine below_set ?_ GE304.out) | exact HB.out)) hb); clear BK304; clear HB; have BK304 := n0_; have HB := n1_; clear n0_ n1_; (try clear hb); (try clear hb2); (try clear hk); (try clear hi)) | ((with_reducible refine gate_callee (f := 29) rfl ?_); refine goesL_ (some 14) rfl rfl Try.func29 (by kernel_rfl) rfl #[.agg #[.int .i64 t305, .int .i64 t306]] rfl (by (try simp only [List.map_toArray, List.map_cons, List.map_nil]); first | done | rfl | (simp only [List.length_drop, List.length_take]; rfl)) ?_; (with_reducible refine (spec_SpotMatrix.calls k t305 t306 t307 t308 t309 t312 _ A3.out).mono ?_); rintro e w10 ⟨v310, rfl, ho0, hb⟩; refine ⟨_, rfl, ?_⟩; have n0_ := Aside0.mk (Kd.R_lower ho0 (below_size (by repeat (first | (with_reducible first | exact HB.out | apply below_alloc | apply pw_below_drewN | apply below_drew1 | refine below_set ?_ GE304.out) | exact HB.out)))); have n1_ := Aside0.mk (blk_below (g := gb304) (o := .cells #[.int .i64 a0_0, .int .i64 a0_1] 42 (0, 0)) (by (with_reducible repeat (first | refine blk_drewN ?_ _ | refine blk_drew ?_ | refine blk_alloc ?_ _)); exact BK304.out) hb); have n2_ := Aside0.mk (below_step (by repeat (first | (with_reducible first | exact HB.out | apply below_alloc | apply pw_below_drewN | apply below_drew1 | refine below_set ?_ GE304.out) | exact HB.out)) hb); clear BK304; clear HB; have HO311 := n0_; have BK304 := n1_; have HB := n2_; clear n0_ n1_ n2_; (try clear hb); (try clear hb2); (try clear hk); (try clear hi); (try clear ho0)) | ((with_reducible refine gate_dst (N := 3) rfl ?_); refine box_event ?hg (N := 3) ?hd (cs := #[.int .i64 0, .int .i64 0, .slice none 0 0]) (t := 37) ?hr ?_; (case hd => rfl); (case hg => rfl); (case hr => first | (go_simp; done) | (go_simp; rfl)); intro gb313 hg w11 hbox hb; have n0_ := Aside0.mk (Kd.R_below (by (with_reducible repeat (first | apply Kd.R_alloc | apply Kd.R_drewN | apply Kd.R_drew)); exact HO311.out) hb); have n1_ := Aside0.mk (blk_below (g := gb304) (o := .cells #[.int .i64 a0_0, .int .i64 a0_1] 42 (0, 0)) (by (with_reducible repeat (first | refine blk_drewN ?_ _ | refine blk_drew ?_ | refine blk_alloc ?_ _)); exact BK304.out) hb); have n2_ := Aside0.mk (below_step (by repeat (first | (with_reducible first | exact HB.out | apply below_alloc | apply pw_below_drewN | apply below_drew1 | refine below_set ?_ GE304.out) | exact HB.out)) hb); have n3_ := Aside0.mk (hbox); have n4_ := Aside0.mk ((by rw [hg]; exact (below_size (by repeat (first | (with_reducible first | exact HB.out | apply below_alloc | apply pw_below_drewN | apply below_drew1 | refine below_set ?_ GE304.out) | exact HB.out))) : w.heap.size ≤ gb313)); have n5_ := Aside0.mk ((by rw [hg]; exact (below_size (by repeat (first | (with_reducible first | exact HB.out | apply below_alloc | apply pw_below_drewN | apply below_drew1 | refine below_set ?_ GE304.out) | exact HB.out))) : w.heap.size ≤ gb313)); have n6_ := Aside0.mk ((by rw [hg]; exact Nat.ne_of_lt (blk_lt (g := gb304) (o := .cells #[.int .i64 a0_0, .int .i64 a0_1] 42 (0, 0)) (by (with_reducible repeat (first | refine blk_drewN ?_ _ | refine blk_drew ?_ | refine blk_alloc ?_ _)); exact BK304.out)) : gb304 ≠ gb313)); have n7_ := Aside0.mk ((by rw [hg]; exact Nat.ne_of_gt (blk_lt (g := gb304) (o := .cells #[.int .i64 a0_0, .int .i64 a0_1] 42 (0, 0)) (by (with_reducible repeat (first | refine blk_drewN ?_ _ | refine blk_drew ?_ | refine blk_alloc ?_ _)); exact BK304.out)) : gb313 ≠ gb304)); clear HO311; clear BK304; clear HB; have HO311 := n0_; have BK304 := n1_; have HB := n2_; have BK313 := n3_; have GW313 := n4_; have GE313 := n5_; have NB304_313 := n6_; have NB313_304 := n7_; clear n0_ n1_ n2_ n3_ n4_ n5_ n6_ n7_; clear hb hbox hg; have hnb12 := NB313_304.out; have hnc12 := NB304_313.out; have hcz13_0 : w11.cell? ⟨gb313, 0, none⟩ = some (.int .i64 0) := (blk_cell BK313.out 0).trans rfl; have hcz13_1 : w11.cell? ⟨gb313, 1, none⟩ = some (.int .i64 0) := (blk_cell BK313.out 1).trans rfl; have hcz13_2 : w11.cell? ⟨gb313, 2, none⟩ = some (.slice none 0 0) := (blk_cell BK313.out 2).trans rfl; have hfz13_0 := blk_frozen BK313.out 0; have hfz13_1 := blk_frozen BK313.out 1; have hfz13_2 := blk_frozen BK313.out 2; obtain ⟨Ao14, co14, eo14⟩ := Kd.R_slice HO311.out; subst eo14; have hcz15_0 : w11.cell? ⟨gb304, 0, none⟩ = some (.int .i64 a0_0) := (blk_cell BK304.out 0).trans rfl; have hcz15_1 : w11.cell? ⟨gb304, 1, none⟩ = some (.int .i64 a0_1) := (blk_cell BK304.out 1).trans rfl; have hfz15_0 := blk_frozen BK304.out 0; have hfz15_1 := blk_frozen BK304.out 1) | ((with_reducible refine gate_callee (f := 20) rfl ?_); refine goesL_ (some 19) rfl rfl Try.func20 (by kernel_rfl) rfl #[.agg #[.int .i64 a0_0, .int .i64 a0_1]] rfl (by (try simp only [List.map_toArray, List.map_cons, List.map_nil]); first | done | rfl | (simp only [List.length_drop, List.length_take]; rfl)) ?_; (with_reducible refine (laws_toLattice.calls a0_0 a0_1 t314 t315 _ A4.out).mono ?_); rintro e w16 ⟨rfl, hb⟩; refine ⟨_, rfl, ?_⟩; have n0_ := Aside0.mk (Kd.R_below (by (with_reducible repeat (first | apply Kd.R_alloc | apply Kd.R_drewN | apply Kd.R_drew)); exact (Kd.R_mono (Kd.R_far (p := ⟨gb313, 2, none⟩) (Kd.R_far (p := ⟨gb313, 1, none⟩) (Kd.R_far (p := ⟨gb313, 0, none⟩) (Kd.R_types HO311.out BK313.out (by decide)) (fun _ hk => hk.2) (.int .i64 t307)) (fun _ hk => hk.2) (.int .i64 t308)) (fun _ hk => hk.2) (.slice Ao14 t309.length co14)) (fun _ h_ => h_.1))) hb); have n1_ := Aside0.mk (blk_below (g := gb304) (o := .cells #[.int .i64 a0_0, .int .i64 a0_1] 42 (0, 0)) (by (with_reducible repeat (first | refine blk_drewN ?_ _ | refine blk_drew ?_ | refine blk_alloc ?_ _)); refine blk_far ?_ NB304_313.out _; (with_reducible repeat (first | refine blk_drewN ?_ _ | refine blk_drew ?_ | refine blk_alloc ?_ _)); refine blk_far ?_ NB304_313.out _; (with_reducible repeat (first | refine blk_drewN ?_ _ | refine blk_drew ?_ | refine blk_alloc ?_ _)); refine blk_far ?_ NB304_313.out _; (with_reducible repeat (first | refine blk_drewN ?_ _ | refine blk_drew ?_ | refine blk_alloc ?_ _)); exact BK304.out) hb); have n2_ := Aside0.mk (blk_below (g := gb313) (o := .cells #[.int .i64 t307, .int .i64 t308, .slice Ao14 t309.length co14] 37 (0, 0)) (by (with_reducible repeat (first | refine blk_drewN ?_ _ | refine blk_drew ?_ | refine blk_alloc ?_ _)); refine blk_put (cs := #[.int .i64 t307, .int .i64 t308, .slice none 0 0]) ?_ 2 _ rfl; (with_reducible repeat (first | refine blk_drewN ?_ _ | refine blk_drew ?_ | refine blk_alloc ?_ _)); refine blk_put (cs := #[.int .i64 t307, .int .i64 0, .slice none 0 0]) ?_ 1 _ rfl; (with_reducible repeat (first | refine blk_drewN ?_ _ | refine blk_drew ?_ | refine blk_alloc ?_ _)); refine blk_put (cs := #[.int .i64 0, .int .i64 0, .slice none 0 0]) ?_ 0 _ rfl; (with_reducible repeat (first | refine blk_drewN ?_ _ | refine blk_drew ?_ | refine blk_alloc ?_ _)); exact BK313.out) hb); have n3_ := Aside0.mk (below_step (by repeat (first | (with_reducible first | exact HB.out | apply below_alloc | apply pw_below_drewN | apply below_drew1 | refine below_set ?_ GE304.out | refine below_set ?_ GE313.out) | exact HB.out)) hb); clear HO311; clear BK304; clear BK313; clear HB; have HO311 := n0_; have BK304 := n1_; have BK313 := n2_; have HB := n3_; clear n0_ n1_ n2_ n3_; (try clear hb); (try clear hb2); (try clear hk); (try clear hi)) | ((with_reducible refine gate_callee (f := 15) rfl ?_); refine goesL_ (some 20) rfl rfl Try.func15 (by kernel_rfl) rfl #[.agg #[.int .i64 t314, .int .i64 t315]] rfl (by (try simp only [List.map_toArray, List.map_cons, List.map_nil]); first | done | rfl | (simp only [List.length_drop, List.length_take]; rfl)) ?_; (with_reducible refine (impl_SpotMatrix.calls k t314 t315 t316 t317 t318 t321 _ A5.out).mono ?_); rintro e w17 ⟨v319, rfl, ho0, hb⟩; refine ⟨_, rfl, ?_⟩; have n0_ := Aside0.mk (Kd.R_elder' (by (with_reducible repeat (first | apply Kd.R_alloc | apply Kd.R_drewN | apply Kd.R_drew)); exact HO311.out) (Kd.R_base ho0) hb); have n1_ := Aside0.mk (Kd.R_lower (Kd.R_new' ho0 (Kd.R_lt (by (with_reducible repeat (first | apply Kd.R_alloc | apply Kd.R_drewN | apply Kd.R_drew)); exact HO311.out))) (below_size (by repeat (first | (with_reducible first | exact HB.out | apply below_alloc | apply pw_below_drewN | apply below_drew1 | refine below_set ?_ GE304.out | refine below_set ?_ GE313.out) | exact HB.out)))); have n2_ := Aside0.mk (blk_below (g := gb304) (o := .cells #[.int .i64 a0_0, .int .i64 a0_1] 42 (0, 0)) (by (with_reducible repeat (first | refine blk_drewN ?_ _ | refine blk_drew ?_ | refine blk_alloc ?_ _)); exact BK304.out) hb); have n3_ := Aside0.mk (blk_below (g := gb313) (o := .cells #[.int .i64 t307, .int .i64 t308, .slice Ao14 t309.length co14] 37 (0, 0)) (by (with_reducible repeat (first | refine blk_drewN ?_ _ | refine blk_drew ?_ | refine blk_alloc ?_ _)); exact BK313.out) hb); have n4_ := Aside0.mk (below_step (by repeat (first | (with_reducible first | exact HB.out | apply below_alloc | apply pw_below_drewN | apply below_drew1 | refine below_set ?_ GE304.out | refine below_set ?_ GE313.out) | exact HB.out)) hb); clear HO311; clear BK304; clear BK313; clear HB; have HO311 := n0_; have HO320 := n1_; have BK304 := n2_; have BK313 := n3_; have HB := n4_; clear n0_ n1_ n2_ n3_ n4_; (try clear hb); (try clear hb2); (try clear hk); (try clear hi); (try clear ho0)) | ((with_reducible refine gate_dst (N := 5) rfl ?_); refine box_event ?hg (N := 5) ?hd (cs := #[.int .i64 0, .int .i64 0, .slice none 0 0]) (t := 37) ?hr ?_; (case hd => rfl); (case hg => rfl); (case hr => first | (go_simp; done) | (go_simp; rfl)); intro gb322 hg w18 hbox hb; have n0_ := Aside0.mk (Kd.R_below (by (with_reducible repeat (first | apply Kd.R_alloc | apply Kd.R_drewN | apply Kd.R_drew)); exact HO311.out) hb); have n1_ := Aside0.mk (Kd.R_below (by (with_reducible repeat (first | apply Kd.R_alloc | apply Kd.R_drewN | apply Kd.R_drew)); exact HO320.out) hb); have n2_ := Aside0.mk (blk_below (g := gb304) (o := .cells #[.int .i64 a0_0, .int .i64 a0_1] 42 (0, 0)) (by (with_reducible repeat (first | refine blk_drewN ?_ _ | refine blk_drew ?_ | refine blk_alloc ?_ _)); exact BK304.out) hb); have n3_ := Aside0.mk (blk_below (g := gb313) (o := .cells #[.int .i64 t307, .int .i64 t308, .slice Ao14 t309.length co14] 37 (0, 0)) (by (with_reducible repeat (first | refine blk_drewN ?_ _ | refine blk_drew ?_ | refine blk_alloc ?_ _)); exact BK313.out) hb); have n4_ := Aside0.mk (below_step (by repeat (first | (with_reducible first | exact HB.out | apply below_alloc | apply pw_below_drewN | apply below_drew1 | refine below_set ?_ GE304.out | refine below_set ?_ GE313.out) | exact HB.out)) hb); have n5_ := Aside0.mk (hbox); have n6_ := Aside0.mk ((by rw [hg]; exact (below_size (by repeat (first | (with_reducible first | exact HB.out | apply below_alloc | apply pw_below_drewN | apply below_drew1 | refine below_set ?_ GE304.out | refine below_set ?_ GE313.out) | exact HB.out))) : w.heap.size ≤ gb322)); have n7_ := Aside0.mk ((by rw [hg]; exact (below_size (by repeat (first | (with_reducible first | exact HB.out | apply below_alloc | apply pw_below_drewN | apply below_drew1 | refine below_set ?_ GE304.out | refine below_set ?_ GE313.out) | exact HB.out))) : w.heap.size ≤ gb322)); have n8_ := Aside0.mk ((by rw [hg]; exact Nat.ne_of_lt (blk_lt (g := gb304) (o := .cells #[.int .i64 a0_0, .int .i64 a0_1] 42 (0, 0)) (by (with_reducible repeat (first | refine blk_drewN ?_ _ | refine blk_drew ?_ | refine blk_alloc ?_ _)); exact BK304.out)) : gb304 ≠ gb322)); have n9_ := Aside0.mk ((by rw [hg]; exact Nat.ne_of_gt (blk_lt (g := gb304) (o := .cells #[.int .i64 a0_0, .int .i64 a0_1] 42 (0, 0)) (by (with_reducible repeat (first | refine blk_drewN ?_ _ | refine blk_drew ?_ | refine blk_alloc ?_ _)); exact BK304.out)) : gb322 ≠ gb304)); have n10_ := Aside0.mk ((by rw [hg]; exact Nat.ne_of_lt (blk_lt (g := gb313) (o := .cells #[.int .i64 t307, .int .i64 t308, .slice Ao14 t309.length co14] 37 (0, 0)) (by (with_reducible repeat (first | refine blk_drewN ?_ _ | refine blk_drew ?_ | refine blk_alloc ?_ _)); exact BK313.out)) : gb313 ≠ gb322)); have n11_ := Aside0.mk ((by rw [hg]; exact Nat.ne_of_gt (blk_lt (g := gb313) (o := .cells #[.int .i64 t307, .int .i64 t308, .slice Ao14 t309.length co14] 37 (0, 0)) (by (with_reducible repeat (first | refine blk_drewN ?_ _ | refine blk_drew ?_ | refine blk_alloc ?_ _)); exact BK313.out)) : gb322 ≠ gb313)); clear HO311; clear HO320; clear BK304; clear BK313; clear HB; have HO311 := n0_; have HO320 := n1_; have BK304 := n2_; have BK313 := n3_; have HB := n4_; have BK322 := n5_; have GW322 := n6_; have GE322 := n7_; have NB304_322 := n8_; have NB322_304 := n9_; have NB313_322 := n10_; have NB322_313 := n11_; clear n0_ n1_ n2_ n3_ n4_ n5_ n6_ n7_ n8_ n9_ n10_ n11_; clear hb hbox hg; have hnb19 := NB322_304.out; have hnc19 := NB304_322.out; have hnb20 := NB322_313.out; have hnc20 := NB313_322.out; have hcz21_0 : w18.cell? ⟨gb322, 0, none⟩ = some (.int .i64 0) := (blk_cell BK322.out 0).trans rfl; have hcz21_1 : w18.cell? ⟨gb322, 1, none⟩ = some (.int .i64 0) := (blk_cell BK322.out 1).trans rfl; have hcz21_2 : w18.cell? ⟨gb322, 2, none⟩ = some (.slice none 0 0) := (blk_cell BK322.out 2).trans rfl; have hfz21_0 := blk_frozen BK322.out 0; have hfz21_1 := blk_frozen BK322.out 1; have hfz21_2 := blk_frozen BK322.out 2; obtain ⟨Ao22, co22, eo22⟩ := Kd.R_slice HO320.out; subst eo22))
  (try simp only [Act.put, List.setIfInBounds_toArray, List.set_cons_zero, List.set_cons_succ])
  go_cut [31] (fun v31 wc => ∃ (kq : Nat) (x31_5 : Bool), v31 = .bool x31_5 ∧ Aside0 (laws_FnExactSpotMatrix.j0 kq t312 x31_5 a0_0 a0_1 t307 t308 t309 t316 t317 t318 = some r) ∧ Aside0 (kq ≤ k) ∧ Aside0 (Kd.R (Kd.int .i64) 3 wc w.heap.size (fun k_ => some k_ ≠ ((.slice Ao22 t318.length co22) : Value).ownBlock) (.slice Ao14 t309.length co14) t309) ∧ Aside0 (Kd.R (Kd.int .i64) 3 wc w.heap.size (fun k_ => some k_ ≠ ((.slice Ao14 t309.length co14) : Value).ownBlock) (.slice Ao22 t318.length co22) t318) ∧ Aside0 (wc.heap[gb304]? = some (.cells #[.int .i64 a0_0, .int .i64 a0_1] 42 (0, 0))) ∧ Aside0 (wc.heap[gb313]? = some (.cells #[.int .i64 t307, .int .i64 t308, (.slice Ao14 t309.length co14)] 37 (0, 0))) ∧ Aside0 (wc.heap[gb322]? = some (.cells #[.int .i64 t316, .int .i64 t317, (.slice Ao22 t318.length co22)] 37 (0, 0))) ∧ Aside0 (Below w.heap.size w wc))
  case first =>
    have H := HC6.out
    clear HC6
    replace H := Option.bind_eq_some_iff.mp H
    obtain ⟨t323, A230, H⟩ := H
    replace H : (if t323 = true then (laws_FnExactSpotMatrix.j0 k t312 (t321 != t312) a0_0 a0_1 t307 t308 t309 t316 t317 t318) else (laws_FnExactSpotMatrix.j0 k t312 true a0_0 a0_1 t307 t308 t309 t316 t317 t318)) = some r := H
    have A23 := Aside0.mk A230
    clear A230
    by_cases c24 : t323 = true
    · subst c24
      have H1 : (laws_FnExactSpotMatrix.j0 k t312 (t321 != t312) a0_0 a0_1 t307 t308 t309 t316 t317 t318) = some r := by rw [if_pos rfl] at H; first | exact H | (simp only [if_true] at H ⊢; exact H)
      clear H
      have H := H1
      clear H1
      have H' := Aside0.mk H
      clear H
      have hnb25 := NB322_304.out
      have hnc25 := NB304_322.out
      have hnb26 := NB322_313.out
      have hnc26 := NB313_322.out
      have hcz27_0 : w18.cell? ⟨gb322, 0, none⟩ = some (.int .i64 0) := (blk_cell BK322.out 0).trans rfl
      have hcz27_1 : w18.cell? ⟨gb322, 1, none⟩ = some (.int .i64 0) := (blk_cell BK322.out 1).trans rfl
      have hcz27_2 : w18.cell? ⟨gb322, 2, none⟩ = some (.slice none 0 0) := (blk_cell BK322.out 2).trans rfl
      have hfz27_0 := blk_frozen BK322.out 0
      have hfz27_1 := blk_frozen BK322.out 1
      have hfz27_2 := blk_frozen BK322.out 2
      have hnb28 := NB313_304.out
      have hnc28 := NB304_313.out
      have hcz29_0 : w18.cell? ⟨gb313, 0, none⟩ = some (.int .i64 t307) := (blk_cell BK313.out 0).trans rfl
      have hcz29_1 : w18.cell? ⟨gb313, 1, none⟩ = some (.int .i64 t308) := (blk_cell BK313.out 1).trans rfl
      have hcz29_2 : w18.cell? ⟨gb313, 2, none⟩ = some (.slice Ao14 t309.length co14) := (blk_cell BK313.out 2).trans rfl
      have hfz29_0 := blk_frozen BK313.out 0
      have hfz29_1 := blk_frozen BK313.out 1
      have hfz29_2 := blk_frozen BK313.out 2
      go_wp2_with (first | ((with_reducible refine gate_callee (f := 30) rfl ?_); refine goesL_ (some 25) rfl rfl Try.func30 (by kernel_rfl) rfl #[.agg #[.int .i64 t316, .int .i64 t317, .slice Ao22 t318.length co22], .agg #[.int .i64 t307, .int .i64 t308, .slice Ao14 t309.length co14]] rfl (by (try simp only [List.map_toArray, List.map_cons, List.map_nil]); first | done | rfl | (simp only [List.length_drop, List.length_take]; rfl)) ?_; (with_reducible refine (laws_eqMatrix.calls k t316 t317 _ _ t318 t307 t308 _ _ t309 true _ ?side1 ?side2 ?side3 ?side4 A23.out).mono ?_); (case side1 => refine (Kd.R_reads' (e := 3) (base := w.heap.size) (ok := fun k_ => (True ∧ some k_ ≠ (.slice Ao14 t309.length co14 : Value).ownBlock)) (n := t318.length) (c := co22) ?_).2.2; exact (by (with_reducible repeat (first | apply Kd.R_alloc | apply Kd.R_drewN | apply Kd.R_drew)); exact (Kd.R_mono (Kd.R_far (p := ⟨gb322, 2, none⟩) (Kd.R_far (p := ⟨gb322, 1, none⟩) (Kd.R_far (p := ⟨gb322, 0, none⟩) (Kd.R_types HO320.out BK322.out (by decide)) (fun _ hk => hk.2) (.int .i64 t316)) (fun _ hk => hk.2) (.int .i64 t317)) (fun _ hk => hk.2) (.slice Ao22 t318.length co22)) (fun _ h_ => h_.1)))); (case side2 => exact (Kd.R_reads' HO320.out).2.1); (case side3 => refine (Kd.R_reads' (e := 3) (base := w.heap.size) (ok := fun k_ => (True ∧ some k_ ≠ (.slice Ao22 t318.length co22 : Value).ownBlock)) (n := t309.length) (c := co14) ?_).2.2; exact (by (with_reducible repeat (first | apply Kd.R_alloc | apply Kd.R_drewN | apply Kd.R_drew)); exact (Kd.R_mono (Kd.R_far (p := ⟨gb322, 2, none⟩) (Kd.R_far (p := ⟨gb322, 1, none⟩) (Kd.R_far (p := ⟨gb322, 0, none⟩) (Kd.R_types HO311.out BK322.out (by decide)) (fun _ hk => hk.2) (.int .i64 t316)) (fun _ hk => hk.2) (.int .i64 t317)) (fun _ hk => hk.2) (.slice Ao22 t318.length co22)) (fun _ h_ => h_.1)))); (case side4 => exact (Kd.R_reads' HO311.out).2.1); rintro e w30 ⟨rfl, hb⟩; refine ⟨_, rfl, ?_⟩; have n0_ := Aside0.mk (Kd.R_below (by (with_reducible repeat (first | apply Kd.R_alloc | apply Kd.R_drewN | apply Kd.R_drew)); exact (Kd.R_mono (Kd.R_far (p := ⟨gb322, 2, none⟩) (Kd.R_far (p := ⟨gb322, 1, none⟩) (Kd.R_far (p := ⟨gb322, 0, none⟩) (Kd.R_types HO311.out BK322.out (by decide)) (fun _ hk => hk.2) (.int .i64 t316)) (fun _ hk => hk.2) (.int .i64 t317)) (fun _ hk => hk.2) (.slice Ao22 t318.length co22)) (fun _ h_ => h_.1))) hb); have n1_ := Aside0.mk (Kd.R_below (by (with_reducible repeat (first | apply Kd.R_alloc | apply Kd.R_drewN | apply Kd.R_drew)); exact (Kd.R_mono (Kd.R_far (p := ⟨gb322, 2, none⟩) (Kd.R_far (p := ⟨gb322, 1, none⟩) (Kd.R_far (p := ⟨gb322, 0, none⟩) (Kd.R_types HO320.out BK322.out (by decide)) (fun _ hk => hk.2) (.int .i64 t316)) (fun _ hk => hk.2) (.int .i64 t317)) (fun _ hk => hk.2) (.slice Ao22 t318.length co22)) (fun _ h_ => h_.1))) hb); have n2_ := Aside0.mk (blk_below (g := gb304) (o := .cells #[.int .i64 a0_0, .int .i64 a0_1] 42 (0, 0)) (by (with_reducible repeat (first | refine blk_drewN ?_ _ | refine blk_drew ?_ | refine blk_alloc ?_ _)); refine blk_far ?_ NB304_322.out _; (with_reducible repeat (first | refine blk_drewN ?_ _ | refine blk_drew ?_ | refine blk_alloc ?_ _)); refine blk_far ?_ NB304_322.out _; (with_reducible repeat (first | refine blk_drewN ?_ _ | refine blk_drew ?_ | refine blk_alloc ?_ _)); refine blk_far ?_ NB304_322.out _; (with_reducible repeat (first | refine blk_drewN ?_ _ | refine blk_drew ?_ | refine blk_alloc ?_ _)); exact BK304.out) hb); have n3_ := Aside0.mk (blk_below (g := gb313) (o := .cells #[.int .i64 t307, .int .i64 t308, .slice Ao14 t309.length co14] 37 (0, 0)) (by (with_reducible repeat (first | refine blk_drewN ?_ _ | refine blk_drew ?_ | refine blk_alloc ?_ _)); refine blk_far ?_ NB313_322.out _; (with_reducible repeat (first | refine blk_drewN ?_ _ | refine blk_drew ?_ | refine blk_alloc ?_ _)); refine blk_far ?_ NB313_322.out _; (with_reducible repeat (first | refine blk_drewN ?_ _ | refine blk_drew ?_ | refine blk_alloc ?_ _)); refine blk_far ?_ NB313_322.out _; (with_reducible repeat (first | refine blk_drewN ?_ _ | refine blk_drew ?_ | refine blk_alloc ?_ _)); exact BK313.out) hb); have n4_ := Aside0.mk (blk_below (g := gb322) (o := .cells #[.int .i64 t316, .int .i64 t317, .slice Ao22 t318.length co22] 37 (0, 0)) (by (with_reducible repeat (first | refine blk_drewN ?_ _ | refine blk_drew ?_ | refine blk_alloc ?_ _)); refine blk_put (cs := #[.int .i64 t316, .int .i64 t317, .slice none 0 0]) ?_ 2 _ rfl; (with_reducible repeat (first | refine blk_drewN ?_ _ | refine blk_drew ?_ | refine blk_alloc ?_ _)); refine blk_put (cs := #[.int .i64 t316, .int .i64 0, .slice none 0 0]) ?_ 1 _ rfl; (with_reducible repeat (first | refine blk_drewN ?_ _ | refine blk_drew ?_ | refine blk_alloc ?_ _)); refine blk_put (cs := #[.int .i64 0, .int .i64 0, .slice none 0 0]) ?_ 0 _ rfl; (with_reducible repeat (first | refine blk_drewN ?_ _ | refine blk_drew ?_ | refine blk_alloc ?_ _)); exact BK322.out) hb); have n5_ := Aside0.mk (below_step (by repeat (first | (with_reducible first | exact HB.out | apply below_alloc | apply pw_below_drewN | apply below_drew1 | refine below_set ?_ GE304.out | refine below_set ?_ GE313.out | refine below_set ?_ GE322.out) | exact HB.out)) hb); clear HO311; clear HO320; clear BK304; clear BK313; clear BK322; clear HB; have HO311 := n0_; have HO320 := n1_; have BK304 := n2_; have BK313 := n3_; have BK322 := n4_; have HB := n5_; clear n0_ n1_ n2_ n3_ n4_ n5_; (try clear hb); (try clear hb2); (try clear hk); (try clear hi)))
      go_meet
      case rel => exact ⟨_, ((t321 != t312)), (by first | rfl | (simp; done) | (simp [*]; done)), H', ⟨by first | omega | exact Nat.le_refl _⟩, ⟨by (with_reducible repeat (first | apply Kd.R_alloc | apply Kd.R_drewN | apply Kd.R_drew)); exact Kd.R_mono HO311.out (fun _ hk => hk.2)⟩, ⟨by (with_reducible repeat (first | apply Kd.R_alloc | apply Kd.R_drewN | apply Kd.R_drew)); exact Kd.R_mono HO320.out (fun _ hk => hk.2)⟩, ⟨by (with_reducible repeat (first | refine blk_drewN ?_ _ | refine blk_drew ?_ | refine blk_alloc ?_ _)); exact BK304.out⟩, ⟨by (with_reducible repeat (first | refine blk_drewN ?_ _ | refine blk_drew ?_ | refine blk_alloc ?_ _)); exact BK313.out⟩, ⟨by (with_reducible repeat (first | refine blk_drewN ?_ _ | refine blk_drew ?_ | refine blk_alloc ?_ _)); exact BK322.out⟩, ⟨by repeat (first | (with_reducible first | exact HB.out | apply below_alloc | apply pw_below_drewN | apply below_drew1 | refine below_set ?_ GE304.out | refine below_set ?_ GE313.out | refine below_set ?_ GE322.out) | exact HB.out)⟩⟩
    · replace c24 := Bool.eq_false_iff.mpr c24
      subst c24
      have H1 : (laws_FnExactSpotMatrix.j0 k t312 true a0_0 a0_1 t307 t308 t309 t316 t317 t318) = some r := by rw [if_neg (show ¬ (false = true) by decide)] at H; first | exact H | (simp only [if_true] at H ⊢; exact H)
      clear H
      have H := H1
      clear H1
      exact absurd H (by rw [HRT_.out]; generalize k = k_; cases k_ with | zero => (rw [laws_FnExactSpotMatrix.j0]; simp) | succ k_ => (rw [laws_FnExactSpotMatrix.j0, if_pos rfl]; simp))
  case rest =>
    clear HC6
    try clear c1
    try clear c2
    try clear p2
    try clear c3
    try clear c7
    try clear c12
    try clear c15
    try clear c19
    try clear c20
    try clear c24
    try clear c25
    try clear c26
    try clear c28
    try clear c29
    try clear c30
    try clear hcz13_0
    try clear hcz13_1
    try clear hcz13_2
    try clear hcz15_0
    try clear hcz15_1
    try clear hcz21_0
    try clear hcz21_1
    try clear hcz21_2
    try clear hcz27_0
    try clear hcz27_1
    try clear hcz27_2
    try clear hcz29_0
    try clear hcz29_1
    try clear hcz29_2
    try clear hcz8_0
    try clear hcz8_1
    try clear hfz13_0
    try clear hfz13_1
    try clear hfz13_2
    try clear hfz15_0
    try clear hfz15_1
    try clear hfz21_0
    try clear hfz21_1
    try clear hfz21_2
    try clear hfz27_0
    try clear hfz27_1
    try clear hfz27_2
    try clear hfz29_0
    try clear hfz29_1
    try clear hfz29_2
    try clear hfz8_0
    try clear hfz8_1
    obtain ⟨kq, x31_5, rfl, HA, HJ5, HO_314002, HO_323002, BK304, BK313, BK322, HB⟩ := hcut
    cases kq with
    | zero => exact absurd HA.out (by simp [laws_FnExactSpotMatrix.j0])
    | succ kj5 =>
      have H := HA.out
      clear HA
      simp only [laws_FnExactSpotMatrix.j0] at H
      by_cases c31 : x31_5 = true
      · subst c31
        have H1 : (some false) = some r := by rw [if_pos rfl] at H; first | exact H | (simp only [if_true] at H ⊢; exact H)
        clear H
        have H := H1
        clear H1
        exact absurd (Option.some.inj H) (by rw [HRT_.out]; decide)
      · replace c31 := Bool.eq_false_iff.mpr c31
        subst c31
        have H1 : ((laws_markMatrix.f kj5 t316 t317 t318 1).bind fun bt324 => ((laws_heldMatrix.f kj5 t316 t317 bt324.2 1).bind fun t326 => (if t326 < 0 then (some false) else (if t326 = bt324.1 then ((laws_toLattice.f a0_0 a0_1).bind fun bt327 => ((impl_SpotMatrix.f kj5 bt327.1 bt327.2).bind fun bt329 => ((laws_eqMatrix.f kj5 bt329.1 bt329.2.1 bt329.2.2.1 t307 t308 t309).bind fun t336 => (if t336 = true then (laws_FnExactSpotMatrix.j1 kj5 bt324.1 (bt329.2.2.2 != t312) t316 t317 bt324.2) else (laws_FnExactSpotMatrix.j1 kj5 bt324.1 true t316 t317 bt324.2))))) else (some false))))) = some r := by rw [if_neg (show ¬ (false = true) by decide)] at H; first | exact H | (simp only [if_true] at H ⊢; exact H)
        clear H
        have H := H1
        clear H1
        replace H := Option.bind_eq_some_iff.mp H
        obtain ⟨⟨t324, t325⟩, A320, H⟩ := H
        replace H : ((laws_heldMatrix.f kj5 t316 t317 t325 1).bind fun t326 => (if t326 < 0 then (some false) else (if t326 = t324 then ((laws_toLattice.f a0_0 a0_1).bind fun bt327 => ((impl_SpotMatrix.f kj5 bt327.1 bt327.2).bind fun bt329 => ((laws_eqMatrix.f kj5 bt329.1 bt329.2.1 bt329.2.2.1 t307 t308 t309).bind fun t336 => (if t336 = true then (laws_FnExactSpotMatrix.j1 kj5 t324 (bt329.2.2.2 != t312) t316 t317 t325) else (laws_FnExactSpotMatrix.j1 kj5 t324 true t316 t317 t325))))) else (some false)))) = some r := H
        have A32 := Aside0.mk A320
        clear A320
        replace H := Option.bind_eq_some_iff.mp H
        obtain ⟨t326, A330, H⟩ := H
        replace H : (if t326 < 0 then (some false) else (if t326 = t324 then ((laws_toLattice.f a0_0 a0_1).bind fun bt327 => ((impl_SpotMatrix.f kj5 bt327.1 bt327.2).bind fun bt329 => ((laws_eqMatrix.f kj5 bt329.1 bt329.2.1 bt329.2.2.1 t307 t308 t309).bind fun t336 => (if t336 = true then (laws_FnExactSpotMatrix.j1 kj5 t324 (bt329.2.2.2 != t312) t316 t317 t325) else (laws_FnExactSpotMatrix.j1 kj5 t324 true t316 t317 t325))))) else (some false))) = some r := H
        have A33 := Aside0.mk A330
        clear A330
        by_cases c34 : t326 < 0
        · rw [if_pos c34] at H
          have c34b0 : decide (t326 < 0) = true := decide_eq_true c34
          clear c34
          exact absurd (Option.some.inj H) (by rw [HRT_.out]; decide)
        · rw [if_neg c34] at H
          have c34b0 : decide (t326 < 0) = false := decide_eq_false c34
          clear c34
          by_cases c35 : t326 = t324
          · rw [if_pos c35] at H
            have c35b0 : (t326 == t324) = true := beq_iff_eq.mpr c35
            have c35b1 : (t326 != t324) = false := bne_eq_false_iff_eq.mpr c35
            clear c35
            replace H := Option.bind_eq_some_iff.mp H
            obtain ⟨⟨t327, t328⟩, A360, H⟩ := H
            replace H : ((impl_SpotMatrix.f kj5 t327 t328).bind fun bt329 => ((laws_eqMatrix.f kj5 bt329.1 bt329.2.1 bt329.2.2.1 t307 t308 t309).bind fun t336 => (if t336 = true then (laws_FnExactSpotMatrix.j1 kj5 t324 (bt329.2.2.2 != t312) t316 t317 t325) else (laws_FnExactSpotMatrix.j1 kj5 t324 true t316 t317 t325)))) = some r := H
            have A36 := Aside0.mk A360
            clear A360
            replace H := Option.bind_eq_some_iff.mp H
            obtain ⟨⟨t329, t330, t331, t334⟩, A370, H⟩ := H
            replace H : ((laws_eqMatrix.f kj5 t329 t330 t331 t307 t308 t309).bind fun t336 => (if t336 = true then (laws_FnExactSpotMatrix.j1 kj5 t324 (t334 != t312) t316 t317 t325) else (laws_FnExactSpotMatrix.j1 kj5 t324 true t316 t317 t325))) = some r := H
            have A37 := Aside0.mk A370
            clear A370
            have HC38 := Aside0.mk H
            clear H
            have hnb39 := NB322_304.out
            have hnc39 := NB304_322.out
            have hnb40 := NB322_313.out
            have hnc40 := NB313_322.out
            have hcz41_0 : wc.cell? ⟨gb322, 0, none⟩ = some (.int .i64 t316) := (blk_cell BK322.out 0).trans rfl
            have hcz41_1 : wc.cell? ⟨gb322, 1, none⟩ = some (.int .i64 t317) := (blk_cell BK322.out 1).trans rfl
            have hcz41_2 : wc.cell? ⟨gb322, 2, none⟩ = some (.slice Ao22 t318.length co22) := (blk_cell BK322.out 2).trans rfl
            have hfz41_0 := blk_frozen BK322.out 0
            have hfz41_1 := blk_frozen BK322.out 1
            have hfz41_2 := blk_frozen BK322.out 2
            go_upto_region 14 with (first | ((with_reducible refine gate_callee (f := 31) rfl ?_); refine goesL_ (some 34) rfl rfl Try.func31 (by kernel_rfl) rfl #[.agg #[.int .i64 t316, .int .i64 t317, .slice Ao22 t318.length co22], .int .i64 1] rfl (by (try simp only [List.map_toArray, List.map_cons, List.map_nil]); first | done | rfl | (simp only [List.length_drop, List.length_take]; rfl)) ?_; (with_reducible refine (laws_markMatrix.calls kj5 t316 t317 (fun k_ => some k_ = (.slice Ao22 t318.length co22 : Value).ownBlock) (.slice Ao22 t318.length co22) t318 1 t324 t325 w _ ?side1 ?side2 A32.out).mono ?_); (case side1 => repeat (first | (with_reducible first | exact HB.out | apply below_alloc | apply pw_below_drewN | apply below_drew1 | refine below_set ?_ GE304.out | refine below_set ?_ GE313.out | refine below_set ?_ GE322.out) | exact HB.out)); (case side2 => exact Kd.R_tight rfl HO_323002.out); rintro e w42 ⟨rfl, hy0, hb, hkp⟩; refine ⟨_, rfl, ?_⟩; have n0_ := Aside0.mk (Kd.R_mono (ok' := fun k_ => some k_ ≠ (.slice Ao22 t318.length co22 : Value).ownBlock) (Kd.R_keptB (HO_314002.out) hkp (fun k_ hk_ hs_ => (hk_) hs_)) (fun k_ hk_ => hk_.1)); have n1_ := Aside0.mk (Kd.R_reok rfl hy0 (fun k_ e_ => HO_323002.out.1 k_ e_)); have n2_ := Aside0.mk (blk_kept (by (with_reducible repeat (first | refine blk_drewN ?_ _ | refine blk_drew ?_ | refine blk_alloc ?_ _)); exact BK304.out) hkp (fun hs_ => (fun e_ => (Kd.R_ne HO_323002.out BK304.out (by decide)) e_) hs_)); have n3_ := Aside0.mk (blk_kept (by (with_reducible repeat (first | refine blk_drewN ?_ _ | refine blk_drew ?_ | refine blk_alloc ?_ _)); exact BK313.out) hkp (fun hs_ => (fun e_ => (Kd.R_ne HO_323002.out BK313.out (by decide)) e_) hs_)); have n4_ := Aside0.mk (blk_kept (by (with_reducible repeat (first | refine blk_drewN ?_ _ | refine blk_drew ?_ | refine blk_alloc ?_ _)); exact BK322.out) hkp (fun hs_ => (fun e_ => (Kd.R_ne HO_323002.out BK322.out (by decide)) e_) hs_)); have n5_ := Aside0.mk (hb); clear HO_314002; clear HO_323002; clear BK304; clear BK313; clear BK322; clear HB; have HO_314002 := n0_; have HO_323002 := n1_; have BK304 := n2_; have BK313 := n3_; have BK322 := n4_; have HB := n5_; clear n0_ n1_ n2_ n3_ n4_ n5_; (try clear hb); (try clear hkp); (try clear hy0); have hcz43_0 : w42.cell? ⟨gb322, 0, none⟩ = some (.int .i64 t316) := (blk_cell BK322.out 0).trans rfl; have hcz43_1 : w42.cell? ⟨gb322, 1, none⟩ = some (.int .i64 t317) := (blk_cell BK322.out 1).trans rfl; have hcz43_2 : w42.cell? ⟨gb322, 2, none⟩ = some (.slice Ao22 t318.length co22) := (blk_cell BK322.out 2).trans rfl; have hfz43_0 := blk_frozen BK322.out 0; have hfz43_1 := blk_frozen BK322.out 1; have hfz43_2 := blk_frozen BK322.out 2) | ((with_reducible refine gate_callee (f := 32) rfl ?_); refine goesL_ (some 37) rfl rfl Try.func32 (by kernel_rfl) rfl #[.agg #[.int .i64 t316, .int .i64 t317, .slice Ao22 t325.length co22], .int .i64 1] rfl (by (try simp only [List.map_toArray, List.map_cons, List.map_nil]); first | done | (rw [show t325.length = t318.length from (Kd.R_reads' HO_323002.out).1.symm] <;> rfl) | rfl | (simp only [List.length_drop, List.length_take]; rfl)) ?_; (with_reducible refine (laws_heldMatrix.calls kj5 t316 t317 _ _ t325 1 t326 _ ?side1 ?side2 A33.out).mono ?_); (case side1 => repeat (first | exact (Kd.R_reads' HO_323002.out).2.2 | (with_reducible refine Kd.C_alloc ?_ _) | (with_reducible refine Kd.C_drewN ?_ _) | (with_reducible refine Kd.C_drew ?_))); (case side2 => rw [show t325.length = t318.length from (Kd.R_reads' HO_323002.out).1.symm]; exact (Kd.R_reads' HO_323002.out).2.1); rintro e w44 ⟨rfl, hb⟩; refine ⟨_, rfl, ?_⟩; have n0_ := Aside0.mk (Kd.R_below (by (with_reducible repeat (first | apply Kd.R_alloc | apply Kd.R_drewN | apply Kd.R_drew)); exact HO_314002.out) hb); have n1_ := Aside0.mk (Kd.R_below (by (with_reducible repeat (first | apply Kd.R_alloc | apply Kd.R_drewN | apply Kd.R_drew)); exact HO_323002.out) hb); have n2_ := Aside0.mk (blk_below (g := gb304) (o := .cells #[.int .i64 a0_0, .int .i64 a0_1] 42 (0, 0)) (by (with_reducible repeat (first | refine blk_drewN ?_ _ | refine blk_drew ?_ | refine blk_alloc ?_ _)); exact BK304.out) hb); have n3_ := Aside0.mk (blk_below (g := gb313) (o := .cells #[.int .i64 t307, .int .i64 t308, .slice Ao14 t309.length co14] 37 (0, 0)) (by (with_reducible repeat (first | refine blk_drewN ?_ _ | refine blk_drew ?_ | refine blk_alloc ?_ _)); exact BK313.out) hb); have n4_ := Aside0.mk (blk_below (g := gb322) (o := .cells #[.int .i64 t316, .int .i64 t317, .slice Ao22 t318.length co22] 37 (0, 0)) (by (with_reducible repeat (first | refine blk_drewN ?_ _ | refine blk_drew ?_ | refine blk_alloc ?_ _)); exact BK322.out) hb); have n5_ := Aside0.mk (below_step (by repeat (first | (with_reducible first | exact HB.out | apply below_alloc | apply pw_below_drewN | apply below_drew1 | refine below_set ?_ GE304.out | refine below_set ?_ GE313.out | refine below_set ?_ GE322.out) | exact HB.out)) hb); clear HO_314002; clear HO_323002; clear BK304; clear BK313; clear BK322; clear HB; have HO_314002 := n0_; have HO_323002 := n1_; have BK304 := n2_; have BK313 := n3_; have BK322 := n4_; have HB := n5_; clear n0_ n1_ n2_ n3_ n4_ n5_; (try clear hb); (try clear hb2); (try clear hk); (try clear hi); have hnb45 := NB304_313.out; have hnc45 := NB313_304.out; have hcz46_0 : w44.cell? ⟨gb304, 0, none⟩ = some (.int .i64 a0_0) := (blk_cell BK304.out 0).trans rfl; have hcz46_1 : w44.cell? ⟨gb304, 1, none⟩ = some (.int .i64 a0_1) := (blk_cell BK304.out 1).trans rfl; have hfz46_0 := blk_frozen BK304.out 0; have hfz46_1 := blk_frozen BK304.out 1) | ((with_reducible refine gate_callee (f := 20) rfl ?_); refine goesL_ (some 45) rfl rfl Try.func20 (by kernel_rfl) rfl #[.agg #[.int .i64 a0_0, .int .i64 a0_1]] rfl (by (try simp only [List.map_toArray, List.map_cons, List.map_nil]); first | done | rfl | (simp only [List.length_drop, List.length_take]; rfl)) ?_; (with_reducible refine (laws_toLattice.calls a0_0 a0_1 t327 t328 _ A36.out).mono ?_); rintro e w47 ⟨rfl, hb⟩; refine ⟨_, rfl, ?_⟩; have n0_ := Aside0.mk (Kd.R_below (by (with_reducible repeat (first | apply Kd.R_alloc | apply Kd.R_drewN | apply Kd.R_drew)); exact HO_314002.out) hb); have n1_ := Aside0.mk (Kd.R_below (by (with_reducible repeat (first | apply Kd.R_alloc | apply Kd.R_drewN | apply Kd.R_drew)); exact HO_323002.out) hb); have n2_ := Aside0.mk (blk_below (g := gb304) (o := .cells #[.int .i64 a0_0, .int .i64 a0_1] 42 (0, 0)) (by (with_reducible repeat (first | refine blk_drewN ?_ _ | refine blk_drew ?_ | refine blk_alloc ?_ _)); exact BK304.out) hb); have n3_ := Aside0.mk (blk_below (g := gb313) (o := .cells #[.int .i64 t307, .int .i64 t308, .slice Ao14 t309.length co14] 37 (0, 0)) (by (with_reducible repeat (first | refine blk_drewN ?_ _ | refine blk_drew ?_ | refine blk_alloc ?_ _)); exact BK313.out) hb); have n4_ := Aside0.mk (blk_below (g := gb322) (o := .cells #[.int .i64 t316, .int .i64 t317, .slice Ao22 t318.length co22] 37 (0, 0)) (by (with_reducible repeat (first | refine blk_drewN ?_ _ | refine blk_drew ?_ | refine blk_alloc ?_ _)); exact BK322.out) hb); have n5_ := Aside0.mk (below_step (by repeat (first | (with_reducible first | exact HB.out | apply below_alloc | apply pw_below_drewN | apply below_drew1 | refine below_set ?_ GE304.out | refine below_set ?_ GE313.out | refine below_set ?_ GE322.out) | exact HB.out)) hb); clear HO_314002; clear HO_323002; clear BK304; clear BK313; clear BK322; clear HB; have HO_314002 := n0_; have HO_323002 := n1_; have BK304 := n2_; have BK313 := n3_; have BK322 := n4_; have HB := n5_; clear n0_ n1_ n2_ n3_ n4_ n5_; (try clear hb); (try clear hb2); (try clear hk); (try clear hi)) | ((with_reducible refine gate_callee (f := 15) rfl ?_); refine goesL_ (some 46) rfl rfl Try.func15 (by kernel_rfl) rfl #[.agg #[.int .i64 t327, .int .i64 t328]] rfl (by (try simp only [List.map_toArray, List.map_cons, List.map_nil]); first | done | rfl | (simp only [List.length_drop, List.length_take]; rfl)) ?_; (with_reducible refine (impl_SpotMatrix.calls kj5 t327 t328 t329 t330 t331 t334 _ A37.out).mono ?_); rintro e w48 ⟨v332, rfl, ho0, hb⟩; refine ⟨_, rfl, ?_⟩; have n0_ := Aside0.mk (Kd.R_elder' (by (with_reducible repeat (first | apply Kd.R_alloc | apply Kd.R_drewN | apply Kd.R_drew)); exact HO_314002.out) (Kd.R_base ho0) hb); have n1_ := Aside0.mk (Kd.R_elder' (by (with_reducible repeat (first | apply Kd.R_alloc | apply Kd.R_drewN | apply Kd.R_drew)); exact HO_323002.out) (Kd.R_base ho0) hb); have n2_ := Aside0.mk (Kd.R_lower (Kd.R_new' (Kd.R_new' ho0 (Kd.R_lt (by (with_reducible repeat (first | apply Kd.R_alloc | apply Kd.R_drewN | apply Kd.R_drew)); exact HO_314002.out))) (Kd.R_lt (by (with_reducible repeat (first | apply Kd.R_alloc | apply Kd.R_drewN | apply Kd.R_drew)); exact HO_323002.out))) (below_size (by repeat (first | (with_reducible first | exact HB.out | apply below_alloc | apply pw_below_drewN | apply below_drew1 | refine below_set ?_ GE304.out | refine below_set ?_ GE313.out | refine below_set ?_ GE322.out) | exact HB.out)))); have n3_ := Aside0.mk (blk_below (g := gb304) (o := .cells #[.int .i64 a0_0, .int .i64 a0_1] 42 (0, 0)) (by (with_reducible repeat (first | refine blk_drewN ?_ _ | refine blk_drew ?_ | refine blk_alloc ?_ _)); exact BK304.out) hb); have n4_ := Aside0.mk (blk_below (g := gb313) (o := .cells #[.int .i64 t307, .int .i64 t308, .slice Ao14 t309.length co14] 37 (0, 0)) (by (with_reducible repeat (first | refine blk_drewN ?_ _ | refine blk_drew ?_ | refine blk_alloc ?_ _)); exact BK313.out) hb); have n5_ := Aside0.mk (blk_below (g := gb322) (o := .cells #[.int .i64 t316, .int .i64 t317, .slice Ao22 t318.length co22] 37 (0, 0)) (by (with_reducible repeat (first | refine blk_drewN ?_ _ | refine blk_drew ?_ | refine blk_alloc ?_ _)); exact BK322.out) hb); have n6_ := Aside0.mk (below_step (by repeat (first | (with_reducible first | exact HB.out | apply below_alloc | apply pw_below_drewN | apply below_drew1 | refine below_set ?_ GE304.out | refine below_set ?_ GE313.out | refine below_set ?_ GE322.out) | exact HB.out)) hb); clear HO_314002; clear HO_323002; clear BK304; clear BK313; clear BK322; clear HB; have HO_314002 := n0_; have HO_323002 := n1_; have HO333 := n2_; have BK304 := n3_; have BK313 := n4_; have BK322 := n5_; have HB := n6_; clear n0_ n1_ n2_ n3_ n4_ n5_ n6_; (try clear hb); (try clear hb2); (try clear hk); (try clear hi); (try clear ho0)) | ((with_reducible refine gate_dst (N := 9) rfl ?_); refine box_event ?hg (N := 9) ?hd (cs := #[.int .i64 0, .int .i64 0, .slice none 0 0]) (t := 37) ?hr ?_; (case hd => rfl); (case hg => rfl); (case hr => first | (go_simp; done) | (go_simp; rfl)); intro gb335 hg w49 hbox hb; have n0_ := Aside0.mk (Kd.R_below (by (with_reducible repeat (first | apply Kd.R_alloc | apply Kd.R_drewN | apply Kd.R_drew)); exact HO_314002.out) hb); have n1_ := Aside0.mk (Kd.R_below (by (with_reducible repeat (first | apply Kd.R_alloc | apply Kd.R_drewN | apply Kd.R_drew)); exact HO_323002.out) hb); have n2_ := Aside0.mk (Kd.R_below (by (with_reducible repeat (first | apply Kd.R_alloc | apply Kd.R_drewN | apply Kd.R_drew)); exact HO333.out) hb); have n3_ := Aside0.mk (blk_below (g := gb304) (o := .cells #[.int .i64 a0_0, .int .i64 a0_1] 42 (0, 0)) (by (with_reducible repeat (first | refine blk_drewN ?_ _ | refine blk_drew ?_ | refine blk_alloc ?_ _)); exact BK304.out) hb); have n4_ := Aside0.mk (blk_below (g := gb313) (o := .cells #[.int .i64 t307, .int .i64 t308, .slice Ao14 t309.length co14] 37 (0, 0)) (by (with_reducible repeat (first | refine blk_drewN ?_ _ | refine blk_drew ?_ | refine blk_alloc ?_ _)); exact BK313.out) hb); have n5_ := Aside0.mk (blk_below (g := gb322) (o := .cells #[.int .i64 t316, .int .i64 t317, .slice Ao22 t318.length co22] 37 (0, 0)) (by (with_reducible repeat (first | refine blk_drewN ?_ _ | refine blk_drew ?_ | refine blk_alloc ?_ _)); exact BK322.out) hb); have n6_ := Aside0.mk (below_step (by repeat (first | (with_reducible first | exact HB.out | apply below_alloc | apply pw_below_drewN | apply below_drew1 | refine below_set ?_ GE304.out | refine below_set ?_ GE313.out | refine below_set ?_ GE322.out) | exact HB.out)) hb); have n7_ := Aside0.mk (hbox); have n8_ := Aside0.mk ((by rw [hg]; exact (below_size (by repeat (first | (with_reducible first | exact HB.out | apply below_alloc | apply pw_below_drewN | apply below_drew1 | refine below_set ?_ GE304.out | refine below_set ?_ GE313.out | refine below_set ?_ GE322.out) | exact HB.out))) : w.heap.size ≤ gb335)); have n9_ := Aside0.mk ((by rw [hg]; exact (below_size (by repeat (first | (with_reducible first | exact HB.out | apply below_alloc | apply pw_below_drewN | apply below_drew1 | refine below_set ?_ GE304.out | refine below_set ?_ GE313.out | refine below_set ?_ GE322.out) | exact HB.out))) : w.heap.size ≤ gb335)); have n10_ := Aside0.mk ((by rw [hg]; exact Nat.ne_of_lt (blk_lt (g := gb304) (o := .cells #[.int .i64 a0_0, .int .i64 a0_1] 42 (0, 0)) (by (with_reducible repeat (first | refine blk_drewN ?_ _ | refine blk_drew ?_ | refine blk_alloc ?_ _)); exact BK304.out)) : gb304 ≠ gb335)); have n11_ := Aside0.mk ((by rw [hg]; exact Nat.ne_of_gt (blk_lt (g := gb304) (o := .cells #[.int .i64 a0_0, .int .i64 a0_1] 42 (0, 0)) (by (with_reducible repeat (first | refine blk_drewN ?_ _ | refine blk_drew ?_ | refine blk_alloc ?_ _)); exact BK304.out)) : gb335 ≠ gb304)); have n12_ := Aside0.mk ((by rw [hg]; exact Nat.ne_of_lt (blk_lt (g := gb313) (o := .cells #[.int .i64 t307, .int .i64 t308, .slice Ao14 t309.length co14] 37 (0, 0)) (by (with_reducible repeat (first | refine blk_drewN ?_ _ | refine blk_drew ?_ | refine blk_alloc ?_ _)); exact BK313.out)) : gb313 ≠ gb335)); have n13_ := Aside0.mk ((by rw [hg]; exact Nat.ne_of_gt (blk_lt (g := gb313) (o := .cells #[.int .i64 t307, .int .i64 t308, .slice Ao14 t309.length co14] 37 (0, 0)) (by (with_reducible repeat (first | refine blk_drewN ?_ _ | refine blk_drew ?_ | refine blk_alloc ?_ _)); exact BK313.out)) : gb335 ≠ gb313)); have n14_ := Aside0.mk ((by rw [hg]; exact Nat.ne_of_lt (blk_lt (g := gb322) (o := .cells #[.int .i64 t316, .int .i64 t317, .slice Ao22 t318.length co22] 37 (0, 0)) (by (with_reducible repeat (first | refine blk_drewN ?_ _ | refine blk_drew ?_ | refine blk_alloc ?_ _)); exact BK322.out)) : gb322 ≠ gb335)); have n15_ := Aside0.mk ((by rw [hg]; exact Nat.ne_of_gt (blk_lt (g := gb322) (o := .cells #[.int .i64 t316, .int .i64 t317, .slice Ao22 t318.length co22] 37 (0, 0)) (by (with_reducible repeat (first | refine blk_drewN ?_ _ | refine blk_drew ?_ | refine blk_alloc ?_ _)); exact BK322.out)) : gb335 ≠ gb322)); clear HO_314002; clear HO_323002; clear HO333; clear BK304; clear BK313; clear BK322; clear HB; have HO_314002 := n0_; have HO_323002 := n1_; have HO333 := n2_; have BK304 := n3_; have BK313 := n4_; have BK322 := n5_; have HB := n6_; have BK335 := n7_; have GW335 := n8_; have GE335 := n9_; have NB304_335 := n10_; have NB335_304 := n11_; have NB313_335 := n12_; have NB335_313 := n13_; have NB322_335 := n14_; have NB335_322 := n15_; clear n0_ n1_ n2_ n3_ n4_ n5_ n6_ n7_ n8_ n9_ n10_ n11_ n12_ n13_ n14_ n15_; clear hb hbox hg; have hnb50 := NB335_304.out; have hnc50 := NB304_335.out; have hnb51 := NB335_313.out; have hnc51 := NB313_335.out; have hnb52 := NB335_322.out; have hnc52 := NB322_335.out; have hcz53_0 : w49.cell? ⟨gb335, 0, none⟩ = some (.int .i64 0) := (blk_cell BK335.out 0).trans rfl; have hcz53_1 : w49.cell? ⟨gb335, 1, none⟩ = some (.int .i64 0) := (blk_cell BK335.out 1).trans rfl; have hcz53_2 : w49.cell? ⟨gb335, 2, none⟩ = some (.slice none 0 0) := (blk_cell BK335.out 2).trans rfl; have hfz53_0 := blk_frozen BK335.out 0; have hfz53_1 := blk_frozen BK335.out 1; have hfz53_2 := blk_frozen BK335.out 2; obtain ⟨Ao54, co54, eo54⟩ := Kd.R_slice HO333.out; subst eo54))
            (try simp only [Act.put, List.setIfInBounds_toArray, List.set_cons_zero, List.set_cons_succ])
            go_cut [57] (fun v57 wc => ∃ (kq : Nat) (x57_37 : Bool), v57 = .bool x57_37 ∧ Aside0 (laws_FnExactSpotMatrix.j1 kq t324 x57_37 t316 t317 t325 = some r) ∧ Aside0 (kq ≤ kj5) ∧ Aside0 (Kd.R (Kd.int .i64) 3 wc w.heap.size (fun k_ => some k_ ≠ ((.slice Ao22 t318.length co22) : Value).ownBlock ∧ some k_ ≠ ((.slice Ao54 t331.length co54) : Value).ownBlock) (.slice Ao14 t309.length co14) t309) ∧ Aside0 (Kd.R (Kd.int .i64) 3 wc w.heap.size (fun k_ => some k_ ≠ ((.slice Ao14 t309.length co14) : Value).ownBlock ∧ some k_ ≠ ((.slice Ao54 t331.length co54) : Value).ownBlock) (.slice Ao22 t318.length co22) t325) ∧ Aside0 (Kd.R (Kd.int .i64) 3 wc w.heap.size (fun k_ => some k_ ≠ ((.slice Ao14 t309.length co14) : Value).ownBlock ∧ some k_ ≠ ((.slice Ao22 t318.length co22) : Value).ownBlock) (.slice Ao54 t331.length co54) t331) ∧ Aside0 (wc.heap[gb304]? = some (.cells #[.int .i64 a0_0, .int .i64 a0_1] 42 (0, 0))) ∧ Aside0 (wc.heap[gb313]? = some (.cells #[.int .i64 t307, .int .i64 t308, (.slice Ao14 t309.length co14)] 37 (0, 0))) ∧ Aside0 (wc.heap[gb322]? = some (.cells #[.int .i64 t316, .int .i64 t317, (.slice Ao22 t318.length co22)] 37 (0, 0))) ∧ Aside0 (wc.heap[gb335]? = some (.cells #[.int .i64 t329, .int .i64 t330, (.slice Ao54 t331.length co54)] 37 (0, 0))) ∧ Aside0 (Below w.heap.size w wc))
            case first =>
              have H := HC38.out
              clear HC38
              replace H := Option.bind_eq_some_iff.mp H
              obtain ⟨t336, A550, H⟩ := H
              replace H : (if t336 = true then (laws_FnExactSpotMatrix.j1 kj5 t324 (t334 != t312) t316 t317 t325) else (laws_FnExactSpotMatrix.j1 kj5 t324 true t316 t317 t325)) = some r := H
              have A55 := Aside0.mk A550
              clear A550
              by_cases c56 : t336 = true
              · subst c56
                have H1 : (laws_FnExactSpotMatrix.j1 kj5 t324 (t334 != t312) t316 t317 t325) = some r := by rw [if_pos rfl] at H; first | exact H | (simp only [if_true] at H ⊢; exact H)
                clear H
                have H := H1
                clear H1
                have H' := Aside0.mk H
                clear H
                have hnb57 := NB335_304.out
                have hnc57 := NB304_335.out
                have hnb58 := NB335_313.out
                have hnc58 := NB313_335.out
                have hnb59 := NB335_322.out
                have hnc59 := NB322_335.out
                have hcz60_0 : w49.cell? ⟨gb335, 0, none⟩ = some (.int .i64 0) := (blk_cell BK335.out 0).trans rfl
                have hcz60_1 : w49.cell? ⟨gb335, 1, none⟩ = some (.int .i64 0) := (blk_cell BK335.out 1).trans rfl
                have hcz60_2 : w49.cell? ⟨gb335, 2, none⟩ = some (.slice none 0 0) := (blk_cell BK335.out 2).trans rfl
                have hfz60_0 := blk_frozen BK335.out 0
                have hfz60_1 := blk_frozen BK335.out 1
                have hfz60_2 := blk_frozen BK335.out 2
                have hnb61 := NB313_304.out
                have hnc61 := NB304_313.out
                have hnb62 := NB313_322.out
                have hnc62 := NB322_313.out
                have hcz63_0 : w49.cell? ⟨gb313, 0, none⟩ = some (.int .i64 t307) := (blk_cell BK313.out 0).trans rfl
                have hcz63_1 : w49.cell? ⟨gb313, 1, none⟩ = some (.int .i64 t308) := (blk_cell BK313.out 1).trans rfl
                have hcz63_2 : w49.cell? ⟨gb313, 2, none⟩ = some (.slice Ao14 t309.length co14) := (blk_cell BK313.out 2).trans rfl
                have hfz63_0 := blk_frozen BK313.out 0
                have hfz63_1 := blk_frozen BK313.out 1
                have hfz63_2 := blk_frozen BK313.out 2
                go_wp2_with (first | ((with_reducible refine gate_callee (f := 30) rfl ?_); refine goesL_ (some 51) rfl rfl Try.func30 (by kernel_rfl) rfl #[.agg #[.int .i64 t329, .int .i64 t330, .slice Ao54 t331.length co54], .agg #[.int .i64 t307, .int .i64 t308, .slice Ao14 t309.length co14]] rfl (by (try simp only [List.map_toArray, List.map_cons, List.map_nil]); first | done | rfl | (simp only [List.length_drop, List.length_take]; rfl)) ?_; (with_reducible refine (laws_eqMatrix.calls kj5 t329 t330 _ _ t331 t307 t308 _ _ t309 true _ ?side1 ?side2 ?side3 ?side4 A55.out).mono ?_); (case side1 => refine (Kd.R_reads' (e := 3) (base := w.heap.size) (ok := fun k_ => ((True ∧ some k_ ≠ (.slice Ao14 t309.length co14 : Value).ownBlock) ∧ some k_ ≠ (.slice Ao22 t318.length co22 : Value).ownBlock)) (n := t331.length) (c := co54) ?_).2.2; exact (by (with_reducible repeat (first | apply Kd.R_alloc | apply Kd.R_drewN | apply Kd.R_drew)); exact (Kd.R_mono (Kd.R_far (p := ⟨gb335, 2, none⟩) (Kd.R_far (p := ⟨gb335, 1, none⟩) (Kd.R_far (p := ⟨gb335, 0, none⟩) (Kd.R_types HO333.out BK335.out (by decide)) (fun _ hk => hk.2) (.int .i64 t329)) (fun _ hk => hk.2) (.int .i64 t330)) (fun _ hk => hk.2) (.slice Ao54 t331.length co54)) (fun _ h_ => h_.1)))); (case side2 => exact (Kd.R_reads' HO333.out).2.1); (case side3 => refine (Kd.R_reads' (e := 3) (base := w.heap.size) (ok := fun k_ => (some k_ ≠ (.slice Ao22 t318.length co22 : Value).ownBlock ∧ some k_ ≠ (.slice Ao54 t331.length co54 : Value).ownBlock)) (n := t309.length) (c := co14) ?_).2.2; exact (by (with_reducible repeat (first | apply Kd.R_alloc | apply Kd.R_drewN | apply Kd.R_drew)); exact (Kd.R_mono (Kd.R_far (p := ⟨gb335, 2, none⟩) (Kd.R_far (p := ⟨gb335, 1, none⟩) (Kd.R_far (p := ⟨gb335, 0, none⟩) (Kd.R_types HO_314002.out BK335.out (by decide)) (fun _ hk => hk.2) (.int .i64 t329)) (fun _ hk => hk.2) (.int .i64 t330)) (fun _ hk => hk.2) (.slice Ao54 t331.length co54)) (fun _ h_ => h_.1)))); (case side4 => exact (Kd.R_reads' HO_314002.out).2.1); rintro e w64 ⟨rfl, hb⟩; refine ⟨_, rfl, ?_⟩; have n0_ := Aside0.mk (Kd.R_below (by (with_reducible repeat (first | apply Kd.R_alloc | apply Kd.R_drewN | apply Kd.R_drew)); exact (Kd.R_mono (Kd.R_far (p := ⟨gb335, 2, none⟩) (Kd.R_far (p := ⟨gb335, 1, none⟩) (Kd.R_far (p := ⟨gb335, 0, none⟩) (Kd.R_types HO_314002.out BK335.out (by decide)) (fun _ hk => hk.2) (.int .i64 t329)) (fun _ hk => hk.2) (.int .i64 t330)) (fun _ hk => hk.2) (.slice Ao54 t331.length co54)) (fun _ h_ => h_.1))) hb); have n1_ := Aside0.mk (Kd.R_below (by (with_reducible repeat (first | apply Kd.R_alloc | apply Kd.R_drewN | apply Kd.R_drew)); exact (Kd.R_mono (Kd.R_far (p := ⟨gb335, 2, none⟩) (Kd.R_far (p := ⟨gb335, 1, none⟩) (Kd.R_far (p := ⟨gb335, 0, none⟩) (Kd.R_types HO_323002.out BK335.out (by decide)) (fun _ hk => hk.2) (.int .i64 t329)) (fun _ hk => hk.2) (.int .i64 t330)) (fun _ hk => hk.2) (.slice Ao54 t331.length co54)) (fun _ h_ => h_.1))) hb); have n2_ := Aside0.mk (Kd.R_below (by (with_reducible repeat (first | apply Kd.R_alloc | apply Kd.R_drewN | apply Kd.R_drew)); exact (Kd.R_mono (Kd.R_far (p := ⟨gb335, 2, none⟩) (Kd.R_far (p := ⟨gb335, 1, none⟩) (Kd.R_far (p := ⟨gb335, 0, none⟩) (Kd.R_types HO333.out BK335.out (by decide)) (fun _ hk => hk.2) (.int .i64 t329)) (fun _ hk => hk.2) (.int .i64 t330)) (fun _ hk => hk.2) (.slice Ao54 t331.length co54)) (fun _ h_ => h_.1))) hb); have n3_ := Aside0.mk (blk_below (g := gb304) (o := .cells #[.int .i64 a0_0, .int .i64 a0_1] 42 (0, 0)) (by (with_reducible repeat (first | refine blk_drewN ?_ _ | refine blk_drew ?_ | refine blk_alloc ?_ _)); refine blk_far ?_ NB304_335.out _; (with_reducible repeat (first | refine blk_drewN ?_ _ | refine blk_drew ?_ | refine blk_alloc ?_ _)); refine blk_far ?_ NB304_335.out _; (with_reducible repeat (first | refine blk_drewN ?_ _ | refine blk_drew ?_ | refine blk_alloc ?_ _)); refine blk_far ?_ NB304_335.out _; (with_reducible repeat (first | refine blk_drewN ?_ _ | refine blk_drew ?_ | refine blk_alloc ?_ _)); exact BK304.out) hb); have n4_ := Aside0.mk (blk_below (g := gb313) (o := .cells #[.int .i64 t307, .int .i64 t308, .slice Ao14 t309.length co14] 37 (0, 0)) (by (with_reducible repeat (first | refine blk_drewN ?_ _ | refine blk_drew ?_ | refine blk_alloc ?_ _)); refine blk_far ?_ NB313_335.out _; (with_reducible repeat (first | refine blk_drewN ?_ _ | refine blk_drew ?_ | refine blk_alloc ?_ _)); refine blk_far ?_ NB313_335.out _; (with_reducible repeat (first | refine blk_drewN ?_ _ | refine blk_drew ?_ | refine blk_alloc ?_ _)); refine blk_far ?_ NB313_335.out _; (with_reducible repeat (first | refine blk_drewN ?_ _ | refine blk_drew ?_ | refine blk_alloc ?_ _)); exact BK313.out) hb); have n5_ := Aside0.mk (blk_below (g := gb322) (o := .cells #[.int .i64 t316, .int .i64 t317, .slice Ao22 t318.length co22] 37 (0, 0)) (by (with_reducible repeat (first | refine blk_drewN ?_ _ | refine blk_drew ?_ | refine blk_alloc ?_ _)); refine blk_far ?_ NB322_335.out _; (with_reducible repeat (first | refine blk_drewN ?_ _ | refine blk_drew ?_ | refine blk_alloc ?_ _)); refine blk_far ?_ NB322_335.out _; (with_reducible repeat (first | refine blk_drewN ?_ _ | refine blk_drew ?_ | refine blk_alloc ?_ _)); refine blk_far ?_ NB322_335.out _; (with_reducible repeat (first | refine blk_drewN ?_ _ | refine blk_drew ?_ | refine blk_alloc ?_ _)); exact BK322.out) hb); have n6_ := Aside0.mk (blk_below (g := gb335) (o := .cells #[.int .i64 t329, .int .i64 t330, .slice Ao54 t331.length co54] 37 (0, 0)) (by (with_reducible repeat (first | refine blk_drewN ?_ _ | refine blk_drew ?_ | refine blk_alloc ?_ _)); refine blk_put (cs := #[.int .i64 t329, .int .i64 t330, .slice none 0 0]) ?_ 2 _ rfl; (with_reducible repeat (first | refine blk_drewN ?_ _ | refine blk_drew ?_ | refine blk_alloc ?_ _)); refine blk_put (cs := #[.int .i64 t329, .int .i64 0, .slice none 0 0]) ?_ 1 _ rfl; (with_reducible repeat (first | refine blk_drewN ?_ _ | refine blk_drew ?_ | refine blk_alloc ?_ _)); refine blk_put (cs := #[.int .i64 0, .int .i64 0, .slice none 0 0]) ?_ 0 _ rfl; (with_reducible repeat (first | refine blk_drewN ?_ _ | refine blk_drew ?_ | refine blk_alloc ?_ _)); exact BK335.out) hb); have n7_ := Aside0.mk (below_step (by repeat (first | (with_reducible first | exact HB.out | apply below_alloc | apply pw_below_drewN | apply below_drew1 | refine below_set ?_ GE304.out | refine below_set ?_ GE313.out | refine below_set ?_ GE322.out | refine below_set ?_ GE335.out) | exact HB.out)) hb); clear HO_314002; clear HO_323002; clear HO333; clear BK304; clear BK313; clear BK322; clear BK335; clear HB; have HO_314002 := n0_; have HO_323002 := n1_; have HO333 := n2_; have BK304 := n3_; have BK313 := n4_; have BK322 := n5_; have BK335 := n6_; have HB := n7_; clear n0_ n1_ n2_ n3_ n4_ n5_ n6_ n7_; (try clear hb); (try clear hb2); (try clear hk); (try clear hi)))
                go_meet
                case rel => exact ⟨_, ((t334 != t312)), (by first | rfl | (simp; done) | (simp [*]; done)), H', ⟨by have := HJ5.out; first | omega | exact Nat.le_refl _⟩, ⟨by (with_reducible repeat (first | apply Kd.R_alloc | apply Kd.R_drewN | apply Kd.R_drew)); exact HO_314002.out⟩, ⟨by (with_reducible repeat (first | apply Kd.R_alloc | apply Kd.R_drewN | apply Kd.R_drew)); exact HO_323002.out⟩, ⟨by (with_reducible repeat (first | apply Kd.R_alloc | apply Kd.R_drewN | apply Kd.R_drew)); exact Kd.R_mono HO333.out (fun _ hk => ⟨hk.1.2, hk.2⟩)⟩, ⟨by (with_reducible repeat (first | refine blk_drewN ?_ _ | refine blk_drew ?_ | refine blk_alloc ?_ _)); exact BK304.out⟩, ⟨by (with_reducible repeat (first | refine blk_drewN ?_ _ | refine blk_drew ?_ | refine blk_alloc ?_ _)); exact BK313.out⟩, ⟨by (with_reducible repeat (first | refine blk_drewN ?_ _ | refine blk_drew ?_ | refine blk_alloc ?_ _)); exact BK322.out⟩, ⟨by (with_reducible repeat (first | refine blk_drewN ?_ _ | refine blk_drew ?_ | refine blk_alloc ?_ _)); exact BK335.out⟩, ⟨by repeat (first | (with_reducible first | exact HB.out | apply below_alloc | apply pw_below_drewN | apply below_drew1 | refine below_set ?_ GE304.out | refine below_set ?_ GE313.out | refine below_set ?_ GE322.out | refine below_set ?_ GE335.out) | exact HB.out)⟩⟩
              · replace c56 := Bool.eq_false_iff.mpr c56
                subst c56
                have H1 : (laws_FnExactSpotMatrix.j1 kj5 t324 true t316 t317 t325) = some r := by rw [if_neg (show ¬ (false = true) by decide)] at H; first | exact H | (simp only [if_true] at H ⊢; exact H)
                clear H
                have H := H1
                clear H1
                exact absurd H (by rw [HRT_.out]; generalize kj5 = k_; cases k_ with | zero => (rw [laws_FnExactSpotMatrix.j1]; simp) | succ k_ => (rw [laws_FnExactSpotMatrix.j1, if_pos rfl]; simp))
            case rest =>
              clear HC38
              try clear c1
              try clear c2
              try clear p2
              try clear c3
              try clear c4
              try clear c5
              try clear c6
              try clear c7
              try clear c12
              try clear c15
              try clear c19
              try clear c20
              try clear c24
              try clear c25
              try clear c26
              try clear c28
              try clear c29
              try clear c30
              try clear c31
              try clear c32
              try clear c34
              try clear c34b0
              try clear c35
              try clear c35b0
              try clear c35b1
              try clear c39
              try clear c40
              try clear c45
              try clear c50
              try clear c51
              try clear c52
              try clear c56
              try clear c57
              try clear c58
              try clear c59
              try clear c61
              try clear c62
              try clear hcz13_0
              try clear hcz13_1
              try clear hcz13_2
              try clear hcz15_0
              try clear hcz15_1
              try clear hcz21_0
              try clear hcz21_1
              try clear hcz21_2
              try clear hcz27_0
              try clear hcz27_1
              try clear hcz27_2
              try clear hcz29_0
              try clear hcz29_1
              try clear hcz29_2
              try clear hcz41_0
              try clear hcz41_1
              try clear hcz41_2
              try clear hcz43_0
              try clear hcz43_1
              try clear hcz43_2
              try clear hcz46_0
              try clear hcz46_1
              try clear hcz53_0
              try clear hcz53_1
              try clear hcz53_2
              try clear hcz60_0
              try clear hcz60_1
              try clear hcz60_2
              try clear hcz63_0
              try clear hcz63_1
              try clear hcz63_2
              try clear hcz8_0
              try clear hcz8_1
              try clear hfz13_0
              try clear hfz13_1
              try clear hfz13_2
              try clear hfz15_0
              try clear hfz15_1
              try clear hfz21_0
              try clear hfz21_1
              try clear hfz21_2
              try clear hfz27_0
              try clear hfz27_1
              try clear hfz27_2
              try clear hfz29_0
              try clear hfz29_1
              try clear hfz29_2
              try clear hfz41_0
              try clear hfz41_1
              try clear hfz41_2
              try clear hfz43_0
              try clear hfz43_1
              try clear hfz43_2
              try clear hfz46_0
              try clear hfz46_1
              try clear hfz53_0
              try clear hfz53_1
              try clear hfz53_2
              try clear hfz60_0
              try clear hfz60_1
              try clear hfz60_2
              try clear hfz63_0
              try clear hfz63_1
              try clear hfz63_2
              try clear hfz8_0
              try clear hfz8_1
              try clear p2
              obtain ⟨kq, x57_37, rfl, HA, HJ37, HO_314002, HO_323002, HO_336002, BK304, BK313, BK322, BK335, HB⟩ := hcut
              have hl323002_37 := (Kd.R_reads' HO_323002.out).1
              rw [hl323002_37] at HO_323002
              (try simp only [hl323002_37])
              (try simp only [hl323002_37] at BK304)
              (try simp only [hl323002_37] at BK313)
              (try simp only [hl323002_37] at BK322)
              (try simp only [hl323002_37] at BK335)
              (try simp only [hl323002_37] at HO_314002)
              (try simp only [hl323002_37] at HO_336002)
              cases kq with
              | zero => exact absurd HA.out (by simp [laws_FnExactSpotMatrix.j1])
              | succ kj37 =>
                have H := HA.out
                clear HA
                simp only [laws_FnExactSpotMatrix.j1] at H
                by_cases c65 : x57_37 = true
                · subst c65
                  have H1 : (some false) = some r := by rw [if_pos rfl] at H; first | exact H | (simp only [if_true] at H ⊢; exact H)
                  clear H
                  have H := H1
                  clear H1
                  exact absurd (Option.some.inj H) (by rw [HRT_.out]; decide)
                · replace c65 := Bool.eq_false_iff.mpr c65
                  subst c65
                  have H1 : ((laws_heldMatrix.f kj37 t316 t317 t325 1).bind fun t337 => (if t337 < 0 then (some false) else (if t337 = t324 then (some true) else (some false)))) = some r := by rw [if_neg (show ¬ (false = true) by decide)] at H; first | exact H | (simp only [if_true] at H ⊢; exact H)
                  clear H
                  have H := H1
                  clear H1
                  replace H := Option.bind_eq_some_iff.mp H
                  obtain ⟨t337, A660, H⟩ := H
                  replace H : (if t337 < 0 then (some false) else (if t337 = t324 then (some true) else (some false))) = some r := H
                  have A66 := Aside0.mk A660
                  clear A660
                  by_cases c67 : t337 < 0
                  · rw [if_pos c67] at H
                    have c67b0 : decide (t337 < 0) = true := decide_eq_true c67
                    clear c67
                    exact absurd (Option.some.inj H) (by rw [HRT_.out]; decide)
                  · rw [if_neg c67] at H
                    have c67b0 : decide (t337 < 0) = false := decide_eq_false c67
                    clear c67
                    by_cases c68 : t337 = t324
                    · rw [if_pos c68] at H
                      have c68b0 : (t337 == t324) = true := beq_iff_eq.mpr c68
                      have c68b1 : (t337 != t324) = false := bne_eq_false_iff_eq.mpr c68
                      clear c68
                      obtain rfl := Option.some.inj H
                      have hnb69 := NB322_304.out
                      have hnc69 := NB304_322.out
                      have hnb70 := NB322_313.out
                      have hnc70 := NB313_322.out
                      have hnb71 := NB322_335.out
                      have hnc71 := NB335_322.out
                      have hcz72_0 : wc.cell? ⟨gb322, 0, none⟩ = some (.int .i64 t316) := (blk_cell BK322.out 0).trans rfl
                      have hcz72_1 : wc.cell? ⟨gb322, 1, none⟩ = some (.int .i64 t317) := (blk_cell BK322.out 1).trans rfl
                      have hcz72_2 : wc.cell? ⟨gb322, 2, none⟩ = some (.slice Ao22 t325.length co22) := (blk_cell BK322.out 2).trans rfl
                      have hfz72_0 := blk_frozen BK322.out 0
                      have hfz72_1 := blk_frozen BK322.out 1
                      have hfz72_2 := blk_frozen BK322.out 2
                      go_wp2_with (first | ((with_reducible refine gate_callee (f := 32) rfl ?_); refine goesL_ (some 60) rfl rfl Try.func32 (by kernel_rfl) rfl #[.agg #[.int .i64 t316, .int .i64 t317, .slice Ao22 t325.length co22], .int .i64 1] rfl (by (try simp only [List.map_toArray, List.map_cons, List.map_nil]); first | done | rfl | (simp only [List.length_drop, List.length_take]; rfl)) ?_; (with_reducible refine (laws_heldMatrix.calls kj37 t316 t317 _ _ t325 1 t337 _ ?side1 ?side2 A66.out).mono ?_); (case side1 => repeat (first | exact (Kd.R_reads' HO_323002.out).2.2 | (with_reducible refine Kd.C_alloc ?_ _) | (with_reducible refine Kd.C_drewN ?_ _) | (with_reducible refine Kd.C_drew ?_))); (case side2 => exact (Kd.R_reads' HO_323002.out).2.1); rintro e w73 ⟨rfl, hb⟩; refine ⟨_, rfl, ?_⟩; have n0_ := Aside0.mk (Kd.R_below (by (with_reducible repeat (first | apply Kd.R_alloc | apply Kd.R_drewN | apply Kd.R_drew)); exact HO_314002.out) hb); have n1_ := Aside0.mk (Kd.R_below (by (with_reducible repeat (first | apply Kd.R_alloc | apply Kd.R_drewN | apply Kd.R_drew)); exact HO_323002.out) hb); have n2_ := Aside0.mk (Kd.R_below (by (with_reducible repeat (first | apply Kd.R_alloc | apply Kd.R_drewN | apply Kd.R_drew)); exact HO_336002.out) hb); have n3_ := Aside0.mk (blk_below (g := gb304) (o := .cells #[.int .i64 a0_0, .int .i64 a0_1] 42 (0, 0)) (by (with_reducible repeat (first | refine blk_drewN ?_ _ | refine blk_drew ?_ | refine blk_alloc ?_ _)); exact BK304.out) hb); have n4_ := Aside0.mk (blk_below (g := gb313) (o := .cells #[.int .i64 t307, .int .i64 t308, .slice Ao14 t309.length co14] 37 (0, 0)) (by (with_reducible repeat (first | refine blk_drewN ?_ _ | refine blk_drew ?_ | refine blk_alloc ?_ _)); exact BK313.out) hb); have n5_ := Aside0.mk (blk_below (g := gb322) (o := .cells #[.int .i64 t316, .int .i64 t317, .slice Ao22 t325.length co22] 37 (0, 0)) (by (with_reducible repeat (first | refine blk_drewN ?_ _ | refine blk_drew ?_ | refine blk_alloc ?_ _)); exact BK322.out) hb); have n6_ := Aside0.mk (blk_below (g := gb335) (o := .cells #[.int .i64 t329, .int .i64 t330, .slice Ao54 t331.length co54] 37 (0, 0)) (by (with_reducible repeat (first | refine blk_drewN ?_ _ | refine blk_drew ?_ | refine blk_alloc ?_ _)); exact BK335.out) hb); have n7_ := Aside0.mk (below_step (by repeat (first | (with_reducible first | exact HB.out | apply below_alloc | apply pw_below_drewN | apply below_drew1 | refine below_set ?_ GE304.out | refine below_set ?_ GE313.out | refine below_set ?_ GE322.out | refine below_set ?_ GE335.out) | exact HB.out)) hb); clear HO_314002; clear HO_323002; clear HO_336002; clear BK304; clear BK313; clear BK322; clear BK335; clear HB; have HO_314002 := n0_; have HO_323002 := n1_; have HO_336002 := n2_; have BK304 := n3_; have BK313 := n4_; have BK322 := n5_; have BK335 := n6_; have HB := n7_; clear n0_ n1_ n2_ n3_ n4_ n5_ n6_ n7_; (try clear hb); (try clear hb2); (try clear hk); (try clear hi)))
                      go_ret
                      exact ⟨by first | rfl | (simp [errW_none, errW_some] <;> rfl) | (simp [*, errW_none, errW_some] <;> rfl), by repeat (first | (with_reducible first | exact HB.out | apply below_alloc | apply pw_below_drewN | apply below_drew1 | refine below_set ?_ GE304.out | refine below_set ?_ GE313.out | refine below_set ?_ GE322.out | refine below_set ?_ GE335.out) | exact HB.out)⟩
                    · rw [if_neg c68] at H
                      have c68b0 : (t337 == t324) = false := beq_eq_false_iff_ne.mpr c68
                      have c68b1 : (t337 != t324) = true := bne_iff_ne.mpr c68
                      exact absurd (Option.some.inj H) (by rw [HRT_.out]; decide)
          · rw [if_neg c35] at H
            have c35b0 : (t326 == t324) = false := beq_eq_false_iff_ne.mpr c35
            have c35b1 : (t326 != t324) = true := bne_iff_ne.mpr c35
            exact absurd (Option.some.inj H) (by rw [HRT_.out]; decide)

end Go.Proofs.Ytkkcedkiohefmaa.PFnExactSpotMatrix
