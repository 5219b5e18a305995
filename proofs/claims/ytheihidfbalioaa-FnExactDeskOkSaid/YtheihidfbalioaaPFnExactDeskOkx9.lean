/- Machine side of laws FnExactDeskOk: written for this claim by the kit's print program under this session's wip/tools/mp_setup.py (with contracts of the session's own, wip/ext). -/
import Derived.Test.YtheihidfbalioaaPFnExactDeskOkx0
import Derived.Test.YtheihidfbalioaaPFnExactDeskOkx1
import Derived.Test.YtheihidfbalioaaPFnExactDeskOkx4
import Derived.Test.YtheihidfbalioaaPFnExactDeskOkx5
import Derived.Test.YtheihidfbalioaaPFnExactDeskOkx7
import Derived.Test.YtheihidfbalioaaPFnExactDeskOkx8
namespace Go.Proofs.Ytheihidfbalioaa.PFnExactDeskOk
open Go.RowKit Go.Proofs.YtheihidfbalioaaW.PrintWords Go.Proofs.YtheihidfbalioaaW.PrintLast Go.Proofs.YtheihidfbalioaaW.PrintMore
attribute [local go_sem] max2_int min2_int max_two min_two max_three min_three max_four min_four   -- for this text's walks alone
set_option linter.unusedVariables false
set_option linter.unusedSimpArgs false
-- squeezed: words under short names
set_option linter.defProp false in
def z0j := @Aside0.mk
set_option linter.defProp false in
def z1j := @blk_drewN
set_option linter.defProp false in
def z2j := @blk_alloc
set_option linter.defProp false in
def z3j := @blk_drew
set_option linter.defProp false in
def z4j := @below_alloc
set_option linter.defProp false in
def z5j := @pw_below_drewN
set_option linter.defProp false in
def z6j := @below_drew1
set_option linter.defProp false in
def z7j := @below_set
set_option linter.defProp false in
def z8j := @Kd.R_alloc
set_option linter.defProp false in
def z9j := @Kd.R_drewN
set_option linter.defProp false in
def y1j := @Kd.R_drew
set_option linter.defProp false in
def y2j := @Kd.C_alloc
set_option linter.defProp false in
def y3j := @Kd.C_drewN
set_option linter.defProp false in
def y4j := @Kd.C_drew
set_option linter.defProp false in
def y5j := @blk_below
set_option linter.defProp false in
def y6j := @below_step
set_option linter.defProp false in
def y7j := @below_size
set_option linter.defProp false in
def y9j := @Kd.C_below
set_option linter.defProp false in
def x1j := @Kd.R_far
set_option linter.defProp false in
def x2j := @blk_frozen
set_option linter.defProp false in
def x3j := @blk_cell
set_option linter.defProp false in
def x4j := @Kd.R_below
set_option linter.defProp false in
def x5j := @Kd.R_reads'
set_option linter.defProp false in
def x6j := @Kd.R_mono
set_option linter.defProp false in
def w2_j := @Kd.R_base
def bsj_ (n m : Nat) : Array Bool := ((List.range n).map fun i => m.testBit i).toArray
theorem s1j_ {α : Type} (l : List α) (i : Nat) (a : α) : l.toArray.setIfInBounds i a = (l.set i a).toArray := List.setIfInBounds_toArray l i a
theorem s2j_ {α : Type} (a b : α) (l : List α) : (a :: l).set 0 b = b :: l := rfl
theorem s3j_ {α : Type} (a b : α) (n : Nat) (l : List α) : (a :: l).set (n + 1) b = a :: l.set n b := rfl

/-! ### laws_FnExactDeskOk: function 13 -/
def laws_FnExactDeskOk.f (k : Nat) (a0_0 : Int) (a0_1 : Int) (l0_2 : List Int) (a0_3 : Int) (a0_4 : Int) (l0_5 : List Int) (l0_6 : List (S60)) : Option (Bool) := (laws_szDesk.f k a0_0 a0_1 l0_2 a0_3 a0_4 l0_5 l0_6 1048576).bind fun t225 => (if t225 < 0 then (some true) else ((laws_toDesk.f k a0_0 a0_1 l0_2 a0_3 a0_4 l0_5 l0_6).bind fun bt226 => ((spec_DeskOk.f k bt226.1 bt226.2.1 bt226.2.2.1 bt226.2.2.2.1 bt226.2.2.2.2.1 bt226.2.2.2.2.2.1 bt226.2.2.2.2.2.2).bind fun t239 => ((laws_toDesk.f k a0_0 a0_1 l0_2 a0_3 a0_4 l0_5 l0_6).bind fun bt240 => ((impl_DeskOk.f k bt240.1 bt240.2.1 bt240.2.2.1 bt240.2.2.2.1 bt240.2.2.2.2.1 bt240.2.2.2.2.2.1 bt240.2.2.2.2.2.2).bind fun t254 => (if (t254 != t239) = true then (some false) else ((laws_toDesk.f k a0_0 a0_1 l0_2 a0_3 a0_4 l0_5 l0_6).bind fun bt255 => ((laws_eqDesk.f k bt240.1 bt240.2.1 bt240.2.2.1 bt240.2.2.2.1 bt240.2.2.2.2.1 bt240.2.2.2.2.2.1 bt240.2.2.2.2.2.2 bt255.1 bt255.2.1 bt255.2.2.1 bt255.2.2.2.1 bt255.2.2.2.2.1 bt255.2.2.2.2.2.1 bt255.2.2.2.2.2.2).bind fun t268 => (if t268 = true then (some true) else (some false))))))))))
theorem laws_FnExactDeskOk.mono : ∀ a0 a1 a2 a3 a4 a5 a6 k, LeO (laws_FnExactDeskOk.f k a0 a1 a2 a3 a4 a5 a6) (laws_FnExactDeskOk.f (k + 1) a0 a1 a2 a3 a4 a5 a6) := by
 intro a0 a1 a2 a3 a4 a5 a6 k
 unfold laws_FnExactDeskOk.f
 repeat' first
   | (with_reducible exact impl_DeskOk.mono _ _ _ _ _ _ _ _)
   | (with_reducible exact laws_eqDesk.mono _ _ _ _ _ _ _ _ _ _ _ _ _ _ _)
   | (with_reducible exact laws_szDesk.mono _ _ _ _ _ _ _ _ _)
   | (with_reducible exact laws_toDesk.mono _ _ _ _ _ _ _ _)
   | (with_reducible exact spec_DeskOk.mono _ _ _ _ _ _ _ _)
   | (with_reducible exact LeO.refl _)
   | (with_reducible exact LeO.none _)
   | (with_reducible refine LeO.ite ?_ ?_)
   | (with_reducible refine LeO.bind ?_ (fun _ => ?_))
   | exact impl_DeskOk.mono _ _ _ _ _ _ _ _
   | exact laws_eqDesk.mono _ _ _ _ _ _ _ _ _ _ _ _ _ _ _
   | exact laws_szDesk.mono _ _ _ _ _ _ _ _ _
   | exact laws_toDesk.mono _ _ _ _ _ _ _ _
   | exact spec_DeskOk.mono _ _ _ _ _ _ _ _
   | exact LeO.none _
   | refine LeO.ite ?_ ?_
   | refine LeO.bind ?_ (fun _ => ?_)
set_option maxHeartbeats 8000000 in
set_option maxRecDepth 100000 in
theorem laws_FnExactDeskOk.calls (k : Nat) (a0_0 : Int) (a0_1 : Int) (A0_2 : Option Addr) (c0_2 : Nat) (l0_2 : List Int) (a0_3 : Int) (a0_4 : Int) (A0_5 : Option Addr) (c0_5 : Nat) (l0_5 : List Int) (A0_6 : Option Addr) (c0_6 : Nat) (l0_6 : List (S60)) (r : Bool) (w : World) (hr0_2 : Kd.C (Kd.int .i64) w A0_2 l0_2.length l0_2) (hc0_2 : l0_2.length ≤ c0_2) (hr0_5 : Kd.C (Kd.int .i64) w A0_5 l0_5.length l0_5) (hc0_5 : l0_5.length ≤ c0_5) (hr0_6 : Kd.C k60 w A0_6 l0_6.length l0_6) (hc0_6 : l0_6.length ≤ c0_6) (h : laws_FnExactDeskOk.f k a0_0 a0_1 l0_2 a0_3 a0_4 l0_5 l0_6 = some r) (hr_ : r = true := by rfl) :
  Calls Try.prog 13 #[.agg #[.int .i64 a0_0, .int .i64 a0_1, .slice A0_2 l0_2.length c0_2, .int .i64 a0_3, .int .i64 a0_4, .slice A0_5 l0_5.length c0_5, .slice A0_6 l0_6.length c0_6]] w fun e w' => e = .returned (.bool r) ∧ Below w.heap.size w w' := by
 have HRT_ := z0j hr_
 clear hr_
 have hu64 := Try.underlying64
 have hu68 := Try.underlying68
 have HR0_2 := z0j hr0_2
 have HC0_2 := z0j hc0_2
 clear hr0_2 hc0_2
 have HR0_5 := z0j hr0_5
 have HC0_5 := z0j hc0_5
 clear hr0_5 hc0_5
 have HR0_6 := z0j hr0_6
 have HC0_6 := z0j hc0_6
 clear hr0_6 hc0_6
 have HB := z0j (Below.refl w.heap.size w)
 have H : ((laws_szDesk.f k a0_0 a0_1 l0_2 a0_3 a0_4 l0_5 l0_6 1048576).bind fun t225 => (if t225 < 0 then (some true) else ((laws_toDesk.f k a0_0 a0_1 l0_2 a0_3 a0_4 l0_5 l0_6).bind fun bt226 => ((spec_DeskOk.f k bt226.1 bt226.2.1 bt226.2.2.1 bt226.2.2.2.1 bt226.2.2.2.2.1 bt226.2.2.2.2.2.1 bt226.2.2.2.2.2.2).bind fun t239 => ((laws_toDesk.f k a0_0 a0_1 l0_2 a0_3 a0_4 l0_5 l0_6).bind fun bt240 => ((impl_DeskOk.f k bt240.1 bt240.2.1 bt240.2.2.1 bt240.2.2.2.1 bt240.2.2.2.2.1 bt240.2.2.2.2.2.1 bt240.2.2.2.2.2.2).bind fun t254 => (if (t254 != t239) = true then (some false) else ((laws_toDesk.f k a0_0 a0_1 l0_2 a0_3 a0_4 l0_5 l0_6).bind fun bt255 => ((laws_eqDesk.f k bt240.1 bt240.2.1 bt240.2.2.1 bt240.2.2.2.1 bt240.2.2.2.2.1 bt240.2.2.2.2.2.1 bt240.2.2.2.2.2.2 bt255.1 bt255.2.1 bt255.2.2.1 bt255.2.2.2.1 bt255.2.2.2.2.1 bt255.2.2.2.2.2.1 bt255.2.2.2.2.2.2).bind fun t268 => (if t268 = true then (some true) else (some false))))))))))) = some r := h
 clear h
 replace H := Option.bind_eq_some_iff.mp H
 obtain ⟨t225, A20, H⟩ := H
 replace H : (if t225 < 0 then (some true) else ((laws_toDesk.f k a0_0 a0_1 l0_2 a0_3 a0_4 l0_5 l0_6).bind fun bt226 => ((spec_DeskOk.f k bt226.1 bt226.2.1 bt226.2.2.1 bt226.2.2.2.1 bt226.2.2.2.2.1 bt226.2.2.2.2.2.1 bt226.2.2.2.2.2.2).bind fun t239 => ((laws_toDesk.f k a0_0 a0_1 l0_2 a0_3 a0_4 l0_5 l0_6).bind fun bt240 => ((impl_DeskOk.f k bt240.1 bt240.2.1 bt240.2.2.1 bt240.2.2.2.1 bt240.2.2.2.2.1 bt240.2.2.2.2.2.1 bt240.2.2.2.2.2.2).bind fun t254 => (if (t254 != t239) = true then (some false) else ((laws_toDesk.f k a0_0 a0_1 l0_2 a0_3 a0_4 l0_5 l0_6).bind fun bt255 => ((laws_eqDesk.f k bt240.1 bt240.2.1 bt240.2.2.1 bt240.2.2.2.1 bt240.2.2.2.2.1 bt240.2.2.2.2.2.1 bt240.2.2.2.2.2.2 bt255.1 bt255.2.1 bt255.2.2.1 bt255.2.2.2.1 bt255.2.2.2.2.1 bt255.2.2.2.2.2.1 bt255.2.2.2.2.2.2).bind fun t268 => (if t268 = true then (some true) else (some false)))))))))) = some r := H
 have A2 := z0j A20
 clear A20
 by_cases c3 : t225 < 0
 ·rw [if_pos c3] at H
  have c3b0 : decide (t225 < 0) = true := decide_eq_true c3
  clear c3
  obtain rfl := Option.some.inj H
  go_enter Try.func13, Try.ntmps13
  go_wp2_with (first | ((with_reducible refine gate_dst (N := 1) rfl ?_); refine box_event ?hg (N := 1) ?hd (cs := #[.int .i64 a0_0, .int .i64 a0_1, .slice A0_2 l0_2.length c0_2, .int .i64 a0_3, .int .i64 a0_4, .slice A0_5 l0_5.length c0_5, .slice A0_6 l0_6.length c0_6]) (t := 64) ?hr ?_; (case hd => rfl); (case hg => rfl); (case hr => first | (go_simp; done) | (go_simp; rfl)); intro gb224 hg w4 hbox hb; have n0_ := z0j (y6j (by repeat (first | (with_reducible first | exact HB.out | apply z4j | apply z5j | apply z6j) | exact HB.out)) hb); have n1_ := z0j (hbox); have n2_ := z0j ((by rw [hg]; exact (y7j (by repeat (first | (with_reducible first | exact HB.out | apply z4j | apply z5j | apply z6j) | exact HB.out))) : w.heap.size ≤ gb224)); have n3_ := z0j ((by rw [hg]; exact (y7j (by repeat (first | (with_reducible first | exact HB.out | apply z4j | apply z5j | apply z6j) | exact HB.out))) : w.heap.size ≤ gb224)); clear HB; have HB := n0_; have BK224 := n1_; have GW224 := n2_; have GE224 := n3_; clear n0_ n1_ n2_ n3_; clear hb hbox hg; have hcz5_0 : w4.cell? ⟨gb224, 0, none⟩ = some (.int .i64 a0_0) := (x3j BK224.out 0).trans rfl; have hcz5_1 : w4.cell? ⟨gb224, 1, none⟩ = some (.int .i64 a0_1) := (x3j BK224.out 1).trans rfl; have hcz5_2 : w4.cell? ⟨gb224, 2, none⟩ = some (.slice A0_2 l0_2.length c0_2) := (x3j BK224.out 2).trans rfl; have hcz5_3 : w4.cell? ⟨gb224, 3, none⟩ = some (.int .i64 a0_3) := (x3j BK224.out 3).trans rfl; have hcz5_4 : w4.cell? ⟨gb224, 4, none⟩ = some (.int .i64 a0_4) := (x3j BK224.out 4).trans rfl; have hcz5_5 : w4.cell? ⟨gb224, 5, none⟩ = some (.slice A0_5 l0_5.length c0_5) := (x3j BK224.out 5).trans rfl; have hcz5_6 : w4.cell? ⟨gb224, 6, none⟩ = some (.slice A0_6 l0_6.length c0_6) := (x3j BK224.out 6).trans rfl; have hfz5_0 := x2j BK224.out 0; have hfz5_1 := x2j BK224.out 1; have hfz5_2 := x2j BK224.out 2; have hfz5_3 := x2j BK224.out 3; have hfz5_4 := x2j BK224.out 4; have hfz5_5 := x2j BK224.out 5; have hfz5_6 := x2j BK224.out 6) | ((with_reducible refine gate_callee (f := 50) rfl ?_); refine goesL_ (some 9) rfl rfl Try.func50 (by kernel_rfl) rfl #[.agg #[.int .i64 a0_0, .int .i64 a0_1, .slice A0_2 l0_2.length c0_2, .int .i64 a0_3, .int .i64 a0_4, .slice A0_5 l0_5.length c0_5, .slice A0_6 l0_6.length c0_6], .int .i64 1048576] rfl (by (try simp only [List.map_toArray, List.map_cons, List.map_nil]); first | done | rfl | (simp only [List.length_drop, List.length_take]; rfl)) ?_; (with_reducible refine (laws_szDesk.calls k a0_0 a0_1 _ _ l0_2 a0_3 a0_4 _ _ l0_5 _ _ l0_6 1048576 t225 _ ?side1 ?side2 ?side3 ?side4 ?side5 ?side6 A2.out).mono ?_); (case side1 => repeat (first | exact HR0_2.out | exact (y9j HR0_2.out HB.out) | (with_reducible refine y2j ?_ _) | (with_reducible refine y3j ?_ _) | (with_reducible refine y4j ?_))); (case side2 => exact HC0_2.out); (case side3 => repeat (first | exact HR0_5.out | exact (y9j HR0_5.out HB.out) | (with_reducible refine y2j ?_ _) | (with_reducible refine y3j ?_ _) | (with_reducible refine y4j ?_))); (case side4 => exact HC0_5.out); (case side5 => repeat (first | exact HR0_6.out | exact (y9j HR0_6.out HB.out) | (with_reducible refine y2j ?_ _) | (with_reducible refine y3j ?_ _) | (with_reducible refine y4j ?_))); (case side6 => exact HC0_6.out); rintro e w6 ⟨rfl, hb⟩; refine ⟨_, rfl, ?_⟩; have n0_ := z0j (y5j (g := gb224) (o := .cells #[.int .i64 a0_0, .int .i64 a0_1, .slice A0_2 l0_2.length c0_2, .int .i64 a0_3, .int .i64 a0_4, .slice A0_5 l0_5.length c0_5, .slice A0_6 l0_6.length c0_6] 64 (0, 0)) (by (with_reducible repeat (first | refine z1j ?_ _ | refine z3j ?_ | refine z2j ?_ _)); exact BK224.out) hb); have n1_ := z0j (y6j (by repeat (first | (with_reducible first | exact HB.out | apply z4j | apply z5j | apply z6j | refine z7j ?_ GE224.out) | exact HB.out)) hb); clear BK224; clear HB; have BK224 := n0_; have HB := n1_; clear n0_ n1_; (try clear hb)))
  go_ret
  exact ⟨by first | rfl | (simp [errW_none, errW_some] <;> rfl) | (simp [*, errW_none, errW_some] <;> rfl), by repeat (first | (with_reducible first | exact HB.out | apply z4j | apply z5j | apply z6j | refine z7j ?_ GE224.out) | exact HB.out)⟩
 ·rw [if_neg c3] at H
  have c3b0 : decide (t225 < 0) = false := decide_eq_false c3
  clear c3
  replace H := Option.bind_eq_some_iff.mp H
  obtain ⟨⟨t226, t227, t228, t231, t232, t233, t236⟩, A70, H⟩ := H
  replace H : ((spec_DeskOk.f k t226 t227 t228 t231 t232 t233 t236).bind fun t239 => ((laws_toDesk.f k a0_0 a0_1 l0_2 a0_3 a0_4 l0_5 l0_6).bind fun bt240 => ((impl_DeskOk.f k bt240.1 bt240.2.1 bt240.2.2.1 bt240.2.2.2.1 bt240.2.2.2.2.1 bt240.2.2.2.2.2.1 bt240.2.2.2.2.2.2).bind fun t254 => (if (t254 != t239) = true then (some false) else ((laws_toDesk.f k a0_0 a0_1 l0_2 a0_3 a0_4 l0_5 l0_6).bind fun bt255 => ((laws_eqDesk.f k bt240.1 bt240.2.1 bt240.2.2.1 bt240.2.2.2.1 bt240.2.2.2.2.1 bt240.2.2.2.2.2.1 bt240.2.2.2.2.2.2 bt255.1 bt255.2.1 bt255.2.2.1 bt255.2.2.2.1 bt255.2.2.2.2.1 bt255.2.2.2.2.2.1 bt255.2.2.2.2.2.2).bind fun t268 => (if t268 = true then (some true) else (some false)))))))) = some r := H
  have A7 := z0j A70
  clear A70
  replace H := Option.bind_eq_some_iff.mp H
  obtain ⟨t239, A80, H⟩ := H
  replace H : ((laws_toDesk.f k a0_0 a0_1 l0_2 a0_3 a0_4 l0_5 l0_6).bind fun bt240 => ((impl_DeskOk.f k bt240.1 bt240.2.1 bt240.2.2.1 bt240.2.2.2.1 bt240.2.2.2.2.1 bt240.2.2.2.2.2.1 bt240.2.2.2.2.2.2).bind fun t254 => (if (t254 != t239) = true then (some false) else ((laws_toDesk.f k a0_0 a0_1 l0_2 a0_3 a0_4 l0_5 l0_6).bind fun bt255 => ((laws_eqDesk.f k bt240.1 bt240.2.1 bt240.2.2.1 bt240.2.2.2.1 bt240.2.2.2.2.1 bt240.2.2.2.2.2.1 bt240.2.2.2.2.2.2 bt255.1 bt255.2.1 bt255.2.2.1 bt255.2.2.2.1 bt255.2.2.2.2.1 bt255.2.2.2.2.2.1 bt255.2.2.2.2.2.2).bind fun t268 => (if t268 = true then (some true) else (some false))))))) = some r := H
  have A8 := z0j A80
  clear A80
  replace H := Option.bind_eq_some_iff.mp H
  obtain ⟨⟨t240, t241, t242, t245, t246, t247, t250⟩, A90, H⟩ := H
  replace H : ((impl_DeskOk.f k t240 t241 t242 t245 t246 t247 t250).bind fun t254 => (if (t254 != t239) = true then (some false) else ((laws_toDesk.f k a0_0 a0_1 l0_2 a0_3 a0_4 l0_5 l0_6).bind fun bt255 => ((laws_eqDesk.f k t240 t241 t242 t245 t246 t247 t250 bt255.1 bt255.2.1 bt255.2.2.1 bt255.2.2.2.1 bt255.2.2.2.2.1 bt255.2.2.2.2.2.1 bt255.2.2.2.2.2.2).bind fun t268 => (if t268 = true then (some true) else (some false)))))) = some r := H
  have A9 := z0j A90
  clear A90
  replace H := Option.bind_eq_some_iff.mp H
  obtain ⟨t254, A100, H⟩ := H
  replace H : (if (t254 != t239) = true then (some false) else ((laws_toDesk.f k a0_0 a0_1 l0_2 a0_3 a0_4 l0_5 l0_6).bind fun bt255 => ((laws_eqDesk.f k t240 t241 t242 t245 t246 t247 t250 bt255.1 bt255.2.1 bt255.2.2.1 bt255.2.2.2.1 bt255.2.2.2.2.1 bt255.2.2.2.2.2.1 bt255.2.2.2.2.2.2).bind fun t268 => (if t268 = true then (some true) else (some false))))) = some r := H
  have A10 := z0j A100
  clear A100
  by_cases c11 : (t254 != t239) = true
  ·rw [if_pos c11] at H
   have c11b0 : (t254 != t239) = true := c11
   (try (have c11b1 : decide (t254 = t239) = false := by simpa using c11))
   (try (have c11b2 : (t254 == t239) = false := by simpa using c11))
   (try (have c11b3 : ¬ (t254 = t239) := by simpa using c11))
   clear c11
   exact absurd (Option.some.inj H) (by rw [HRT_.out]; decide)
  ·rw [if_neg c11] at H
   have c11b0 : (t254 != t239) = false := by simpa using c11
   (try (have c11b1 : decide (t254 = t239) = true := by simpa using c11))
   (try (have c11b2 : (t254 == t239) = true := by simpa using c11))
   clear c11
   replace H := Option.bind_eq_some_iff.mp H
   obtain ⟨⟨t255, t256, t257, t260, t261, t262, t265⟩, A120, H⟩ := H
   replace H : ((laws_eqDesk.f k t240 t241 t242 t245 t246 t247 t250 t255 t256 t257 t260 t261 t262 t265).bind fun t268 => (if t268 = true then (some true) else (some false))) = some r := H
   have A12 := z0j A120
   clear A120
   replace H := Option.bind_eq_some_iff.mp H
   obtain ⟨t268, A130, H⟩ := H
   replace H : (if t268 = true then (some true) else (some false)) = some r := H
   have A13 := z0j A130
   clear A130
   by_cases c14 : t268 = true
   ·subst c14
    have H1 : (some true) = some r := by rw [if_pos rfl] at H; first | exact H | (simp only [if_true] at H ⊢; exact H)
    clear H
    have H := H1
    clear H1
    obtain rfl := Option.some.inj H
    go_enter Try.func13, Try.ntmps13
    try go_wp2_with (first | ((with_reducible refine gate_dst (N := 1) rfl ?_); refine box_event ?hg (N := 1) ?hd (cs := #[.int .i64 a0_0, .int .i64 a0_1, .slice A0_2 l0_2.length c0_2, .int .i64 a0_3, .int .i64 a0_4, .slice A0_5 l0_5.length c0_5, .slice A0_6 l0_6.length c0_6]) (t := 64) ?hr ?_; (case hd => rfl); (case hg => rfl); (case hr => first | (go_simp; done) | (go_simp; rfl)); intro gb224 hg w15 hbox hb; have n0_ := z0j (y6j (by repeat (first | (with_reducible first | exact HB.out | apply z4j | apply z5j | apply z6j) | exact HB.out)) hb); have n1_ := z0j (hbox); have n2_ := z0j ((by rw [hg]; exact (y7j (by repeat (first | (with_reducible first | exact HB.out | apply z4j | apply z5j | apply z6j) | exact HB.out))) : w.heap.size ≤ gb224)); have n3_ := z0j ((by rw [hg]; exact (y7j (by repeat (first | (with_reducible first | exact HB.out | apply z4j | apply z5j | apply z6j) | exact HB.out))) : w.heap.size ≤ gb224)); clear HB; have HB := n0_; have BK224 := n1_; have GW224 := n2_; have GE224 := n3_; clear n0_ n1_ n2_ n3_; clear hb hbox hg; have hcz16_0 : w15.cell? ⟨gb224, 0, none⟩ = some (.int .i64 a0_0) := (x3j BK224.out 0).trans rfl; have hcz16_1 : w15.cell? ⟨gb224, 1, none⟩ = some (.int .i64 a0_1) := (x3j BK224.out 1).trans rfl; have hcz16_2 : w15.cell? ⟨gb224, 2, none⟩ = some (.slice A0_2 l0_2.length c0_2) := (x3j BK224.out 2).trans rfl; have hcz16_3 : w15.cell? ⟨gb224, 3, none⟩ = some (.int .i64 a0_3) := (x3j BK224.out 3).trans rfl; have hcz16_4 : w15.cell? ⟨gb224, 4, none⟩ = some (.int .i64 a0_4) := (x3j BK224.out 4).trans rfl; have hcz16_5 : w15.cell? ⟨gb224, 5, none⟩ = some (.slice A0_5 l0_5.length c0_5) := (x3j BK224.out 5).trans rfl; have hcz16_6 : w15.cell? ⟨gb224, 6, none⟩ = some (.slice A0_6 l0_6.length c0_6) := (x3j BK224.out 6).trans rfl; have hfz16_0 := x2j BK224.out 0; have hfz16_1 := x2j BK224.out 1; have hfz16_2 := x2j BK224.out 2; have hfz16_3 := x2j BK224.out 3; have hfz16_4 := x2j BK224.out 4; have hfz16_5 := x2j BK224.out 5; have hfz16_6 := x2j BK224.out 6) | ((with_reducible refine gate_callee (f := 50) rfl ?_); refine goesL_ (some 9) rfl rfl Try.func50 (by kernel_rfl) rfl #[.agg #[.int .i64 a0_0, .int .i64 a0_1, .slice A0_2 l0_2.length c0_2, .int .i64 a0_3, .int .i64 a0_4, .slice A0_5 l0_5.length c0_5, .slice A0_6 l0_6.length c0_6], .int .i64 1048576] rfl (by (try simp only [List.map_toArray, List.map_cons, List.map_nil]); first | done | rfl | (simp only [List.length_drop, List.length_take]; rfl)) ?_; (with_reducible refine (laws_szDesk.calls k a0_0 a0_1 _ _ l0_2 a0_3 a0_4 _ _ l0_5 _ _ l0_6 1048576 t225 _ ?side1 ?side2 ?side3 ?side4 ?side5 ?side6 A2.out).mono ?_); (case side1 => repeat (first | exact HR0_2.out | exact (y9j HR0_2.out HB.out) | (with_reducible refine y2j ?_ _) | (with_reducible refine y3j ?_ _) | (with_reducible refine y4j ?_))); (case side2 => exact HC0_2.out); (case side3 => repeat (first | exact HR0_5.out | exact (y9j HR0_5.out HB.out) | (with_reducible refine y2j ?_ _) | (with_reducible refine y3j ?_ _) | (with_reducible refine y4j ?_))); (case side4 => exact HC0_5.out); (case side5 => repeat (first | exact HR0_6.out | exact (y9j HR0_6.out HB.out) | (with_reducible refine y2j ?_ _) | (with_reducible refine y3j ?_ _) | (with_reducible refine y4j ?_))); (case side6 => exact HC0_6.out); rintro e w17 ⟨rfl, hb⟩; refine ⟨_, rfl, ?_⟩; have n0_ := z0j (y5j (g := gb224) (o := .cells #[.int .i64 a0_0, .int .i64 a0_1, .slice A0_2 l0_2.length c0_2, .int .i64 a0_3, .int .i64 a0_4, .slice A0_5 l0_5.length c0_5, .slice A0_6 l0_6.length c0_6] 64 (0, 0)) (by (with_reducible repeat (first | refine z1j ?_ _ | refine z3j ?_ | refine z2j ?_ _)); exact BK224.out) hb); have n1_ := z0j (y6j (by repeat (first | (with_reducible first | exact HB.out | apply z4j | apply z5j | apply z6j | refine z7j ?_ GE224.out) | exact HB.out)) hb); clear BK224; clear HB; have BK224 := n0_; have HB := n1_; clear n0_ n1_; (try clear hb); have hcz18_0 : w17.cell? ⟨gb224, 0, none⟩ = some (.int .i64 a0_0) := (x3j BK224.out 0).trans rfl; have hcz18_1 : w17.cell? ⟨gb224, 1, none⟩ = some (.int .i64 a0_1) := (x3j BK224.out 1).trans rfl; have hcz18_2 : w17.cell? ⟨gb224, 2, none⟩ = some (.slice A0_2 l0_2.length c0_2) := (x3j BK224.out 2).trans rfl; have hcz18_3 : w17.cell? ⟨gb224, 3, none⟩ = some (.int .i64 a0_3) := (x3j BK224.out 3).trans rfl; have hcz18_4 : w17.cell? ⟨gb224, 4, none⟩ = some (.int .i64 a0_4) := (x3j BK224.out 4).trans rfl; have hcz18_5 : w17.cell? ⟨gb224, 5, none⟩ = some (.slice A0_5 l0_5.length c0_5) := (x3j BK224.out 5).trans rfl; have hcz18_6 : w17.cell? ⟨gb224, 6, none⟩ = some (.slice A0_6 l0_6.length c0_6) := (x3j BK224.out 6).trans rfl; have hfz18_0 := x2j BK224.out 0; have hfz18_1 := x2j BK224.out 1; have hfz18_2 := x2j BK224.out 2; have hfz18_3 := x2j BK224.out 3; have hfz18_4 := x2j BK224.out 4; have hfz18_5 := x2j BK224.out 5; have hfz18_6 := x2j BK224.out 6) | ((with_reducible refine gate_callee (f := 52) rfl ?_); refine goesL_ (some 13) rfl rfl Try.func52 (by kernel_rfl) rfl #[.agg #[.int .i64 a0_0, .int .i64 a0_1, .slice A0_2 l0_2.length c0_2, .int .i64 a0_3, .int .i64 a0_4, .slice A0_5 l0_5.length c0_5, .slice A0_6 l0_6.length c0_6]] rfl (by (try simp only [List.map_toArray, List.map_cons, List.map_nil]); first | done | rfl | (simp only [List.length_drop, List.length_take]; rfl)) ?_; (with_reducible refine (laws_toDesk.calls k a0_0 a0_1 _ _ l0_2 a0_3 a0_4 _ _ l0_5 _ _ l0_6 t226 t227 t228 t231 t232 t233 t236 _ ?side1 ?side2 ?side3 ?side4 ?side5 ?side6 A7.out).mono ?_); (case side1 => repeat (first | exact HR0_2.out | exact (y9j HR0_2.out HB.out) | (with_reducible refine y2j ?_ _) | (with_reducible refine y3j ?_ _) | (with_reducible refine y4j ?_))); (case side2 => exact HC0_2.out); (case side3 => repeat (first | exact HR0_5.out | exact (y9j HR0_5.out HB.out) | (with_reducible refine y2j ?_ _) | (with_reducible refine y3j ?_ _) | (with_reducible refine y4j ?_))); (case side4 => exact HC0_5.out); (case side5 => repeat (first | exact HR0_6.out | exact (y9j HR0_6.out HB.out) | (with_reducible refine y2j ?_ _) | (with_reducible refine y3j ?_ _) | (with_reducible refine y4j ?_))); (case side6 => exact HC0_6.out); rintro e w19 ⟨v229, v234, v237, rfl, ho0, ho1, ho2, hb⟩; refine ⟨_, rfl, ?_⟩; have n0_ := z0j (Kd.R_lower ho0 (y7j (by repeat (first | (with_reducible first | exact HB.out | apply z4j | apply z5j | apply z6j | refine z7j ?_ GE224.out) | exact HB.out)))); have n1_ := z0j (Kd.R_lower ho1 (y7j (by repeat (first | (with_reducible first | exact HB.out | apply z4j | apply z5j | apply z6j | refine z7j ?_ GE224.out) | exact HB.out)))); have n2_ := z0j (Kd.S_lower ho2 (y7j (by repeat (first | (with_reducible first | exact HB.out | apply z4j | apply z5j | apply z6j | refine z7j ?_ GE224.out) | exact HB.out)))); have n3_ := z0j (y5j (g := gb224) (o := .cells #[.int .i64 a0_0, .int .i64 a0_1, .slice A0_2 l0_2.length c0_2, .int .i64 a0_3, .int .i64 a0_4, .slice A0_5 l0_5.length c0_5, .slice A0_6 l0_6.length c0_6] 64 (0, 0)) (by (with_reducible repeat (first | refine z1j ?_ _ | refine z3j ?_ | refine z2j ?_ _)); exact BK224.out) hb); have n4_ := z0j (y6j (by repeat (first | (with_reducible first | exact HB.out | apply z4j | apply z5j | apply z6j | refine z7j ?_ GE224.out) | exact HB.out)) hb); clear BK224; clear HB; have HO230 := n0_; have HO235 := n1_; have HO238 := n2_; have BK224 := n3_; have HB := n4_; clear n0_ n1_ n2_ n3_ n4_; (try clear hb); (try clear ho0); (try clear ho1); (try clear ho2); obtain ⟨Ao20, co20, eo20⟩ := Kd.R_slice HO230.out; subst eo20; obtain ⟨Ao21, co21, eo21⟩ := Kd.R_slice HO235.out; subst eo21; obtain ⟨Ao22, co22, eo22⟩ := Kd.S_slice HO238.out; subst eo22) | ((with_reducible refine gate_callee (f := 51) rfl ?_); refine goesL_ (some 14) rfl rfl Try.func51 (by kernel_rfl) rfl #[.agg #[.int .i64 t226, .int .i64 t227, .slice Ao20 t228.length co20, .int .i64 t231, .int .i64 t232, .slice Ao21 t233.length co21, .slice Ao22 t236.length co22]] rfl (by (try simp only [List.map_toArray, List.map_cons, List.map_nil]); first | done | rfl | (simp only [List.length_drop, List.length_take]; rfl)) ?_; (with_reducible refine (spec_DeskOk.calls k t226 t227 _ _ t228 t231 t232 _ _ t233 _ _ t236 t239 _ ?side1 ?side2 ?side3 ?side4 ?side5 ?side6 A8.out).mono ?_); (case side1 => repeat (first | exact (x5j HO230.out).2.2 | (with_reducible refine y2j ?_ _) | (with_reducible refine y3j ?_ _) | (with_reducible refine y4j ?_))); (case side2 => exact (x5j HO230.out).2.1); (case side3 => repeat (first | exact (x5j HO235.out).2.2 | (with_reducible refine y2j ?_ _) | (with_reducible refine y3j ?_ _) | (with_reducible refine y4j ?_))); (case side4 => exact (x5j HO235.out).2.1); (case side5 => repeat (first | exact (Kd.S_reads' HO238.out).2.2 | (with_reducible refine y2j ?_ _) | (with_reducible refine y3j ?_ _) | (with_reducible refine y4j ?_))); (case side6 => exact (Kd.S_reads' HO238.out).2.1); rintro e w23 ⟨rfl, hb⟩; refine ⟨_, rfl, ?_⟩; have n0_ := z0j (x4j (by (with_reducible repeat (first | apply z8j | apply z9j | apply y1j)); exact HO230.out) hb); have n1_ := z0j (x4j (by (with_reducible repeat (first | apply z8j | apply z9j | apply y1j)); exact HO235.out) hb); have n2_ := z0j (Kd.S_below (by (with_reducible repeat (first | apply Kd.S_alloc | apply Kd.S_drewN | apply Kd.S_drew)); exact HO238.out) hb); have n3_ := z0j (y5j (g := gb224) (o := .cells #[.int .i64 a0_0, .int .i64 a0_1, .slice A0_2 l0_2.length c0_2, .int .i64 a0_3, .int .i64 a0_4, .slice A0_5 l0_5.length c0_5, .slice A0_6 l0_6.length c0_6] 64 (0, 0)) (by (with_reducible repeat (first | refine z1j ?_ _ | refine z3j ?_ | refine z2j ?_ _)); exact BK224.out) hb); have n4_ := z0j (y6j (by repeat (first | (with_reducible first | exact HB.out | apply z4j | apply z5j | apply z6j | refine z7j ?_ GE224.out) | exact HB.out)) hb); clear HO230; clear HO235; clear HO238; clear BK224; clear HB; have HO230 := n0_; have HO235 := n1_; have HO238 := n2_; have BK224 := n3_; have HB := n4_; clear n0_ n1_ n2_ n3_ n4_; (try clear hb); have hcz24_0 : w23.cell? ⟨gb224, 0, none⟩ = some (.int .i64 a0_0) := (x3j BK224.out 0).trans rfl; have hcz24_1 : w23.cell? ⟨gb224, 1, none⟩ = some (.int .i64 a0_1) := (x3j BK224.out 1).trans rfl; have hcz24_2 : w23.cell? ⟨gb224, 2, none⟩ = some (.slice A0_2 l0_2.length c0_2) := (x3j BK224.out 2).trans rfl; have hcz24_3 : w23.cell? ⟨gb224, 3, none⟩ = some (.int .i64 a0_3) := (x3j BK224.out 3).trans rfl; have hcz24_4 : w23.cell? ⟨gb224, 4, none⟩ = some (.int .i64 a0_4) := (x3j BK224.out 4).trans rfl; have hcz24_5 : w23.cell? ⟨gb224, 5, none⟩ = some (.slice A0_5 l0_5.length c0_5) := (x3j BK224.out 5).trans rfl; have hcz24_6 : w23.cell? ⟨gb224, 6, none⟩ = some (.slice A0_6 l0_6.length c0_6) := (x3j BK224.out 6).trans rfl; have hfz24_0 := x2j BK224.out 0; have hfz24_1 := x2j BK224.out 1; have hfz24_2 := x2j BK224.out 2; have hfz24_3 := x2j BK224.out 3; have hfz24_4 := x2j BK224.out 4; have hfz24_5 := x2j BK224.out 5; have hfz24_6 := x2j BK224.out 6) | ((with_reducible refine gate_callee (f := 52) rfl ?_); refine goesL_ (some 16) rfl rfl Try.func52 (by kernel_rfl) rfl #[.agg #[.int .i64 a0_0, .int .i64 a0_1, .slice A0_2 l0_2.length c0_2, .int .i64 a0_3, .int .i64 a0_4, .slice A0_5 l0_5.length c0_5, .slice A0_6 l0_6.length c0_6]] rfl (by (try simp only [List.map_toArray, List.map_cons, List.map_nil]); first | done | rfl | (simp only [List.length_drop, List.length_take]; rfl)) ?_; (with_reducible refine (laws_toDesk.calls k a0_0 a0_1 _ _ l0_2 a0_3 a0_4 _ _ l0_5 _ _ l0_6 t240 t241 t242 t245 t246 t247 t250 _ ?side1 ?side2 ?side3 ?side4 ?side5 ?side6 A9.out).mono ?_); (case side1 => repeat (first | exact HR0_2.out | exact (y9j HR0_2.out HB.out) | (with_reducible refine y2j ?_ _) | (with_reducible refine y3j ?_ _) | (with_reducible refine y4j ?_))); (case side2 => exact HC0_2.out); (case side3 => repeat (first | exact HR0_5.out | exact (y9j HR0_5.out HB.out) | (with_reducible refine y2j ?_ _) | (with_reducible refine y3j ?_ _) | (with_reducible refine y4j ?_))); (case side4 => exact HC0_5.out); (case side5 => repeat (first | exact HR0_6.out | exact (y9j HR0_6.out HB.out) | (with_reducible refine y2j ?_ _) | (with_reducible refine y3j ?_ _) | (with_reducible refine y4j ?_))); (case side6 => exact HC0_6.out); rintro e w25 ⟨v243, v248, v251, rfl, ho0, ho1, ho2, hb⟩; refine ⟨_, rfl, ?_⟩; have n0_ := z0j (x6j (Kd.R_told (Kd.R_told (Kd.R_old (by (with_reducible repeat (first | apply z8j | apply z9j | apply y1j)); exact HO230.out) hb) (w2_j ho0)) (w2_j ho1)) (fun _ h_ => h_.1)); have n1_ := z0j (x6j (Kd.R_told (Kd.R_told (Kd.R_old (by (with_reducible repeat (first | apply z8j | apply z9j | apply y1j)); exact HO235.out) hb) (w2_j ho0)) (w2_j ho1)) (fun _ h_ => h_.1)); have n2_ := z0j (Kd.S_mono (Kd.S_told (Kd.S_told (Kd.S_told (Kd.S_old (by (with_reducible repeat (first | apply Kd.S_alloc | apply Kd.S_drewN | apply Kd.S_drew)); exact HO238.out) hb) (w2_j ho0)) (w2_j ho1)) (Kd.S_base ho2)) (fun _ h_ => h_.1)); have n3_ := z0j (Kd.R_lower (Kd.R_new' (Kd.R_new' ho0 (Kd.R_lt (by (with_reducible repeat (first | apply z8j | apply z9j | apply y1j)); exact HO230.out))) (Kd.R_lt (by (with_reducible repeat (first | apply z8j | apply z9j | apply y1j)); exact HO235.out))) (y7j (by repeat (first | (with_reducible first | exact HB.out | apply z4j | apply z5j | apply z6j | refine z7j ?_ GE224.out) | exact HB.out)))); have n4_ := z0j (Kd.R_lower (Kd.R_new' (Kd.R_new' ho1 (Kd.R_lt (by (with_reducible repeat (first | apply z8j | apply z9j | apply y1j)); exact HO230.out))) (Kd.R_lt (by (with_reducible repeat (first | apply z8j | apply z9j | apply y1j)); exact HO235.out))) (y7j (by repeat (first | (with_reducible first | exact HB.out | apply z4j | apply z5j | apply z6j | refine z7j ?_ GE224.out) | exact HB.out)))); have n5_ := z0j (Kd.S_lower (Kd.S_new' (Kd.S_new' (Kd.S_new' ho2 (Kd.R_lt (by (with_reducible repeat (first | apply z8j | apply z9j | apply y1j)); exact HO230.out))) (Kd.R_lt (by (with_reducible repeat (first | apply z8j | apply z9j | apply y1j)); exact HO235.out))) (Kd.S_lt (by (with_reducible repeat (first | apply Kd.S_alloc | apply Kd.S_drewN | apply Kd.S_drew)); exact HO238.out))) (y7j (by repeat (first | (with_reducible first | exact HB.out | apply z4j | apply z5j | apply z6j | refine z7j ?_ GE224.out) | exact HB.out)))); have n6_ := z0j (y5j (g := gb224) (o := .cells #[.int .i64 a0_0, .int .i64 a0_1, .slice A0_2 l0_2.length c0_2, .int .i64 a0_3, .int .i64 a0_4, .slice A0_5 l0_5.length c0_5, .slice A0_6 l0_6.length c0_6] 64 (0, 0)) (by (with_reducible repeat (first | refine z1j ?_ _ | refine z3j ?_ | refine z2j ?_ _)); exact BK224.out) hb); have n7_ := z0j (y6j (by repeat (first | (with_reducible first | exact HB.out | apply z4j | apply z5j | apply z6j | refine z7j ?_ GE224.out) | exact HB.out)) hb); clear HO230; clear HO235; clear HO238; clear BK224; clear HB; have HO230 := n0_; have HO235 := n1_; have HO238 := n2_; have HO244 := n3_; have HO249 := n4_; have HO252 := n5_; have BK224 := n6_; have HB := n7_; clear n0_ n1_ n2_ n3_ n4_ n5_ n6_ n7_; (try clear hb); (try clear ho0); (try clear ho1); (try clear ho2)) | ((with_reducible refine gate_dst (N := 5) rfl ?_); refine box_event ?hg (N := 5) ?hd (cs := #[.int .i64 0, .int .i64 0, .slice none 0 0, .int .i64 0, .int .i64 0, .slice none 0 0, .slice none 0 0]) (t := 68) ?hr ?_; (case hd => rfl); (case hg => rfl); (case hr => first | (go_simp; done) | (go_simp; rfl)); intro gb253 hg w26 hbox hb; have n0_ := z0j (x4j (by (with_reducible repeat (first | apply z8j | apply z9j | apply y1j)); exact HO230.out) hb); have n1_ := z0j (x4j (by (with_reducible repeat (first | apply z8j | apply z9j | apply y1j)); exact HO235.out) hb); have n2_ := z0j (Kd.S_below (by (with_reducible repeat (first | apply Kd.S_alloc | apply Kd.S_drewN | apply Kd.S_drew)); exact HO238.out) hb); have n3_ := z0j (x4j (by (with_reducible repeat (first | apply z8j | apply z9j | apply y1j)); exact HO244.out) hb); have n4_ := z0j (x4j (by (with_reducible repeat (first | apply z8j | apply z9j | apply y1j)); exact HO249.out) hb); have n5_ := z0j (Kd.S_below (by (with_reducible repeat (first | apply Kd.S_alloc | apply Kd.S_drewN | apply Kd.S_drew)); exact HO252.out) hb); have n6_ := z0j (y5j (g := gb224) (o := .cells #[.int .i64 a0_0, .int .i64 a0_1, .slice A0_2 l0_2.length c0_2, .int .i64 a0_3, .int .i64 a0_4, .slice A0_5 l0_5.length c0_5, .slice A0_6 l0_6.length c0_6] 64 (0, 0)) (by (with_reducible repeat (first | refine z1j ?_ _ | refine z3j ?_ | refine z2j ?_ _)); exact BK224.out) hb); have n7_ := z0j (y6j (by repeat (first | (with_reducible first | exact HB.out | apply z4j | apply z5j | apply z6j | refine z7j ?_ GE224.out) | exact HB.out)) hb); have n8_ := z0j (hbox); have n9_ := z0j ((by rw [hg]; exact (y7j (by repeat (first | (with_reducible first | exact HB.out | apply z4j | apply z5j | apply z6j | refine z7j ?_ GE224.out) | exact HB.out))) : w.heap.size ≤ gb253)); have n10_ := z0j ((by rw [hg]; exact (y7j (by repeat (first | (with_reducible first | exact HB.out | apply z4j | apply z5j | apply z6j | refine z7j ?_ GE224.out) | exact HB.out))) : w.heap.size ≤ gb253)); have n11_ := z0j ((by rw [hg]; exact Nat.ne_of_lt (blk_lt (g := gb224) (o := .cells #[.int .i64 a0_0, .int .i64 a0_1, .slice A0_2 l0_2.length c0_2, .int .i64 a0_3, .int .i64 a0_4, .slice A0_5 l0_5.length c0_5, .slice A0_6 l0_6.length c0_6] 64 (0, 0)) (by (with_reducible repeat (first | refine z1j ?_ _ | refine z3j ?_ | refine z2j ?_ _)); exact BK224.out)) : gb224 ≠ gb253)); have n12_ := z0j ((by rw [hg]; exact Nat.ne_of_gt (blk_lt (g := gb224) (o := .cells #[.int .i64 a0_0, .int .i64 a0_1, .slice A0_2 l0_2.length c0_2, .int .i64 a0_3, .int .i64 a0_4, .slice A0_5 l0_5.length c0_5, .slice A0_6 l0_6.length c0_6] 64 (0, 0)) (by (with_reducible repeat (first | refine z1j ?_ _ | refine z3j ?_ | refine z2j ?_ _)); exact BK224.out)) : gb253 ≠ gb224)); clear HO230; clear HO235; clear HO238; clear HO244; clear HO249; clear HO252; clear BK224; clear HB; have HO230 := n0_; have HO235 := n1_; have HO238 := n2_; have HO244 := n3_; have HO249 := n4_; have HO252 := n5_; have BK224 := n6_; have HB := n7_; have BK253 := n8_; have GW253 := n9_; have GE253 := n10_; have NB224_253 := n11_; have NB253_224 := n12_; clear n0_ n1_ n2_ n3_ n4_ n5_ n6_ n7_ n8_ n9_ n10_ n11_ n12_; clear hb hbox hg; have hnb27 := NB253_224.out; have hnc27 := NB224_253.out; have hcz28_0 : w26.cell? ⟨gb253, 0, none⟩ = some (.int .i64 0) := (x3j BK253.out 0).trans rfl; have hcz28_1 : w26.cell? ⟨gb253, 1, none⟩ = some (.int .i64 0) := (x3j BK253.out 1).trans rfl; have hcz28_2 : w26.cell? ⟨gb253, 2, none⟩ = some (.slice none 0 0) := (x3j BK253.out 2).trans rfl; have hcz28_3 : w26.cell? ⟨gb253, 3, none⟩ = some (.int .i64 0) := (x3j BK253.out 3).trans rfl; have hcz28_4 : w26.cell? ⟨gb253, 4, none⟩ = some (.int .i64 0) := (x3j BK253.out 4).trans rfl; have hcz28_5 : w26.cell? ⟨gb253, 5, none⟩ = some (.slice none 0 0) := (x3j BK253.out 5).trans rfl; have hcz28_6 : w26.cell? ⟨gb253, 6, none⟩ = some (.slice none 0 0) := (x3j BK253.out 6).trans rfl; have hfz28_0 := x2j BK253.out 0; have hfz28_1 := x2j BK253.out 1; have hfz28_2 := x2j BK253.out 2; have hfz28_3 := x2j BK253.out 3; have hfz28_4 := x2j BK253.out 4; have hfz28_5 := x2j BK253.out 5; have hfz28_6 := x2j BK253.out 6; obtain ⟨Ao29, co29, eo29⟩ := Kd.R_slice HO244.out; subst eo29; obtain ⟨Ao30, co30, eo30⟩ := Kd.R_slice HO249.out; subst eo30; obtain ⟨Ao31, co31, eo31⟩ := Kd.S_slice HO252.out; subst eo31) | ((with_reducible refine gate_callee (f := 53) rfl ?_); refine goesL_ (some 18) rfl rfl Try.func53 (by kernel_rfl) rfl #[.agg #[.int .i64 t240, .int .i64 t241, .slice Ao29 t242.length co29, .int .i64 t245, .int .i64 t246, .slice Ao30 t247.length co30, .slice Ao31 t250.length co31]] rfl (by (try simp only [List.map_toArray, List.map_cons, List.map_nil]); first | done | rfl | (simp only [List.length_drop, List.length_take]; rfl)) ?_; (with_reducible refine (impl_DeskOk.calls k t240 t241 _ _ t242 t245 t246 _ _ t247 _ _ t250 t254 _ ?side1 ?side2 ?side3 ?side4 ?side5 ?side6 A10.out).mono ?_); (case side1 => refine (x5j (e := 3) (base := w.heap.size) (ok := fun k_ => ((some k_ ≠ (.slice Ao30 t247.length co30 : Value).ownBlock ∧ some k_ ≠ (.slice Ao20 t228.length co20 : Value).ownBlock) ∧ some k_ ≠ (.slice Ao21 t233.length co21 : Value).ownBlock)) (n := t242.length) (c := co29) ?_).2.2; exact (by (with_reducible repeat (first | apply z8j | apply z9j | apply y1j)); exact (x6j (x1j (p := ⟨gb253, 6, none⟩) (x1j (p := ⟨gb253, 5, none⟩) (x1j (p := ⟨gb253, 4, none⟩) (x1j (p := ⟨gb253, 3, none⟩) (x1j (p := ⟨gb253, 2, none⟩) (x1j (p := ⟨gb253, 1, none⟩) (x1j (p := ⟨gb253, 0, none⟩) (Kd.R_types HO244.out BK253.out (by decide)) (fun _ hk => hk.2) (.int .i64 t240)) (fun _ hk => hk.2) (.int .i64 t241)) (fun _ hk => hk.2) (.slice Ao29 t242.length co29)) (fun _ hk => hk.2) (.int .i64 t245)) (fun _ hk => hk.2) (.int .i64 t246)) (fun _ hk => hk.2) (.slice Ao30 t247.length co30)) (fun _ hk => hk.2) (.slice Ao31 t250.length co31)) (fun _ h_ => h_.1)))); (case side2 => exact (x5j HO244.out).2.1); (case side3 => refine (x5j (e := 3) (base := w.heap.size) (ok := fun k_ => ((some k_ ≠ (.slice Ao29 t242.length co29 : Value).ownBlock ∧ some k_ ≠ (.slice Ao20 t228.length co20 : Value).ownBlock) ∧ some k_ ≠ (.slice Ao21 t233.length co21 : Value).ownBlock)) (n := t247.length) (c := co30) ?_).2.2; exact (by (with_reducible repeat (first | apply z8j | apply z9j | apply y1j)); exact (x6j (x1j (p := ⟨gb253, 6, none⟩) (x1j (p := ⟨gb253, 5, none⟩) (x1j (p := ⟨gb253, 4, none⟩) (x1j (p := ⟨gb253, 3, none⟩) (x1j (p := ⟨gb253, 2, none⟩) (x1j (p := ⟨gb253, 1, none⟩) (x1j (p := ⟨gb253, 0, none⟩) (Kd.R_types HO249.out BK253.out (by decide)) (fun _ hk => hk.2) (.int .i64 t240)) (fun _ hk => hk.2) (.int .i64 t241)) (fun _ hk => hk.2) (.slice Ao29 t242.length co29)) (fun _ hk => hk.2) (.int .i64 t245)) (fun _ hk => hk.2) (.int .i64 t246)) (fun _ hk => hk.2) (.slice Ao30 t247.length co30)) (fun _ hk => hk.2) (.slice Ao31 t250.length co31)) (fun _ h_ => h_.1)))); (case side4 => exact (x5j HO249.out).2.1); (case side5 => refine (Kd.S_reads' (e := 25) (base := w.heap.size) (ok := fun k_ => ((((some k_ ≠ (.slice Ao29 t242.length co29 : Value).ownBlock ∧ some k_ ≠ (.slice Ao30 t247.length co30 : Value).ownBlock) ∧ some k_ ≠ (.slice Ao20 t228.length co20 : Value).ownBlock) ∧ some k_ ≠ (.slice Ao21 t233.length co21 : Value).ownBlock) ∧ some k_ ≠ (.slice Ao22 t236.length co22 : Value).ownBlock)) (n := t250.length) (c := co31) ?_).2.2; exact (by (with_reducible repeat (first | apply Kd.S_alloc | apply Kd.S_drewN | apply Kd.S_drew)); exact (Kd.S_mono (Kd.S_far (p := ⟨gb253, 6, none⟩) (Kd.S_far (p := ⟨gb253, 5, none⟩) (Kd.S_far (p := ⟨gb253, 4, none⟩) (Kd.S_far (p := ⟨gb253, 3, none⟩) (Kd.S_far (p := ⟨gb253, 2, none⟩) (Kd.S_far (p := ⟨gb253, 1, none⟩) (Kd.S_far (p := ⟨gb253, 0, none⟩) (Kd.S_types HO252.out BK253.out (by decide)) (fun _ hk => hk.2) (.int .i64 t240)) (fun _ hk => hk.2) (.int .i64 t241)) (fun _ hk => hk.2) (.slice Ao29 t242.length co29)) (fun _ hk => hk.2) (.int .i64 t245)) (fun _ hk => hk.2) (.int .i64 t246)) (fun _ hk => hk.2) (.slice Ao30 t247.length co30)) (fun _ hk => hk.2) (.slice Ao31 t250.length co31)) (fun _ h_ => h_.1)))); (case side6 => exact (Kd.S_reads' HO252.out).2.1); rintro e w32 ⟨rfl, hb⟩; refine ⟨_, rfl, ?_⟩; have n0_ := z0j (x4j (by (with_reducible repeat (first | apply z8j | apply z9j | apply y1j)); exact (x6j (x1j (p := ⟨gb253, 6, none⟩) (x1j (p := ⟨gb253, 5, none⟩) (x1j (p := ⟨gb253, 4, none⟩) (x1j (p := ⟨gb253, 3, none⟩) (x1j (p := ⟨gb253, 2, none⟩) (x1j (p := ⟨gb253, 1, none⟩) (x1j (p := ⟨gb253, 0, none⟩) (Kd.R_types HO230.out BK253.out (by decide)) (fun _ hk => hk.2) (.int .i64 t240)) (fun _ hk => hk.2) (.int .i64 t241)) (fun _ hk => hk.2) (.slice Ao29 t242.length co29)) (fun _ hk => hk.2) (.int .i64 t245)) (fun _ hk => hk.2) (.int .i64 t246)) (fun _ hk => hk.2) (.slice Ao30 t247.length co30)) (fun _ hk => hk.2) (.slice Ao31 t250.length co31)) (fun _ h_ => h_.1))) hb); have n1_ := z0j (x4j (by (with_reducible repeat (first | apply z8j | apply z9j | apply y1j)); exact (x6j (x1j (p := ⟨gb253, 6, none⟩) (x1j (p := ⟨gb253, 5, none⟩) (x1j (p := ⟨gb253, 4, none⟩) (x1j (p := ⟨gb253, 3, none⟩) (x1j (p := ⟨gb253, 2, none⟩) (x1j (p := ⟨gb253, 1, none⟩) (x1j (p := ⟨gb253, 0, none⟩) (Kd.R_types HO235.out BK253.out (by decide)) (fun _ hk => hk.2) (.int .i64 t240)) (fun _ hk => hk.2) (.int .i64 t241)) (fun _ hk => hk.2) (.slice Ao29 t242.length co29)) (fun _ hk => hk.2) (.int .i64 t245)) (fun _ hk => hk.2) (.int .i64 t246)) (fun _ hk => hk.2) (.slice Ao30 t247.length co30)) (fun _ hk => hk.2) (.slice Ao31 t250.length co31)) (fun _ h_ => h_.1))) hb); have n2_ := z0j (Kd.S_below (by (with_reducible repeat (first | apply Kd.S_alloc | apply Kd.S_drewN | apply Kd.S_drew)); exact (Kd.S_mono (Kd.S_far (p := ⟨gb253, 6, none⟩) (Kd.S_far (p := ⟨gb253, 5, none⟩) (Kd.S_far (p := ⟨gb253, 4, none⟩) (Kd.S_far (p := ⟨gb253, 3, none⟩) (Kd.S_far (p := ⟨gb253, 2, none⟩) (Kd.S_far (p := ⟨gb253, 1, none⟩) (Kd.S_far (p := ⟨gb253, 0, none⟩) (Kd.S_types HO238.out BK253.out (by decide)) (fun _ hk => hk.2) (.int .i64 t240)) (fun _ hk => hk.2) (.int .i64 t241)) (fun _ hk => hk.2) (.slice Ao29 t242.length co29)) (fun _ hk => hk.2) (.int .i64 t245)) (fun _ hk => hk.2) (.int .i64 t246)) (fun _ hk => hk.2) (.slice Ao30 t247.length co30)) (fun _ hk => hk.2) (.slice Ao31 t250.length co31)) (fun _ h_ => h_.1))) hb); have n3_ := z0j (x4j (by (with_reducible repeat (first | apply z8j | apply z9j | apply y1j)); exact (x6j (x1j (p := ⟨gb253, 6, none⟩) (x1j (p := ⟨gb253, 5, none⟩) (x1j (p := ⟨gb253, 4, none⟩) (x1j (p := ⟨gb253, 3, none⟩) (x1j (p := ⟨gb253, 2, none⟩) (x1j (p := ⟨gb253, 1, none⟩) (x1j (p := ⟨gb253, 0, none⟩) (Kd.R_types HO244.out BK253.out (by decide)) (fun _ hk => hk.2) (.int .i64 t240)) (fun _ hk => hk.2) (.int .i64 t241)) (fun _ hk => hk.2) (.slice Ao29 t242.length co29)) (fun _ hk => hk.2) (.int .i64 t245)) (fun _ hk => hk.2) (.int .i64 t246)) (fun _ hk => hk.2) (.slice Ao30 t247.length co30)) (fun _ hk => hk.2) (.slice Ao31 t250.length co31)) (fun _ h_ => h_.1))) hb); have n4_ := z0j (x4j (by (with_reducible repeat (first | apply z8j | apply z9j | apply y1j)); exact (x6j (x1j (p := ⟨gb253, 6, none⟩) (x1j (p := ⟨gb253, 5, none⟩) (x1j (p := ⟨gb253, 4, none⟩) (x1j (p := ⟨gb253, 3, none⟩) (x1j (p := ⟨gb253, 2, none⟩) (x1j (p := ⟨gb253, 1, none⟩) (x1j (p := ⟨gb253, 0, none⟩) (Kd.R_types HO249.out BK253.out (by decide)) (fun _ hk => hk.2) (.int .i64 t240)) (fun _ hk => hk.2) (.int .i64 t241)) (fun _ hk => hk.2) (.slice Ao29 t242.length co29)) (fun _ hk => hk.2) (.int .i64 t245)) (fun _ hk => hk.2) (.int .i64 t246)) (fun _ hk => hk.2) (.slice Ao30 t247.length co30)) (fun _ hk => hk.2) (.slice Ao31 t250.length co31)) (fun _ h_ => h_.1))) hb); have n5_ := z0j (Kd.S_below (by (with_reducible repeat (first | apply Kd.S_alloc | apply Kd.S_drewN | apply Kd.S_drew)); exact (Kd.S_mono (Kd.S_far (p := ⟨gb253, 6, none⟩) (Kd.S_far (p := ⟨gb253, 5, none⟩) (Kd.S_far (p := ⟨gb253, 4, none⟩) (Kd.S_far (p := ⟨gb253, 3, none⟩) (Kd.S_far (p := ⟨gb253, 2, none⟩) (Kd.S_far (p := ⟨gb253, 1, none⟩) (Kd.S_far (p := ⟨gb253, 0, none⟩) (Kd.S_types HO252.out BK253.out (by decide)) (fun _ hk => hk.2) (.int .i64 t240)) (fun _ hk => hk.2) (.int .i64 t241)) (fun _ hk => hk.2) (.slice Ao29 t242.length co29)) (fun _ hk => hk.2) (.int .i64 t245)) (fun _ hk => hk.2) (.int .i64 t246)) (fun _ hk => hk.2) (.slice Ao30 t247.length co30)) (fun _ hk => hk.2) (.slice Ao31 t250.length co31)) (fun _ h_ => h_.1))) hb); have n6_ := z0j (y5j (g := gb224) (o := .cells #[.int .i64 a0_0, .int .i64 a0_1, .slice A0_2 l0_2.length c0_2, .int .i64 a0_3, .int .i64 a0_4, .slice A0_5 l0_5.length c0_5, .slice A0_6 l0_6.length c0_6] 64 (0, 0)) (by (with_reducible repeat (first | refine z1j ?_ _ | refine z3j ?_ | refine z2j ?_ _)); refine blk_far ?_ NB224_253.out _; (with_reducible repeat (first | refine z1j ?_ _ | refine z3j ?_ | refine z2j ?_ _)); refine blk_far ?_ NB224_253.out _; (with_reducible repeat (first | refine z1j ?_ _ | refine z3j ?_ | refine z2j ?_ _)); refine blk_far ?_ NB224_253.out _; (with_reducible repeat (first | refine z1j ?_ _ | refine z3j ?_ | refine z2j ?_ _)); refine blk_far ?_ NB224_253.out _; (with_reducible repeat (first | refine z1j ?_ _ | refine z3j ?_ | refine z2j ?_ _)); refine blk_far ?_ NB224_253.out _; (with_reducible repeat (first | refine z1j ?_ _ | refine z3j ?_ | refine z2j ?_ _)); refine blk_far ?_ NB224_253.out _; (with_reducible repeat (first | refine z1j ?_ _ | refine z3j ?_ | refine z2j ?_ _)); refine blk_far ?_ NB224_253.out _; (with_reducible repeat (first | refine z1j ?_ _ | refine z3j ?_ | refine z2j ?_ _)); exact BK224.out) hb); have n7_ := z0j (y5j (g := gb253) (o := .cells #[.int .i64 t240, .int .i64 t241, .slice Ao29 t242.length co29, .int .i64 t245, .int .i64 t246, .slice Ao30 t247.length co30, .slice Ao31 t250.length co31] 68 (0, 0)) (by (with_reducible repeat (first | refine z1j ?_ _ | refine z3j ?_ | refine z2j ?_ _)); refine blk_put (cs := #[.int .i64 t240, .int .i64 t241, .slice Ao29 t242.length co29, .int .i64 t245, .int .i64 t246, .slice Ao30 t247.length co30, .slice none 0 0]) ?_ 6 _ rfl; (with_reducible repeat (first | refine z1j ?_ _ | refine z3j ?_ | refine z2j ?_ _)); refine blk_put (cs := #[.int .i64 t240, .int .i64 t241, .slice Ao29 t242.length co29, .int .i64 t245, .int .i64 t246, .slice none 0 0, .slice none 0 0]) ?_ 5 _ rfl; (with_reducible repeat (first | refine z1j ?_ _ | refine z3j ?_ | refine z2j ?_ _)); refine blk_put (cs := #[.int .i64 t240, .int .i64 t241, .slice Ao29 t242.length co29, .int .i64 t245, .int .i64 0, .slice none 0 0, .slice none 0 0]) ?_ 4 _ rfl; (with_reducible repeat (first | refine z1j ?_ _ | refine z3j ?_ | refine z2j ?_ _)); refine blk_put (cs := #[.int .i64 t240, .int .i64 t241, .slice Ao29 t242.length co29, .int .i64 0, .int .i64 0, .slice none 0 0, .slice none 0 0]) ?_ 3 _ rfl; (with_reducible repeat (first | refine z1j ?_ _ | refine z3j ?_ | refine z2j ?_ _)); refine blk_put (cs := #[.int .i64 t240, .int .i64 t241, .slice none 0 0, .int .i64 0, .int .i64 0, .slice none 0 0, .slice none 0 0]) ?_ 2 _ rfl; (with_reducible repeat (first | refine z1j ?_ _ | refine z3j ?_ | refine z2j ?_ _)); refine blk_put (cs := #[.int .i64 t240, .int .i64 0, .slice none 0 0, .int .i64 0, .int .i64 0, .slice none 0 0, .slice none 0 0]) ?_ 1 _ rfl; (with_reducible repeat (first | refine z1j ?_ _ | refine z3j ?_ | refine z2j ?_ _)); refine blk_put (cs := #[.int .i64 0, .int .i64 0, .slice none 0 0, .int .i64 0, .int .i64 0, .slice none 0 0, .slice none 0 0]) ?_ 0 _ rfl; (with_reducible repeat (first | refine z1j ?_ _ | refine z3j ?_ | refine z2j ?_ _)); exact BK253.out) hb); have n8_ := z0j (y6j (by repeat (first | (with_reducible first | exact HB.out | apply z4j | apply z5j | apply z6j | refine z7j ?_ GE224.out | refine z7j ?_ GE253.out) | exact HB.out)) hb); clear HO230; clear HO235; clear HO238; clear HO244; clear HO249; clear HO252; clear BK224; clear BK253; clear HB; have HO230 := n0_; have HO235 := n1_; have HO238 := n2_; have HO244 := n3_; have HO249 := n4_; have HO252 := n5_; have BK224 := n6_; have BK253 := n7_; have HB := n8_; clear n0_ n1_ n2_ n3_ n4_ n5_ n6_ n7_ n8_; (try clear hb)))
    have n0_ := z0j (y1j HO230.out)
    have n1_ := z0j (y1j HO235.out)
    have n2_ := z0j (Kd.S_drew HO238.out)
    have n3_ := z0j (y1j HO244.out)
    have n4_ := z0j (y1j HO249.out)
    have n5_ := z0j (Kd.S_drew HO252.out)
    have n6_ := z0j (z3j BK224.out)
    have n7_ := z0j (z3j BK253.out)
    have n8_ := z0j (z6j HB.out)
    clear HO230
    clear HO235
    clear HO238
    clear HO244
    clear HO249
    clear HO252
    clear BK224
    clear BK253
    clear HB
    have HO230 := n0_
    have HO235 := n1_
    have HO238 := n2_
    have HO244 := n3_
    have HO249 := n4_
    have HO252 := n5_
    have BK224 := n6_
    have BK253 := n7_
    have HB := n8_
    clear n0_ n1_ n2_ n3_ n4_ n5_ n6_ n7_ n8_
    refine start_ (n := 5) (S := fun w' => w'.cell? ⟨gb253, 0, none⟩ = some (.int .i64 t240) ∧ w'.cell? ⟨gb253, 1, none⟩ = some (.int .i64 t241) ∧ w'.cell? ⟨gb253, 2, none⟩ = some (.slice Ao29 t242.length co29) ∧ w'.cell? ⟨gb253, 3, none⟩ = some (.int .i64 t245) ∧ w'.cell? ⟨gb253, 4, none⟩ = some (.int .i64 t246) ∧ w'.cell? ⟨gb253, 5, none⟩ = some (.slice Ao30 t247.length co30) ∧ w'.cell? ⟨gb253, 6, none⟩ = some (.slice Ao31 t250.length co31) ∧ w'.cell? ⟨gb224, 0, none⟩ = some (.int .i64 a0_0) ∧ w'.cell? ⟨gb224, 1, none⟩ = some (.int .i64 a0_1) ∧ w'.cell? ⟨gb224, 2, none⟩ = some (.slice A0_2 l0_2.length c0_2) ∧ w'.cell? ⟨gb224, 3, none⟩ = some (.int .i64 a0_3) ∧ w'.cell? ⟨gb224, 4, none⟩ = some (.int .i64 a0_4) ∧ w'.cell? ⟨gb224, 5, none⟩ = some (.slice A0_5 l0_5.length c0_5) ∧ w'.cell? ⟨gb224, 6, none⟩ = some (.slice A0_6 l0_6.length c0_6)) (ds := []) #[false, false, false, false, false] (by kernel_rfl) rfl rfl ⟨(x3j BK253.out 0).trans rfl, (x3j BK253.out 1).trans rfl, (x3j BK253.out 2).trans rfl, (x3j BK253.out 3).trans rfl, (x3j BK253.out 4).trans rfl, (x3j BK253.out 5).trans rfl, (x3j BK253.out 6).trans rfl, (x3j BK224.out 0).trans rfl, (x3j BK224.out 1).trans rfl, (x3j BK224.out 2).trans rfl, (x3j BK224.out 3).trans rfl, (x3j BK224.out 4).trans rfl, (x3j BK224.out 5).trans rfl, (x3j BK224.out 6).trans rfl⟩ (fun hHeld => ?_)
    generalize w32.drew = w33 at HO230 HO235 HO238 HO244 HO249 HO252 BK224 BK253 HB hHeld ⊢
    refine take_ (i := 0) (N := some 22) (v := ?_) (a' := ?_) #[true, false, false, false, false] rfl rfl (by kernel_rfl) (fun _ _ _ h => h) (Or.inl ⟨by rfl, ?_⟩) hHeld ?_ ?_
    rotate_left
    ·rintro w' ⟨s0, s1, s2, s3, s4, s5, s6, s7, s8, s9, s10, s11, s12, s13⟩
     go_simp
     with_reducible rfl
    rotate_left
    ·simp only [Act.put, s1j_, s2j_, s3j_, i64_w, i32_w]
     rfl
    refine take_ (i := 1) (N := some 23) (v := ?_) (a' := ?_) #[true, true, false, false, false] rfl rfl (by kernel_rfl) (fun _ _ _ h => h) (Or.inl ⟨by rfl, ?_⟩) hHeld ?_ ?_
    rotate_left
    ·rintro w' ⟨s0, s1, s2, s3, s4, s5, s6, s7, s8, s9, s10, s11, s12, s13⟩
     go_simp
     with_reducible rfl
    rotate_left
    ·simp only [Act.put, s1j_, s2j_, s3j_, i64_w, i32_w]
     rfl
    refine one_ (i := 2) (N := some 24) #[true, true, true, false, false] rfl rfl (by kernel_rfl) (by decide) (fun K hK => ?_)
    refine goes_ Try.func52 (by kernel_rfl) rfl #[.agg #[.int .i64 a0_0, .int .i64 a0_1, .slice A0_2 l0_2.length c0_2, .int .i64 a0_3, .int .i64 a0_4, .slice A0_5 l0_5.length c0_5, .slice A0_6 l0_6.length c0_6]] (by rfl) rfl rfl (by (try simp only [List.map_toArray, List.map_cons, List.map_nil]); first | done | rfl | (simp only [List.length_drop, List.length_take]; rfl)) ?_
    with_reducible refine (laws_toDesk.calls k a0_0 a0_1 _ _ l0_2 a0_3 a0_4 _ _ l0_5 _ _ l0_6 t255 t256 t257 t260 t261 t262 t265 _ ?side1 ?side2 ?side3 ?side4 ?side5 ?side6 A12.out).mono ?_
    (case side1 => repeat (first | exact HR0_2.out | exact (y9j HR0_2.out HB.out) | (with_reducible refine y2j ?_ _) | (with_reducible refine y3j ?_ _) | (with_reducible refine y4j ?_)))
    (case side2 => exact HC0_2.out)
    (case side3 => repeat (first | exact HR0_5.out | exact (y9j HR0_5.out HB.out) | (with_reducible refine y2j ?_ _) | (with_reducible refine y3j ?_ _) | (with_reducible refine y4j ?_)))
    (case side4 => exact HC0_5.out)
    (case side5 => repeat (first | exact HR0_6.out | exact (y9j HR0_6.out HB.out) | (with_reducible refine y2j ?_ _) | (with_reducible refine y3j ?_ _) | (with_reducible refine y4j ?_)))
    (case side6 => exact HC0_6.out)
    rintro e w34 ⟨v258, v263, v266, rfl, ho0, ho1, ho2, hb⟩
    refine ⟨_, rfl, ?_⟩
    have n0_ := z0j (x6j (Kd.R_told (Kd.R_told (Kd.R_old (by (with_reducible repeat (first | apply z8j | apply z9j | apply y1j)); exact HO230.out) hb) (w2_j ho0)) (w2_j ho1)) (fun _ h_ => h_.1))
    have n1_ := z0j (x6j (Kd.R_told (Kd.R_told (Kd.R_old (by (with_reducible repeat (first | apply z8j | apply z9j | apply y1j)); exact HO235.out) hb) (w2_j ho0)) (w2_j ho1)) (fun _ h_ => h_.1))
    have n2_ := z0j (Kd.S_mono (Kd.S_told (Kd.S_told (Kd.S_told (Kd.S_old (by (with_reducible repeat (first | apply Kd.S_alloc | apply Kd.S_drewN | apply Kd.S_drew)); exact HO238.out) hb) (w2_j ho0)) (w2_j ho1)) (Kd.S_base ho2)) (fun _ h_ => h_.1))
    have n3_ := z0j (x6j (Kd.R_told (Kd.R_told (Kd.R_old (by (with_reducible repeat (first | apply z8j | apply z9j | apply y1j)); exact HO244.out) hb) (w2_j ho0)) (w2_j ho1)) (fun _ h_ => h_.1))
    have n4_ := z0j (x6j (Kd.R_told (Kd.R_told (Kd.R_old (by (with_reducible repeat (first | apply z8j | apply z9j | apply y1j)); exact HO249.out) hb) (w2_j ho0)) (w2_j ho1)) (fun _ h_ => h_.1))
    have n5_ := z0j (Kd.S_mono (Kd.S_told (Kd.S_told (Kd.S_told (Kd.S_old (by (with_reducible repeat (first | apply Kd.S_alloc | apply Kd.S_drewN | apply Kd.S_drew)); exact HO252.out) hb) (w2_j ho0)) (w2_j ho1)) (Kd.S_base ho2)) (fun _ h_ => h_.1))
    have n6_ := z0j (Kd.R_lower (Kd.R_new' (Kd.R_new' (Kd.R_new' (Kd.R_new' ho0 (Kd.R_lt (by (with_reducible repeat (first | apply z8j | apply z9j | apply y1j)); exact HO230.out))) (Kd.R_lt (by (with_reducible repeat (first | apply z8j | apply z9j | apply y1j)); exact HO235.out))) (Kd.R_lt (by (with_reducible repeat (first | apply z8j | apply z9j | apply y1j)); exact HO244.out))) (Kd.R_lt (by (with_reducible repeat (first | apply z8j | apply z9j | apply y1j)); exact HO249.out))) (y7j (by repeat (first | (with_reducible first | exact HB.out | apply z4j | apply z5j | apply z6j | refine z7j ?_ GE224.out | refine z7j ?_ GE253.out) | exact HB.out))))
    have n7_ := z0j (Kd.R_lower (Kd.R_new' (Kd.R_new' (Kd.R_new' (Kd.R_new' ho1 (Kd.R_lt (by (with_reducible repeat (first | apply z8j | apply z9j | apply y1j)); exact HO230.out))) (Kd.R_lt (by (with_reducible repeat (first | apply z8j | apply z9j | apply y1j)); exact HO235.out))) (Kd.R_lt (by (with_reducible repeat (first | apply z8j | apply z9j | apply y1j)); exact HO244.out))) (Kd.R_lt (by (with_reducible repeat (first | apply z8j | apply z9j | apply y1j)); exact HO249.out))) (y7j (by repeat (first | (with_reducible first | exact HB.out | apply z4j | apply z5j | apply z6j | refine z7j ?_ GE224.out | refine z7j ?_ GE253.out) | exact HB.out))))
    have n8_ := z0j (Kd.S_lower (Kd.S_new' (Kd.S_new' (Kd.S_new' (Kd.S_new' (Kd.S_new' (Kd.S_new' ho2 (Kd.R_lt (by (with_reducible repeat (first | apply z8j | apply z9j | apply y1j)); exact HO230.out))) (Kd.R_lt (by (with_reducible repeat (first | apply z8j | apply z9j | apply y1j)); exact HO235.out))) (Kd.S_lt (by (with_reducible repeat (first | apply Kd.S_alloc | apply Kd.S_drewN | apply Kd.S_drew)); exact HO238.out))) (Kd.R_lt (by (with_reducible repeat (first | apply z8j | apply z9j | apply y1j)); exact HO244.out))) (Kd.R_lt (by (with_reducible repeat (first | apply z8j | apply z9j | apply y1j)); exact HO249.out))) (Kd.S_lt (by (with_reducible repeat (first | apply Kd.S_alloc | apply Kd.S_drewN | apply Kd.S_drew)); exact HO252.out))) (y7j (by repeat (first | (with_reducible first | exact HB.out | apply z4j | apply z5j | apply z6j | refine z7j ?_ GE224.out | refine z7j ?_ GE253.out) | exact HB.out))))
    have n9_ := z0j (y5j (g := gb224) (o := .cells #[.int .i64 a0_0, .int .i64 a0_1, .slice A0_2 l0_2.length c0_2, .int .i64 a0_3, .int .i64 a0_4, .slice A0_5 l0_5.length c0_5, .slice A0_6 l0_6.length c0_6] 64 (0, 0)) (by (with_reducible repeat (first | refine z1j ?_ _ | refine z3j ?_ | refine z2j ?_ _)); exact BK224.out) hb)
    have n10_ := z0j (y5j (g := gb253) (o := .cells #[.int .i64 t240, .int .i64 t241, .slice Ao29 t242.length co29, .int .i64 t245, .int .i64 t246, .slice Ao30 t247.length co30, .slice Ao31 t250.length co31] 68 (0, 0)) (by (with_reducible repeat (first | refine z1j ?_ _ | refine z3j ?_ | refine z2j ?_ _)); exact BK253.out) hb)
    have n11_ := z0j (y6j (by repeat (first | (with_reducible first | exact HB.out | apply z4j | apply z5j | apply z6j | refine z7j ?_ GE224.out | refine z7j ?_ GE253.out) | exact HB.out)) hb)
    clear HO230
    clear HO235
    clear HO238
    clear HO244
    clear HO249
    clear HO252
    clear BK224
    clear BK253
    clear HB
    have HO230 := n0_
    have HO235 := n1_
    have HO238 := n2_
    have HO244 := n3_
    have HO249 := n4_
    have HO252 := n5_
    have HO259 := n6_
    have HO264 := n7_
    have HO267 := n8_
    have BK224 := n9_
    have BK253 := n10_
    have HB := n11_
    clear n0_ n1_ n2_ n3_ n4_ n5_ n6_ n7_ n8_ n9_ n10_ n11_
    (try clear hb)
    (try clear hb2)
    (try clear hk)
    (try clear hi)
    (try clear ho0)
    (try clear ho1)
    (try clear ho2)
    obtain ⟨Ao35, co35, eo35⟩ := Kd.R_slice HO259.out
    (first | subst eo35 | (injection eo35 with f1_ f2_ f3_; have f4_ := f1_.symm; have f5_ := f3_.symm; clear f1_ f2_ f3_; subst f4_; subst f5_))
    obtain ⟨Ao36, co36, eo36⟩ := Kd.R_slice HO264.out
    (first | subst eo36 | (injection eo36 with f1_ f2_ f3_; have f4_ := f1_.symm; have f5_ := f3_.symm; clear f1_ f2_ f3_; subst f4_; subst f5_))
    obtain ⟨Ao37, co37, eo37⟩ := Kd.S_slice HO267.out
    (first | subst eo37 | (injection eo37 with f1_ f2_ f3_; have f4_ := f1_.symm; have f5_ := f3_.symm; clear f1_ f2_ f3_; subst f4_; subst f5_))
    refine hK.out _ _ ⟨(x3j BK253.out 0).trans rfl, (x3j BK253.out 1).trans rfl, (x3j BK253.out 2).trans rfl, (x3j BK253.out 3).trans rfl, (x3j BK253.out 4).trans rfl, (x3j BK253.out 5).trans rfl, (x3j BK253.out 6).trans rfl, (x3j BK224.out 0).trans rfl, (x3j BK224.out 1).trans rfl, (x3j BK224.out 2).trans rfl, (x3j BK224.out 3).trans rfl, (x3j BK224.out 4).trans rfl, (x3j BK224.out 5).trans rfl, (x3j BK224.out 6).trans rfl⟩ (fun hHeld => ?_)
    clear hK K
    refine norm_ (a' := ?_) ?_ ?_
    rotate_left
    ·show Act.put _ (some 24) _ = _
     simp only [Act.put, s1j_, s2j_, s3j_, i64_w, i32_w]
     rfl
    refine one_ (i := 3) (N := some 25) #[true, true, true, true, false] rfl rfl (by kernel_rfl) (by decide) (fun K hK => ?_)
    refine goes_ Try.func54 (by kernel_rfl) rfl #[.agg #[.int .i64 t240, .int .i64 t241, .slice Ao29 t242.length co29, .int .i64 t245, .int .i64 t246, .slice Ao30 t247.length co30, .slice Ao31 t250.length co31], .agg #[.int .i64 t255, .int .i64 t256, .slice Ao35 t257.length co35, .int .i64 t260, .int .i64 t261, .slice Ao36 t262.length co36, .slice Ao37 t265.length co37]] (by rfl) rfl rfl (by (try simp only [List.map_toArray, List.map_cons, List.map_nil]); first | done | rfl | (simp only [List.length_drop, List.length_take]; rfl)) ?_
    with_reducible refine (laws_eqDesk.calls k t240 t241 _ _ t242 t245 t246 _ _ t247 _ _ t250 t255 t256 _ _ t257 t260 t261 _ _ t262 _ _ t265 true _ ?side1 ?side2 ?side3 ?side4 ?side5 ?side6 ?side7 ?side8 ?side9 ?side10 ?side11 ?side12 A13.out).mono ?_
    (case side1 => repeat (first | exact (x5j HO244.out).2.2 | (with_reducible refine y2j ?_ _) | (with_reducible refine y3j ?_ _) | (with_reducible refine y4j ?_)))
    (case side2 => exact (x5j HO244.out).2.1)
    (case side3 => repeat (first | exact (x5j HO249.out).2.2 | (with_reducible refine y2j ?_ _) | (with_reducible refine y3j ?_ _) | (with_reducible refine y4j ?_)))
    (case side4 => exact (x5j HO249.out).2.1)
    (case side5 => repeat (first | exact (Kd.S_reads' HO252.out).2.2 | (with_reducible refine y2j ?_ _) | (with_reducible refine y3j ?_ _) | (with_reducible refine y4j ?_)))
    (case side6 => exact (Kd.S_reads' HO252.out).2.1)
    (case side7 => repeat (first | exact (x5j HO259.out).2.2 | (with_reducible refine y2j ?_ _) | (with_reducible refine y3j ?_ _) | (with_reducible refine y4j ?_)))
    (case side8 => exact (x5j HO259.out).2.1)
    (case side9 => repeat (first | exact (x5j HO264.out).2.2 | (with_reducible refine y2j ?_ _) | (with_reducible refine y3j ?_ _) | (with_reducible refine y4j ?_)))
    (case side10 => exact (x5j HO264.out).2.1)
    (case side11 => repeat (first | exact (Kd.S_reads' HO267.out).2.2 | (with_reducible refine y2j ?_ _) | (with_reducible refine y3j ?_ _) | (with_reducible refine y4j ?_)))
    (case side12 => exact (Kd.S_reads' HO267.out).2.1)
    rintro e w38 ⟨rfl, hb⟩
    refine ⟨_, rfl, ?_⟩
    have n0_ := z0j (x4j (by (with_reducible repeat (first | apply z8j | apply z9j | apply y1j)); exact HO230.out) hb)
    have n1_ := z0j (x4j (by (with_reducible repeat (first | apply z8j | apply z9j | apply y1j)); exact HO235.out) hb)
    have n2_ := z0j (Kd.S_below (by (with_reducible repeat (first | apply Kd.S_alloc | apply Kd.S_drewN | apply Kd.S_drew)); exact HO238.out) hb)
    have n3_ := z0j (x4j (by (with_reducible repeat (first | apply z8j | apply z9j | apply y1j)); exact HO244.out) hb)
    have n4_ := z0j (x4j (by (with_reducible repeat (first | apply z8j | apply z9j | apply y1j)); exact HO249.out) hb)
    have n5_ := z0j (Kd.S_below (by (with_reducible repeat (first | apply Kd.S_alloc | apply Kd.S_drewN | apply Kd.S_drew)); exact HO252.out) hb)
    have n6_ := z0j (x4j (by (with_reducible repeat (first | apply z8j | apply z9j | apply y1j)); exact HO259.out) hb)
    have n7_ := z0j (x4j (by (with_reducible repeat (first | apply z8j | apply z9j | apply y1j)); exact HO264.out) hb)
    have n8_ := z0j (Kd.S_below (by (with_reducible repeat (first | apply Kd.S_alloc | apply Kd.S_drewN | apply Kd.S_drew)); exact HO267.out) hb)
    have n9_ := z0j (y5j (g := gb224) (o := .cells #[.int .i64 a0_0, .int .i64 a0_1, .slice A0_2 l0_2.length c0_2, .int .i64 a0_3, .int .i64 a0_4, .slice A0_5 l0_5.length c0_5, .slice A0_6 l0_6.length c0_6] 64 (0, 0)) (by (with_reducible repeat (first | refine z1j ?_ _ | refine z3j ?_ | refine z2j ?_ _)); exact BK224.out) hb)
    have n10_ := z0j (y5j (g := gb253) (o := .cells #[.int .i64 t240, .int .i64 t241, .slice Ao29 t242.length co29, .int .i64 t245, .int .i64 t246, .slice Ao30 t247.length co30, .slice Ao31 t250.length co31] 68 (0, 0)) (by (with_reducible repeat (first | refine z1j ?_ _ | refine z3j ?_ | refine z2j ?_ _)); exact BK253.out) hb)
    have n11_ := z0j (y6j (by repeat (first | (with_reducible first | exact HB.out | apply z4j | apply z5j | apply z6j | refine z7j ?_ GE224.out | refine z7j ?_ GE253.out) | exact HB.out)) hb)
    clear HO230
    clear HO235
    clear HO238
    clear HO244
    clear HO249
    clear HO252
    clear HO259
    clear HO264
    clear HO267
    clear BK224
    clear BK253
    clear HB
    have HO230 := n0_
    have HO235 := n1_
    have HO238 := n2_
    have HO244 := n3_
    have HO249 := n4_
    have HO252 := n5_
    have HO259 := n6_
    have HO264 := n7_
    have HO267 := n8_
    have BK224 := n9_
    have BK253 := n10_
    have HB := n11_
    clear n0_ n1_ n2_ n3_ n4_ n5_ n6_ n7_ n8_ n9_ n10_ n11_
    (try clear hb)
    (try clear hb2)
    (try clear hk)
    (try clear hi)
    refine hK.out _ _ ⟨(x3j BK253.out 0).trans rfl, (x3j BK253.out 1).trans rfl, (x3j BK253.out 2).trans rfl, (x3j BK253.out 3).trans rfl, (x3j BK253.out 4).trans rfl, (x3j BK253.out 5).trans rfl, (x3j BK253.out 6).trans rfl, (x3j BK224.out 0).trans rfl, (x3j BK224.out 1).trans rfl, (x3j BK224.out 2).trans rfl, (x3j BK224.out 3).trans rfl, (x3j BK224.out 4).trans rfl, (x3j BK224.out 5).trans rfl, (x3j BK224.out 6).trans rfl⟩ (fun hHeld => ?_)
    clear hK K
    refine norm_ (a' := ?_) ?_ ?_
    rotate_left
    ·show Act.put _ (some 25) _ = _
     simp only [Act.put, s1j_, s2j_, s3j_, i64_w, i32_w]
     rfl
    refine pure_ (i := 4) (N := some 26) (v := ?_) (a' := ?_) #[true, true, true, true, true] rfl rfl (by kernel_rfl) (fun _ _ _ h => h) (Or.inl ⟨by rfl, ?_⟩) ?_ ?_
    rotate_left
    ·intro w'
     go_simp
     with_reducible rfl
    rotate_left
    ·simp only [Act.put, s1j_, s2j_, s3j_, i64_w, i32_w]
     rfl
    refine done_ (by kernel_rfl) ?_
    try go_wp2
    go_ret
    exact ⟨by first | rfl | (simp [errW_none, errW_some] <;> rfl) | (simp [*, errW_none, errW_some] <;> rfl), by repeat (first | (with_reducible first | exact HB.out | apply z4j | apply z5j | apply z6j | refine z7j ?_ GE224.out | refine z7j ?_ GE253.out) | exact HB.out)⟩
   ·replace c14 := Bool.eq_false_iff.mpr c14
    subst c14
    have H1 : (some false) = some r := by rw [if_neg (show ¬ (false = true) by decide)] at H; first | exact H | (simp only [if_true] at H ⊢; exact H)
    clear H
    have H := H1
    clear H1
    exact absurd (Option.some.inj H) (by rw [HRT_.out]; decide)

end Go.Proofs.Ytheihidfbalioaa.PFnExactDeskOk
