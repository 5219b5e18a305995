/- Machine side of laws FnExactDeskOk: written for this claim by the kit's print program under this session's wip/tools/mp_setup.py (with contracts of the session's own, wip/ext). -/
import Derived.Test.YtheihidfbalioaaPFnExactDeskOkx0
namespace Go.Proofs.Ytheihidfbalioaa.PFnExactDeskOk
open Go.RowKit Go.Proofs.YtheihidfbalioaaW.PrintWords Go.Proofs.YtheihidfbalioaaW.PrintLast Go.Proofs.YtheihidfbalioaaW.PrintMore
attribute [local go_sem] max2_int min2_int max_two min_two max_three min_three max_four min_four   -- for this text's walks alone
set_option linter.unusedVariables false
set_option linter.unusedSimpArgs false
-- squeezed: words under short names
set_option linter.defProp false in
def z0b := @Aside0.mk
set_option linter.defProp false in
def z1b := @blk_drewN
set_option linter.defProp false in
def z2b := @blk_alloc
set_option linter.defProp false in
def z3b := @blk_drew
set_option linter.defProp false in
def z4b := @below_alloc
set_option linter.defProp false in
def z5b := @pw_below_drewN
set_option linter.defProp false in
def z6b := @below_drew1
set_option linter.defProp false in
def z7b := @below_set
set_option linter.defProp false in
def y2b := @Kd.C_alloc
set_option linter.defProp false in
def y3b := @Kd.C_drewN
set_option linter.defProp false in
def y4b := @Kd.C_drew
set_option linter.defProp false in
def y5b := @blk_below
set_option linter.defProp false in
def y6b := @below_step
set_option linter.defProp false in
def y7b := @below_size
set_option linter.defProp false in
def y9b := @Kd.C_below
set_option linter.defProp false in
def x2b := @blk_frozen
set_option linter.defProp false in
def x3b := @blk_cell
def bsb_ (n m : Nat) : Array Bool := ((List.range n).map fun i => m.testBit i).toArray
theorem s1b_ {α : Type} (l : List α) (i : Nat) (a : α) : l.toArray.setIfInBounds i a = (l.set i a).toArray := List.setIfInBounds_toArray l i a
theorem s2b_ {α : Type} (a b : α) (l : List α) : (a :: l).set 0 b = b :: l := rfl
theorem s3b_ {α : Type} (a b : α) (n : Nat) (l : List α) : (a :: l).set (n + 1) b = a :: l.set n b := rfl

/-! ### laws_szIntS: function 114 -/
def laws_szIntS.f (l0 : List Int) (a1 : Int) : Option (Int) := if (wrap64 (a1 - (l0.length : Int))) < 0 then (some (-1)) else (some (wrap64 (a1 - (l0.length : Int))))
set_option maxHeartbeats 8000000 in
set_option maxRecDepth 100000 in
theorem laws_szIntS.calls (A0 : Option Addr) (c0 : Nat) (l0 : List Int) (a1 : Int) (r : Int) (w : World) (hr0 : Kd.C (Kd.int .i64) w A0 l0.length l0) (hc0 : l0.length ≤ c0) (h : laws_szIntS.f l0 a1 = some r) :
  Calls Try.prog 114 #[.slice A0 l0.length c0, .int .i64 a1] w fun e w' => e = .returned (.int .i64 r) ∧ Drawn0 w w' := by
 have HR0 := z0b hr0
 have HC0 := z0b hc0
 clear hr0 hc0
 have H : (if (wrap64 (a1 - (l0.length : Int))) < 0 then (some (-1)) else (some (wrap64 (a1 - (l0.length : Int))))) = some r := h
 clear h
 by_cases c3 : (wrap64 (a1 - (l0.length : Int))) < 0
 ·rw [if_pos c3] at H
  have c3b0 : decide ((wrap64 (a1 - (l0.length : Int))) < 0) = true := decide_eq_true c3
  clear c3
  obtain rfl := Option.some.inj H
  go_enter Try.func114, Try.ntmps114
  go_wp2
  go_ret
  exact ⟨by first | rfl | (simp; done) | (simp [*]; done), by repeat (first | exact Drawn0.refl _ | apply Drawn0.step)⟩
 ·rw [if_neg c3] at H
  have c3b0 : decide ((wrap64 (a1 - (l0.length : Int))) < 0) = false := decide_eq_false c3
  clear c3
  obtain rfl := Option.some.inj H
  go_enter Try.func114, Try.ntmps114
  go_wp2
  go_ret
  exact ⟨by first | rfl | (simp; done) | (simp [*]; done), by repeat (first | exact Drawn0.refl _ | apply Drawn0.step)⟩

/-! ### laws_szPicture: function 88 -/
def laws_szPicture.f (a0_0 : Int) (a0_1 : Int) (l0_2 : List Int) (a1 : Int) : Option (Int) := (laws_szIntS.f l0_2 a1).bind fun t102 => (if t102 < 0 then (some (-1)) else (some t102))
set_option maxHeartbeats 8000000 in
set_option maxRecDepth 100000 in
theorem laws_szPicture.calls (a0_0 : Int) (a0_1 : Int) (A0_2 : Option Addr) (c0_2 : Nat) (l0_2 : List Int) (a1 : Int) (r : Int) (w : World) (hr0_2 : Kd.C (Kd.int .i64) w A0_2 l0_2.length l0_2) (hc0_2 : l0_2.length ≤ c0_2) (h : laws_szPicture.f a0_0 a0_1 l0_2 a1 = some r) :
  Calls Try.prog 88 #[.agg #[.int .i64 a0_0, .int .i64 a0_1, .slice A0_2 l0_2.length c0_2], .int .i64 a1] w fun e w' => e = .returned (.int .i64 r) ∧ Below w.heap.size w w' := by
 have hu60 := Try.underlying60
 have HR0_2 := z0b hr0_2
 have HC0_2 := z0b hc0_2
 clear hr0_2 hc0_2
 have HB := z0b (Below.refl w.heap.size w)
 have H : ((laws_szIntS.f l0_2 a1).bind fun t102 => (if t102 < 0 then (some (-1)) else (some t102))) = some r := h
 clear h
 replace H := Option.bind_eq_some_iff.mp H
 obtain ⟨t102, A30, H⟩ := H
 replace H : (if t102 < 0 then (some (-1)) else (some t102)) = some r := H
 have A3 := z0b A30
 clear A30
 by_cases c4 : t102 < 0
 ·rw [if_pos c4] at H
  have c4b0 : decide (t102 < 0) = true := decide_eq_true c4
  clear c4
  obtain rfl := Option.some.inj H
  go_enter Try.func88, Try.ntmps88
  go_wp2_with (first | ((with_reducible refine gate_dst (N := 2) rfl ?_); refine box_event ?hg (N := 2) ?hd (cs := #[.int .i64 a0_0, .int .i64 a0_1, .slice A0_2 l0_2.length c0_2]) (t := 60) ?hr ?_; (case hd => rfl); (case hg => rfl); (case hr => first | (go_simp; done) | (go_simp; rfl)); intro gb101 hg w5 hbox hb; have n0_ := z0b (y6b (by repeat (first | (with_reducible first | exact HB.out | apply z4b | apply z5b | apply z6b) | exact HB.out)) hb); have n1_ := z0b (hbox); have n2_ := z0b ((by rw [hg]; exact (y7b (by repeat (first | (with_reducible first | exact HB.out | apply z4b | apply z5b | apply z6b) | exact HB.out))) : w.heap.size ≤ gb101)); have n3_ := z0b ((by rw [hg]; exact (y7b (by repeat (first | (with_reducible first | exact HB.out | apply z4b | apply z5b | apply z6b) | exact HB.out))) : w.heap.size ≤ gb101)); clear HB; have HB := n0_; have BK101 := n1_; have GW101 := n2_; have GE101 := n3_; clear n0_ n1_ n2_ n3_; clear hb hbox hg; have hcz6_0 : w5.cell? ⟨gb101, 0, none⟩ = some (.int .i64 a0_0) := (x3b BK101.out 0).trans rfl; have hcz6_1 : w5.cell? ⟨gb101, 1, none⟩ = some (.int .i64 a0_1) := (x3b BK101.out 1).trans rfl; have hcz6_2 : w5.cell? ⟨gb101, 2, none⟩ = some (.slice A0_2 l0_2.length c0_2) := (x3b BK101.out 2).trans rfl; have hfz6_0 := x2b BK101.out 0; have hfz6_1 := x2b BK101.out 1; have hfz6_2 := x2b BK101.out 2) | ((with_reducible refine gate_callee (f := 114) rfl ?_); refine goesL_ (some 8) rfl rfl Try.func114 (by kernel_rfl) rfl #[.slice A0_2 l0_2.length c0_2, .int .i64 a1] rfl (by (try simp only [List.map_toArray, List.map_cons, List.map_nil]); first | done | rfl | (simp only [List.length_drop, List.length_take]; rfl)) ?_; (with_reducible refine (laws_szIntS.calls _ _ l0_2 a1 t102 _ ?side1 ?side2 A3.out).mono ?_); (case side1 => repeat (first | exact HR0_2.out | exact (y9b HR0_2.out HB.out) | (with_reducible refine y2b ?_ _) | (with_reducible refine y3b ?_ _) | (with_reducible refine y4b ?_))); (case side2 => exact HC0_2.out); rintro e w' ⟨rfl, ⟨nd, rfl⟩⟩; refine ⟨_, rfl, ?_⟩))
  go_ret
  exact ⟨by first | rfl | (simp [errW_none, errW_some] <;> rfl) | (simp [*, errW_none, errW_some] <;> rfl), by repeat (first | (with_reducible first | exact HB.out | apply z4b | apply z5b | apply z6b | refine z7b ?_ GE101.out) | exact HB.out)⟩
 ·rw [if_neg c4] at H
  have c4b0 : decide (t102 < 0) = false := decide_eq_false c4
  clear c4
  obtain rfl := Option.some.inj H
  go_enter Try.func88, Try.ntmps88
  go_wp2_with (first | ((with_reducible refine gate_dst (N := 2) rfl ?_); refine box_event ?hg (N := 2) ?hd (cs := #[.int .i64 a0_0, .int .i64 a0_1, .slice A0_2 l0_2.length c0_2]) (t := 60) ?hr ?_; (case hd => rfl); (case hg => rfl); (case hr => first | (go_simp; done) | (go_simp; rfl)); intro gb101 hg w7 hbox hb; have n0_ := z0b (y6b (by repeat (first | (with_reducible first | exact HB.out | apply z4b | apply z5b | apply z6b) | exact HB.out)) hb); have n1_ := z0b (hbox); have n2_ := z0b ((by rw [hg]; exact (y7b (by repeat (first | (with_reducible first | exact HB.out | apply z4b | apply z5b | apply z6b) | exact HB.out))) : w.heap.size ≤ gb101)); have n3_ := z0b ((by rw [hg]; exact (y7b (by repeat (first | (with_reducible first | exact HB.out | apply z4b | apply z5b | apply z6b) | exact HB.out))) : w.heap.size ≤ gb101)); clear HB; have HB := n0_; have BK101 := n1_; have GW101 := n2_; have GE101 := n3_; clear n0_ n1_ n2_ n3_; clear hb hbox hg; have hcz8_0 : w7.cell? ⟨gb101, 0, none⟩ = some (.int .i64 a0_0) := (x3b BK101.out 0).trans rfl; have hcz8_1 : w7.cell? ⟨gb101, 1, none⟩ = some (.int .i64 a0_1) := (x3b BK101.out 1).trans rfl; have hcz8_2 : w7.cell? ⟨gb101, 2, none⟩ = some (.slice A0_2 l0_2.length c0_2) := (x3b BK101.out 2).trans rfl; have hfz8_0 := x2b BK101.out 0; have hfz8_1 := x2b BK101.out 1; have hfz8_2 := x2b BK101.out 2) | ((with_reducible refine gate_callee (f := 114) rfl ?_); refine goesL_ (some 8) rfl rfl Try.func114 (by kernel_rfl) rfl #[.slice A0_2 l0_2.length c0_2, .int .i64 a1] rfl (by (try simp only [List.map_toArray, List.map_cons, List.map_nil]); first | done | rfl | (simp only [List.length_drop, List.length_take]; rfl)) ?_; (with_reducible refine (laws_szIntS.calls _ _ l0_2 a1 t102 _ ?side1 ?side2 A3.out).mono ?_); (case side1 => repeat (first | exact HR0_2.out | exact (y9b HR0_2.out HB.out) | (with_reducible refine y2b ?_ _) | (with_reducible refine y3b ?_ _) | (with_reducible refine y4b ?_))); (case side2 => exact HC0_2.out); rintro e w' ⟨rfl, ⟨nd, rfl⟩⟩; refine ⟨_, rfl, ?_⟩))
  go_ret
  exact ⟨by first | rfl | (simp [errW_none, errW_some] <;> rfl) | (simp [*, errW_none, errW_some] <;> rfl), by repeat (first | (with_reducible first | exact HB.out | apply z4b | apply z5b | apply z6b | refine z7b ?_ GE101.out) | exact HB.out)⟩

/-! ### laws_szMatrix: function 89 -/
def laws_szMatrix.f (a0_0 : Int) (a0_1 : Int) (l0_2 : List Int) (a1 : Int) : Option (Int) := (laws_szIntS.f l0_2 a1).bind fun t104 => (if t104 < 0 then (some (-1)) else (some t104))
set_option maxHeartbeats 8000000 in
set_option maxRecDepth 100000 in
theorem laws_szMatrix.calls (a0_0 : Int) (a0_1 : Int) (A0_2 : Option Addr) (c0_2 : Nat) (l0_2 : List Int) (a1 : Int) (r : Int) (w : World) (hr0_2 : Kd.C (Kd.int .i64) w A0_2 l0_2.length l0_2) (hc0_2 : l0_2.length ≤ c0_2) (h : laws_szMatrix.f a0_0 a0_1 l0_2 a1 = some r) :
  Calls Try.prog 89 #[.agg #[.int .i64 a0_0, .int .i64 a0_1, .slice A0_2 l0_2.length c0_2], .int .i64 a1] w fun e w' => e = .returned (.int .i64 r) ∧ Below w.heap.size w w' := by
 have hu61 := Try.underlying61
 have HR0_2 := z0b hr0_2
 have HC0_2 := z0b hc0_2
 clear hr0_2 hc0_2
 have HB := z0b (Below.refl w.heap.size w)
 have H : ((laws_szIntS.f l0_2 a1).bind fun t104 => (if t104 < 0 then (some (-1)) else (some t104))) = some r := h
 clear h
 replace H := Option.bind_eq_some_iff.mp H
 obtain ⟨t104, A30, H⟩ := H
 replace H : (if t104 < 0 then (some (-1)) else (some t104)) = some r := H
 have A3 := z0b A30
 clear A30
 by_cases c4 : t104 < 0
 ·rw [if_pos c4] at H
  have c4b0 : decide (t104 < 0) = true := decide_eq_true c4
  clear c4
  obtain rfl := Option.some.inj H
  go_enter Try.func89, Try.ntmps89
  go_wp2_with (first | ((with_reducible refine gate_dst (N := 2) rfl ?_); refine box_event ?hg (N := 2) ?hd (cs := #[.int .i64 a0_0, .int .i64 a0_1, .slice A0_2 l0_2.length c0_2]) (t := 61) ?hr ?_; (case hd => rfl); (case hg => rfl); (case hr => first | (go_simp; done) | (go_simp; rfl)); intro gb103 hg w5 hbox hb; have n0_ := z0b (y6b (by repeat (first | (with_reducible first | exact HB.out | apply z4b | apply z5b | apply z6b) | exact HB.out)) hb); have n1_ := z0b (hbox); have n2_ := z0b ((by rw [hg]; exact (y7b (by repeat (first | (with_reducible first | exact HB.out | apply z4b | apply z5b | apply z6b) | exact HB.out))) : w.heap.size ≤ gb103)); have n3_ := z0b ((by rw [hg]; exact (y7b (by repeat (first | (with_reducible first | exact HB.out | apply z4b | apply z5b | apply z6b) | exact HB.out))) : w.heap.size ≤ gb103)); clear HB; have HB := n0_; have BK103 := n1_; have GW103 := n2_; have GE103 := n3_; clear n0_ n1_ n2_ n3_; clear hb hbox hg; have hcz6_0 : w5.cell? ⟨gb103, 0, none⟩ = some (.int .i64 a0_0) := (x3b BK103.out 0).trans rfl; have hcz6_1 : w5.cell? ⟨gb103, 1, none⟩ = some (.int .i64 a0_1) := (x3b BK103.out 1).trans rfl; have hcz6_2 : w5.cell? ⟨gb103, 2, none⟩ = some (.slice A0_2 l0_2.length c0_2) := (x3b BK103.out 2).trans rfl; have hfz6_0 := x2b BK103.out 0; have hfz6_1 := x2b BK103.out 1; have hfz6_2 := x2b BK103.out 2) | ((with_reducible refine gate_callee (f := 114) rfl ?_); refine goesL_ (some 8) rfl rfl Try.func114 (by kernel_rfl) rfl #[.slice A0_2 l0_2.length c0_2, .int .i64 a1] rfl (by (try simp only [List.map_toArray, List.map_cons, List.map_nil]); first | done | rfl | (simp only [List.length_drop, List.length_take]; rfl)) ?_; (with_reducible refine (laws_szIntS.calls _ _ l0_2 a1 t104 _ ?side1 ?side2 A3.out).mono ?_); (case side1 => repeat (first | exact HR0_2.out | exact (y9b HR0_2.out HB.out) | (with_reducible refine y2b ?_ _) | (with_reducible refine y3b ?_ _) | (with_reducible refine y4b ?_))); (case side2 => exact HC0_2.out); rintro e w' ⟨rfl, ⟨nd, rfl⟩⟩; refine ⟨_, rfl, ?_⟩))
  go_ret
  exact ⟨by first | rfl | (simp [errW_none, errW_some] <;> rfl) | (simp [*, errW_none, errW_some] <;> rfl), by repeat (first | (with_reducible first | exact HB.out | apply z4b | apply z5b | apply z6b | refine z7b ?_ GE103.out) | exact HB.out)⟩
 ·rw [if_neg c4] at H
  have c4b0 : decide (t104 < 0) = false := decide_eq_false c4
  clear c4
  obtain rfl := Option.some.inj H
  go_enter Try.func89, Try.ntmps89
  go_wp2_with (first | ((with_reducible refine gate_dst (N := 2) rfl ?_); refine box_event ?hg (N := 2) ?hd (cs := #[.int .i64 a0_0, .int .i64 a0_1, .slice A0_2 l0_2.length c0_2]) (t := 61) ?hr ?_; (case hd => rfl); (case hg => rfl); (case hr => first | (go_simp; done) | (go_simp; rfl)); intro gb103 hg w7 hbox hb; have n0_ := z0b (y6b (by repeat (first | (with_reducible first | exact HB.out | apply z4b | apply z5b | apply z6b) | exact HB.out)) hb); have n1_ := z0b (hbox); have n2_ := z0b ((by rw [hg]; exact (y7b (by repeat (first | (with_reducible first | exact HB.out | apply z4b | apply z5b | apply z6b) | exact HB.out))) : w.heap.size ≤ gb103)); have n3_ := z0b ((by rw [hg]; exact (y7b (by repeat (first | (with_reducible first | exact HB.out | apply z4b | apply z5b | apply z6b) | exact HB.out))) : w.heap.size ≤ gb103)); clear HB; have HB := n0_; have BK103 := n1_; have GW103 := n2_; have GE103 := n3_; clear n0_ n1_ n2_ n3_; clear hb hbox hg; have hcz8_0 : w7.cell? ⟨gb103, 0, none⟩ = some (.int .i64 a0_0) := (x3b BK103.out 0).trans rfl; have hcz8_1 : w7.cell? ⟨gb103, 1, none⟩ = some (.int .i64 a0_1) := (x3b BK103.out 1).trans rfl; have hcz8_2 : w7.cell? ⟨gb103, 2, none⟩ = some (.slice A0_2 l0_2.length c0_2) := (x3b BK103.out 2).trans rfl; have hfz8_0 := x2b BK103.out 0; have hfz8_1 := x2b BK103.out 1; have hfz8_2 := x2b BK103.out 2) | ((with_reducible refine gate_callee (f := 114) rfl ?_); refine goesL_ (some 8) rfl rfl Try.func114 (by kernel_rfl) rfl #[.slice A0_2 l0_2.length c0_2, .int .i64 a1] rfl (by (try simp only [List.map_toArray, List.map_cons, List.map_nil]); first | done | rfl | (simp only [List.length_drop, List.length_take]; rfl)) ?_; (with_reducible refine (laws_szIntS.calls _ _ l0_2 a1 t104 _ ?side1 ?side2 A3.out).mono ?_); (case side1 => repeat (first | exact HR0_2.out | exact (y9b HR0_2.out HB.out) | (with_reducible refine y2b ?_ _) | (with_reducible refine y3b ?_ _) | (with_reducible refine y4b ?_))); (case side2 => exact HC0_2.out); rintro e w' ⟨rfl, ⟨nd, rfl⟩⟩; refine ⟨_, rfl, ?_⟩))
  go_ret
  exact ⟨by first | rfl | (simp [errW_none, errW_some] <;> rfl) | (simp [*, errW_none, errW_some] <;> rfl), by repeat (first | (with_reducible first | exact HB.out | apply z4b | apply z5b | apply z6b | refine z7b ?_ GE103.out) | exact HB.out)⟩

/-! ### laws_szPictureS: function 90 -/
def laws_szPictureS.l0 : Nat → List (S60) → Int → Int → Option (Int)
 | 0, _, _, _ => none
 | k + 1, x0, x1, x5 => if x5 < (x0.length : Int) then (if 0 ≤ x5 then ((laws_szPicture.f ((rd_T60 x0 x5).f0) ((rd_T60 x0 x5).f1) ((rd_T60 x0 x5).f2) x1).bind fun t106 => (if t106 < 0 then (some (-1)) else (laws_szPictureS.l0 k x0 t106 (wrap64 (x5 + 1))))) else (none)) else (some x1)
def laws_szPictureS.f (k : Nat) (l0 : List (S60)) (a1 : Int) : Option (Int) := if (wrap64 (a1 - (l0.length : Int))) < 0 then (some (-1)) else (laws_szPictureS.l0 k l0 (wrap64 (a1 - (l0.length : Int))) 0)
theorem laws_szPictureS.mono_l : ∀ k, (∀ y0 y1 y2, LeO (laws_szPictureS.l0 k y0 y1 y2) (laws_szPictureS.l0 (k + 1) y0 y1 y2))
 | 0 => fun _ _ _ r h => by simp [laws_szPictureS.l0] at h
 | k + 1 => by
  have ih0 := laws_szPictureS.mono_l k
  ·intro y0 y1 y2
   unfold laws_szPictureS.l0
   repeat' first
   | (with_reducible exact ih0 _ _ _)
   | (with_reducible exact LeO.refl _)
   | (with_reducible exact LeO.none _)
   | (with_reducible refine LeO.ite ?_ ?_)
   | (with_reducible refine LeO.bind ?_ (fun _ => ?_))
   | exact ih0 _ _ _
   | exact LeO.none _
   | refine LeO.ite ?_ ?_
   | refine LeO.bind ?_ (fun _ => ?_)
theorem laws_szPictureS.mono : ∀ a0 a1 k, LeO (laws_szPictureS.f k a0 a1) (laws_szPictureS.f (k + 1) a0 a1) := by
 intro a0 a1 k
 have ih0 := laws_szPictureS.mono_l k
 unfold laws_szPictureS.f
 repeat' first
   | (with_reducible exact ih0 _ _ _)
   | (with_reducible exact LeO.refl _)
   | (with_reducible exact LeO.none _)
   | (with_reducible refine LeO.ite ?_ ?_)
   | (with_reducible refine LeO.bind ?_ (fun _ => ?_))
   | exact ih0 _ _ _
   | exact LeO.none _
   | refine LeO.ite ?_ ?_
   | refine LeO.bind ?_ (fun _ => ?_)
set_option maxHeartbeats 8000000 in
set_option maxRecDepth 100000 in
theorem laws_szPictureS.calls (k : Nat) (A0 : Option Addr) (c0 : Nat) (l0 : List (S60)) (a1 : Int) (r : Int) (w : World) (hr0 : Kd.C k60 w A0 l0.length l0) (hc0 : l0.length ≤ c0) (h : laws_szPictureS.f k l0 a1 = some r) :
  Calls Try.prog 90 #[.slice A0 l0.length c0, .int .i64 a1] w fun e w' => e = .returned (.int .i64 r) ∧ Below w.heap.size w w' := by
 have hu60 := Try.underlying60
 have HR0 := z0b hr0
 have HC0 := z0b hc0
 clear hr0 hc0
 have HB := z0b (Below.refl w.heap.size w)
 have H : (if (wrap64 (a1 - (l0.length : Int))) < 0 then (some (-1)) else (laws_szPictureS.l0 k l0 (wrap64 (a1 - (l0.length : Int))) 0)) = some r := h
 clear h
 by_cases c3 : (wrap64 (a1 - (l0.length : Int))) < 0
 ·rw [if_pos c3] at H
  have c3b0 : decide ((wrap64 (a1 - (l0.length : Int))) < 0) = true := decide_eq_true c3
  clear c3
  obtain rfl := Option.some.inj H
  go_enter Try.func90, Try.ntmps90
  go_wp2
  go_ret
  exact ⟨by first | rfl | (simp [errW_none, errW_some] <;> rfl) | (simp [*, errW_none, errW_some] <;> rfl), by repeat (first | (with_reducible first | exact HB.out | apply z4b | apply z5b | apply z6b) | exact HB.out)⟩
 ·rw [if_neg c3] at H
  have c3b0 : decide ((wrap64 (a1 - (l0.length : Int))) < 0) = false := decide_eq_false c3
  clear c3
  have H' := z0b H
  clear H
  go_enter Try.func90, Try.ntmps90
  go_wp2
  go_loopg [1, 5] k (fun kq v1 v5 w' => ∃ (x1_1 : Int) (x5_1 : Int), v1 = .int .i64 x1_1 ∧ v5 = .int .i64 x5_1 ∧ Aside0 (laws_szPictureS.l0 kq l0 x1_1 x5_1 = some r) ∧ Aside0 (kq ≤ k) ∧ Aside0 (Below w.heap.size w w'))
  case atStart => exact ⟨(wrap64 (a1 - (l0.length : Int))), (0), (by first | rfl | (simp; done) | (simp [*]; done)), (by first | rfl | (simp; done) | (simp [*]; done)), H', ⟨Nat.le_refl _⟩, ⟨by repeat (first | (with_reducible first | exact HB.out | apply z4b | apply z5b | apply z6b) | exact HB.out)⟩⟩
  case round =>
   clear H'
   try clear p2
   try clear c3
   try clear c3b0
   obtain ⟨x1_1, x5_1, rfl, rfl, HA, HK1, HB⟩ := hrel
   cases gk with
   | zero => exact absurd HA.out (by simp [laws_szPictureS.l0])
   | succ k1 =>
    have H := HA.out
    clear HA
    simp only [laws_szPictureS.l0] at H
    by_cases c4 : x5_1 < (l0.length : Int)
    ·rw [if_pos c4] at H
     have c4b0 : decide (x5_1 < (l0.length : Int)) = true := decide_eq_true c4
     clear c4
     by_cases c5 : 0 ≤ x5_1
     ·rw [if_pos c5] at H
      have c5b0 : decide (0 ≤ x5_1) = true := decide_eq_true c5
      clear c5
      replace H := Option.bind_eq_some_iff.mp H
      obtain ⟨t106, A60, H⟩ := H
      replace H : (if t106 < 0 then (some (-1)) else (laws_szPictureS.l0 k1 l0 t106 (wrap64 (x5_1 + 1)))) = some r := H
      have A6 := z0b A60
      clear A60
      by_cases c7 : t106 < 0
      ·rw [if_pos c7] at H
       have c7b0 : decide (t106 < 0) = true := decide_eq_true c7
       clear c7
       obtain rfl := Option.some.inj H
       have p105 : 0 ≤ (x5_1 : Int) := of_decide_eq_true (by first | (with_reducible assumption) | assumption)
       have q105 : x5_1 < (l0.length : Int) := of_decide_eq_true (by first | (with_reducible assumption) | assumption)
       obtain ⟨ad105, A105_2, c105_2, e105, hx105_0, hx105_1, hx105_2, hl105_2, hi105_2⟩ := at_T60 HR0.out x5_1 p105 q105
       cases e105
       replace hx105_0 := (HB.out.cell (World.block_lt_of_cell? w _ hx105_0)).trans hx105_0
       replace hx105_1 := (HB.out.cell (World.block_lt_of_cell? w _ hx105_1)).trans hx105_1
       replace hx105_2 := (HB.out.cell (World.block_lt_of_cell? w _ hx105_2)).trans hx105_2
       have HR105_2 := z0b hi105_2
       have HC105_2 := z0b hl105_2
       clear hi105_2 hl105_2
       replace p105 := eq_true p105
       replace q105 := eq_true q105
       go_wp2_with (first | ((with_reducible refine gate_callee (f := 88) rfl ?_); refine goesL_ (some 23) rfl rfl Try.func88 (by kernel_rfl) rfl #[.agg #[.int .i64 ((rd_T60 l0 x5_1).f0), .int .i64 ((rd_T60 l0 x5_1).f1), .slice A105_2 ((rd_T60 l0 x5_1).f2).length c105_2], .int .i64 x1_1] rfl (by (try simp only [List.map_toArray, List.map_cons, List.map_nil]); first | done | rfl | (simp only [List.length_drop, List.length_take]; rfl)) ?_; (with_reducible refine (laws_szPicture.calls ((rd_T60 l0 x5_1).f0) ((rd_T60 l0 x5_1).f1) _ _ ((rd_T60 l0 x5_1).f2) x1_1 t106 _ ?side1 ?side2 A6.out).mono ?_); (case side1 => repeat (first | exact HR105_2.out | exact (y9b HR105_2.out HB.out) | (with_reducible refine y2b ?_ _) | (with_reducible refine y3b ?_ _) | (with_reducible refine y4b ?_))); (case side2 => exact HC105_2.out); rintro e w8 ⟨rfl, hb⟩; refine ⟨_, rfl, ?_⟩; have n0_ := z0b (y6b (by repeat (first | (with_reducible first | exact HB.out | apply z4b | apply z5b | apply z6b) | exact HB.out)) hb); clear HB; have HB := n0_; clear n0_; (try clear hb)))
       go_ret
       exact ⟨by first | rfl | (simp [errW_none, errW_some] <;> rfl) | (simp [*, errW_none, errW_some] <;> rfl), by repeat (first | (with_reducible first | exact HB.out | apply z4b | apply z5b | apply z6b) | exact HB.out)⟩
      ·rw [if_neg c7] at H
       have c7b0 : decide (t106 < 0) = false := decide_eq_false c7
       clear c7
       have H' := z0b H
       clear H
       have p105 : 0 ≤ (x5_1 : Int) := of_decide_eq_true (by first | (with_reducible assumption) | assumption)
       have q105 : x5_1 < (l0.length : Int) := of_decide_eq_true (by first | (with_reducible assumption) | assumption)
       obtain ⟨ad105, A105_2, c105_2, e105, hx105_0, hx105_1, hx105_2, hl105_2, hi105_2⟩ := at_T60 HR0.out x5_1 p105 q105
       cases e105
       replace hx105_0 := (HB.out.cell (World.block_lt_of_cell? w _ hx105_0)).trans hx105_0
       replace hx105_1 := (HB.out.cell (World.block_lt_of_cell? w _ hx105_1)).trans hx105_1
       replace hx105_2 := (HB.out.cell (World.block_lt_of_cell? w _ hx105_2)).trans hx105_2
       have HR105_2 := z0b hi105_2
       have HC105_2 := z0b hl105_2
       clear hi105_2 hl105_2
       replace p105 := eq_true p105
       replace q105 := eq_true q105
       go_wp2_with (first | ((with_reducible refine gate_callee (f := 88) rfl ?_); refine goesL_ (some 23) rfl rfl Try.func88 (by kernel_rfl) rfl #[.agg #[.int .i64 ((rd_T60 l0 x5_1).f0), .int .i64 ((rd_T60 l0 x5_1).f1), .slice A105_2 ((rd_T60 l0 x5_1).f2).length c105_2], .int .i64 x1_1] rfl (by (try simp only [List.map_toArray, List.map_cons, List.map_nil]); first | done | rfl | (simp only [List.length_drop, List.length_take]; rfl)) ?_; (with_reducible refine (laws_szPicture.calls ((rd_T60 l0 x5_1).f0) ((rd_T60 l0 x5_1).f1) _ _ ((rd_T60 l0 x5_1).f2) x1_1 t106 _ ?side1 ?side2 A6.out).mono ?_); (case side1 => repeat (first | exact HR105_2.out | exact (y9b HR105_2.out HB.out) | (with_reducible refine y2b ?_ _) | (with_reducible refine y3b ?_ _) | (with_reducible refine y4b ?_))); (case side2 => exact HC105_2.out); rintro e w9 ⟨rfl, hb⟩; refine ⟨_, rfl, ?_⟩; have n0_ := z0b (y6b (by repeat (first | (with_reducible first | exact HB.out | apply z4b | apply z5b | apply z6b) | exact HB.out)) hb); clear HB; have HB := n0_; clear n0_; (try clear hb)))
       go_roundg k1
       case measure => have := HK1.out; omega
       case rel => exact ⟨(t106), (wrap64 (x5_1 + 1)), (by first | rfl | (simp; done) | (simp [*]; done)), (by first | rfl | (simp; done) | (simp [*]; done)), H', ⟨by have := HK1.out; omega⟩, ⟨by repeat (first | (with_reducible first | exact HB.out | apply z4b | apply z5b | apply z6b) | exact HB.out)⟩⟩
     ·rw [if_neg c5] at H
      exact absurd H (by simp)
    ·rw [if_neg c4] at H
     have c4b0 : decide (x5_1 < (l0.length : Int)) = false := decide_eq_false c4
     clear c4
     obtain rfl := Option.some.inj H
     go_wp2
     go_ret
     exact ⟨by first | rfl | (simp [errW_none, errW_some] <;> rfl) | (simp [*, errW_none, errW_some] <;> rfl), by repeat (first | (with_reducible first | exact HB.out | apply z4b | apply z5b | apply z6b) | exact HB.out)⟩

/-! ### laws_szDesk: function 50 -/
def laws_szDesk.f (k : Nat) (a0_0 : Int) (a0_1 : Int) (l0_2 : List Int) (a0_3 : Int) (a0_4 : Int) (l0_5 : List Int) (l0_6 : List (S60)) (a1 : Int) : Option (Int) := (laws_szPicture.f a0_0 a0_1 l0_2 a1).bind fun t108 => (if t108 < 0 then (some (-1)) else ((laws_szMatrix.f a0_3 a0_4 l0_5 t108).bind fun t109 => (if t109 < 0 then (some (-1)) else ((laws_szPictureS.f k l0_6 t109).bind fun t110 => (if t110 < 0 then (some (-1)) else (some t110))))))
theorem laws_szDesk.mono : ∀ a0 a1 a2 a3 a4 a5 a6 a7 k, LeO (laws_szDesk.f k a0 a1 a2 a3 a4 a5 a6 a7) (laws_szDesk.f (k + 1) a0 a1 a2 a3 a4 a5 a6 a7) := by
 intro a0 a1 a2 a3 a4 a5 a6 a7 k
 unfold laws_szDesk.f
 repeat' first
   | (with_reducible exact laws_szPictureS.mono _ _ _)
   | (with_reducible exact LeO.refl _)
   | (with_reducible exact LeO.none _)
   | (with_reducible refine LeO.ite ?_ ?_)
   | (with_reducible refine LeO.bind ?_ (fun _ => ?_))
   | exact laws_szPictureS.mono _ _ _
   | exact LeO.none _
   | refine LeO.ite ?_ ?_
   | refine LeO.bind ?_ (fun _ => ?_)
set_option maxHeartbeats 8000000 in
set_option maxRecDepth 100000 in
theorem laws_szDesk.calls (k : Nat) (a0_0 : Int) (a0_1 : Int) (A0_2 : Option Addr) (c0_2 : Nat) (l0_2 : List Int) (a0_3 : Int) (a0_4 : Int) (A0_5 : Option Addr) (c0_5 : Nat) (l0_5 : List Int) (A0_6 : Option Addr) (c0_6 : Nat) (l0_6 : List (S60)) (a1 : Int) (r : Int) (w : World) (hr0_2 : Kd.C (Kd.int .i64) w A0_2 l0_2.length l0_2) (hc0_2 : l0_2.length ≤ c0_2) (hr0_5 : Kd.C (Kd.int .i64) w A0_5 l0_5.length l0_5) (hc0_5 : l0_5.length ≤ c0_5) (hr0_6 : Kd.C k60 w A0_6 l0_6.length l0_6) (hc0_6 : l0_6.length ≤ c0_6) (h : laws_szDesk.f k a0_0 a0_1 l0_2 a0_3 a0_4 l0_5 l0_6 a1 = some r) :
  Calls Try.prog 50 #[.agg #[.int .i64 a0_0, .int .i64 a0_1, .slice A0_2 l0_2.length c0_2, .int .i64 a0_3, .int .i64 a0_4, .slice A0_5 l0_5.length c0_5, .slice A0_6 l0_6.length c0_6], .int .i64 a1] w fun e w' => e = .returned (.int .i64 r) ∧ Below w.heap.size w w' := by
 have hu64 := Try.underlying64
 have hu60 := Try.underlying60
 have hu61 := Try.underlying61
 have HR0_2 := z0b hr0_2
 have HC0_2 := z0b hc0_2
 clear hr0_2 hc0_2
 have HR0_5 := z0b hr0_5
 have HC0_5 := z0b hc0_5
 clear hr0_5 hc0_5
 have HR0_6 := z0b hr0_6
 have HC0_6 := z0b hc0_6
 clear hr0_6 hc0_6
 have HB := z0b (Below.refl w.heap.size w)
 have H : ((laws_szPicture.f a0_0 a0_1 l0_2 a1).bind fun t108 => (if t108 < 0 then (some (-1)) else ((laws_szMatrix.f a0_3 a0_4 l0_5 t108).bind fun t109 => (if t109 < 0 then (some (-1)) else ((laws_szPictureS.f k l0_6 t109).bind fun t110 => (if t110 < 0 then (some (-1)) else (some t110))))))) = some r := h
 clear h
 replace H := Option.bind_eq_some_iff.mp H
 obtain ⟨t108, A30, H⟩ := H
 replace H : (if t108 < 0 then (some (-1)) else ((laws_szMatrix.f a0_3 a0_4 l0_5 t108).bind fun t109 => (if t109 < 0 then (some (-1)) else ((laws_szPictureS.f k l0_6 t109).bind fun t110 => (if t110 < 0 then (some (-1)) else (some t110)))))) = some r := H
 have A3 := z0b A30
 clear A30
 by_cases c4 : t108 < 0
 ·rw [if_pos c4] at H
  have c4b0 : decide (t108 < 0) = true := decide_eq_true c4
  clear c4
  obtain rfl := Option.some.inj H
  go_enter Try.func50, Try.ntmps50
  go_wp2_with (first | ((with_reducible refine gate_dst (N := 2) rfl ?_); refine box_event ?hg (N := 2) ?hd (cs := #[.int .i64 a0_0, .int .i64 a0_1, .slice A0_2 l0_2.length c0_2, .int .i64 a0_3, .int .i64 a0_4, .slice A0_5 l0_5.length c0_5, .slice A0_6 l0_6.length c0_6]) (t := 64) ?hr ?_; (case hd => rfl); (case hg => rfl); (case hr => first | (go_simp; done) | (go_simp; rfl)); intro gb107 hg w5 hbox hb; have n0_ := z0b (y6b (by repeat (first | (with_reducible first | exact HB.out | apply z4b | apply z5b | apply z6b) | exact HB.out)) hb); have n1_ := z0b (hbox); have n2_ := z0b ((by rw [hg]; exact (y7b (by repeat (first | (with_reducible first | exact HB.out | apply z4b | apply z5b | apply z6b) | exact HB.out))) : w.heap.size ≤ gb107)); have n3_ := z0b ((by rw [hg]; exact (y7b (by repeat (first | (with_reducible first | exact HB.out | apply z4b | apply z5b | apply z6b) | exact HB.out))) : w.heap.size ≤ gb107)); clear HB; have HB := n0_; have BK107 := n1_; have GW107 := n2_; have GE107 := n3_; clear n0_ n1_ n2_ n3_; clear hb hbox hg; have hcz6_0 : w5.cell? ⟨gb107, 0, none⟩ = some (.int .i64 a0_0) := (x3b BK107.out 0).trans rfl; have hcz6_1 : w5.cell? ⟨gb107, 1, none⟩ = some (.int .i64 a0_1) := (x3b BK107.out 1).trans rfl; have hcz6_2 : w5.cell? ⟨gb107, 2, none⟩ = some (.slice A0_2 l0_2.length c0_2) := (x3b BK107.out 2).trans rfl; have hcz6_3 : w5.cell? ⟨gb107, 3, none⟩ = some (.int .i64 a0_3) := (x3b BK107.out 3).trans rfl; have hcz6_4 : w5.cell? ⟨gb107, 4, none⟩ = some (.int .i64 a0_4) := (x3b BK107.out 4).trans rfl; have hcz6_5 : w5.cell? ⟨gb107, 5, none⟩ = some (.slice A0_5 l0_5.length c0_5) := (x3b BK107.out 5).trans rfl; have hcz6_6 : w5.cell? ⟨gb107, 6, none⟩ = some (.slice A0_6 l0_6.length c0_6) := (x3b BK107.out 6).trans rfl; have hfz6_0 := x2b BK107.out 0; have hfz6_1 := x2b BK107.out 1; have hfz6_2 := x2b BK107.out 2; have hfz6_3 := x2b BK107.out 3; have hfz6_4 := x2b BK107.out 4; have hfz6_5 := x2b BK107.out 5; have hfz6_6 := x2b BK107.out 6) | ((with_reducible refine gate_callee (f := 88) rfl ?_); refine goesL_ (some 8) rfl rfl Try.func88 (by kernel_rfl) rfl #[.agg #[.int .i64 a0_0, .int .i64 a0_1, .slice A0_2 l0_2.length c0_2], .int .i64 a1] rfl (by (try simp only [List.map_toArray, List.map_cons, List.map_nil]); first | done | rfl | (simp only [List.length_drop, List.length_take]; rfl)) ?_; (with_reducible refine (laws_szPicture.calls a0_0 a0_1 _ _ l0_2 a1 t108 _ ?side1 ?side2 A3.out).mono ?_); (case side1 => repeat (first | exact HR0_2.out | exact (y9b HR0_2.out HB.out) | (with_reducible refine y2b ?_ _) | (with_reducible refine y3b ?_ _) | (with_reducible refine y4b ?_))); (case side2 => exact HC0_2.out); rintro e w7 ⟨rfl, hb⟩; refine ⟨_, rfl, ?_⟩; have n0_ := z0b (y5b (g := gb107) (o := .cells #[.int .i64 a0_0, .int .i64 a0_1, .slice A0_2 l0_2.length c0_2, .int .i64 a0_3, .int .i64 a0_4, .slice A0_5 l0_5.length c0_5, .slice A0_6 l0_6.length c0_6] 64 (0, 0)) (by (with_reducible repeat (first | refine z1b ?_ _ | refine z3b ?_ | refine z2b ?_ _)); exact BK107.out) hb); have n1_ := z0b (y6b (by repeat (first | (with_reducible first | exact HB.out | apply z4b | apply z5b | apply z6b | refine z7b ?_ GE107.out) | exact HB.out)) hb); clear BK107; clear HB; have BK107 := n0_; have HB := n1_; clear n0_ n1_; (try clear hb)))
  go_ret
  exact ⟨by first | rfl | (simp [errW_none, errW_some] <;> rfl) | (simp [*, errW_none, errW_some] <;> rfl), by repeat (first | (with_reducible first | exact HB.out | apply z4b | apply z5b | apply z6b | refine z7b ?_ GE107.out) | exact HB.out)⟩
 ·rw [if_neg c4] at H
  have c4b0 : decide (t108 < 0) = false := decide_eq_false c4
  clear c4
  replace H := Option.bind_eq_some_iff.mp H
  obtain ⟨t109, A80, H⟩ := H
  replace H : (if t109 < 0 then (some (-1)) else ((laws_szPictureS.f k l0_6 t109).bind fun t110 => (if t110 < 0 then (some (-1)) else (some t110)))) = some r := H
  have A8 := z0b A80
  clear A80
  by_cases c9 : t109 < 0
  ·rw [if_pos c9] at H
   have c9b0 : decide (t109 < 0) = true := decide_eq_true c9
   clear c9
   obtain rfl := Option.some.inj H
   go_enter Try.func50, Try.ntmps50
   go_wp2_with (first | ((with_reducible refine gate_dst (N := 2) rfl ?_); refine box_event ?hg (N := 2) ?hd (cs := #[.int .i64 a0_0, .int .i64 a0_1, .slice A0_2 l0_2.length c0_2, .int .i64 a0_3, .int .i64 a0_4, .slice A0_5 l0_5.length c0_5, .slice A0_6 l0_6.length c0_6]) (t := 64) ?hr ?_; (case hd => rfl); (case hg => rfl); (case hr => first | (go_simp; done) | (go_simp; rfl)); intro gb107 hg w10 hbox hb; have n0_ := z0b (y6b (by repeat (first | (with_reducible first | exact HB.out | apply z4b | apply z5b | apply z6b) | exact HB.out)) hb); have n1_ := z0b (hbox); have n2_ := z0b ((by rw [hg]; exact (y7b (by repeat (first | (with_reducible first | exact HB.out | apply z4b | apply z5b | apply z6b) | exact HB.out))) : w.heap.size ≤ gb107)); have n3_ := z0b ((by rw [hg]; exact (y7b (by repeat (first | (with_reducible first | exact HB.out | apply z4b | apply z5b | apply z6b) | exact HB.out))) : w.heap.size ≤ gb107)); clear HB; have HB := n0_; have BK107 := n1_; have GW107 := n2_; have GE107 := n3_; clear n0_ n1_ n2_ n3_; clear hb hbox hg; have hcz11_0 : w10.cell? ⟨gb107, 0, none⟩ = some (.int .i64 a0_0) := (x3b BK107.out 0).trans rfl; have hcz11_1 : w10.cell? ⟨gb107, 1, none⟩ = some (.int .i64 a0_1) := (x3b BK107.out 1).trans rfl; have hcz11_2 : w10.cell? ⟨gb107, 2, none⟩ = some (.slice A0_2 l0_2.length c0_2) := (x3b BK107.out 2).trans rfl; have hcz11_3 : w10.cell? ⟨gb107, 3, none⟩ = some (.int .i64 a0_3) := (x3b BK107.out 3).trans rfl; have hcz11_4 : w10.cell? ⟨gb107, 4, none⟩ = some (.int .i64 a0_4) := (x3b BK107.out 4).trans rfl; have hcz11_5 : w10.cell? ⟨gb107, 5, none⟩ = some (.slice A0_5 l0_5.length c0_5) := (x3b BK107.out 5).trans rfl; have hcz11_6 : w10.cell? ⟨gb107, 6, none⟩ = some (.slice A0_6 l0_6.length c0_6) := (x3b BK107.out 6).trans rfl; have hfz11_0 := x2b BK107.out 0; have hfz11_1 := x2b BK107.out 1; have hfz11_2 := x2b BK107.out 2; have hfz11_3 := x2b BK107.out 3; have hfz11_4 := x2b BK107.out 4; have hfz11_5 := x2b BK107.out 5; have hfz11_6 := x2b BK107.out 6) | ((with_reducible refine gate_callee (f := 88) rfl ?_); refine goesL_ (some 8) rfl rfl Try.func88 (by kernel_rfl) rfl #[.agg #[.int .i64 a0_0, .int .i64 a0_1, .slice A0_2 l0_2.length c0_2], .int .i64 a1] rfl (by (try simp only [List.map_toArray, List.map_cons, List.map_nil]); first | done | rfl | (simp only [List.length_drop, List.length_take]; rfl)) ?_; (with_reducible refine (laws_szPicture.calls a0_0 a0_1 _ _ l0_2 a1 t108 _ ?side1 ?side2 A3.out).mono ?_); (case side1 => repeat (first | exact HR0_2.out | exact (y9b HR0_2.out HB.out) | (with_reducible refine y2b ?_ _) | (with_reducible refine y3b ?_ _) | (with_reducible refine y4b ?_))); (case side2 => exact HC0_2.out); rintro e w12 ⟨rfl, hb⟩; refine ⟨_, rfl, ?_⟩; have n0_ := z0b (y5b (g := gb107) (o := .cells #[.int .i64 a0_0, .int .i64 a0_1, .slice A0_2 l0_2.length c0_2, .int .i64 a0_3, .int .i64 a0_4, .slice A0_5 l0_5.length c0_5, .slice A0_6 l0_6.length c0_6] 64 (0, 0)) (by (with_reducible repeat (first | refine z1b ?_ _ | refine z3b ?_ | refine z2b ?_ _)); exact BK107.out) hb); have n1_ := z0b (y6b (by repeat (first | (with_reducible first | exact HB.out | apply z4b | apply z5b | apply z6b | refine z7b ?_ GE107.out) | exact HB.out)) hb); clear BK107; clear HB; have BK107 := n0_; have HB := n1_; clear n0_ n1_; (try clear hb); have hcz13_0 : w12.cell? ⟨gb107, 0, none⟩ = some (.int .i64 a0_0) := (x3b BK107.out 0).trans rfl; have hcz13_1 : w12.cell? ⟨gb107, 1, none⟩ = some (.int .i64 a0_1) := (x3b BK107.out 1).trans rfl; have hcz13_2 : w12.cell? ⟨gb107, 2, none⟩ = some (.slice A0_2 l0_2.length c0_2) := (x3b BK107.out 2).trans rfl; have hcz13_3 : w12.cell? ⟨gb107, 3, none⟩ = some (.int .i64 a0_3) := (x3b BK107.out 3).trans rfl; have hcz13_4 : w12.cell? ⟨gb107, 4, none⟩ = some (.int .i64 a0_4) := (x3b BK107.out 4).trans rfl; have hcz13_5 : w12.cell? ⟨gb107, 5, none⟩ = some (.slice A0_5 l0_5.length c0_5) := (x3b BK107.out 5).trans rfl; have hcz13_6 : w12.cell? ⟨gb107, 6, none⟩ = some (.slice A0_6 l0_6.length c0_6) := (x3b BK107.out 6).trans rfl; have hfz13_0 := x2b BK107.out 0; have hfz13_1 := x2b BK107.out 1; have hfz13_2 := x2b BK107.out 2; have hfz13_3 := x2b BK107.out 3; have hfz13_4 := x2b BK107.out 4; have hfz13_5 := x2b BK107.out 5; have hfz13_6 := x2b BK107.out 6) | ((with_reducible refine gate_callee (f := 89) rfl ?_); refine goesL_ (some 14) rfl rfl Try.func89 (by kernel_rfl) rfl #[.agg #[.int .i64 a0_3, .int .i64 a0_4, .slice A0_5 l0_5.length c0_5], .int .i64 t108] rfl (by (try simp only [List.map_toArray, List.map_cons, List.map_nil]); first | done | rfl | (simp only [List.length_drop, List.length_take]; rfl)) ?_; (with_reducible refine (laws_szMatrix.calls a0_3 a0_4 _ _ l0_5 t108 t109 _ ?side1 ?side2 A8.out).mono ?_); (case side1 => repeat (first | exact HR0_5.out | exact (y9b HR0_5.out HB.out) | (with_reducible refine y2b ?_ _) | (with_reducible refine y3b ?_ _) | (with_reducible refine y4b ?_))); (case side2 => exact HC0_5.out); rintro e w14 ⟨rfl, hb⟩; refine ⟨_, rfl, ?_⟩; have n0_ := z0b (y5b (g := gb107) (o := .cells #[.int .i64 a0_0, .int .i64 a0_1, .slice A0_2 l0_2.length c0_2, .int .i64 a0_3, .int .i64 a0_4, .slice A0_5 l0_5.length c0_5, .slice A0_6 l0_6.length c0_6] 64 (0, 0)) (by (with_reducible repeat (first | refine z1b ?_ _ | refine z3b ?_ | refine z2b ?_ _)); exact BK107.out) hb); have n1_ := z0b (y6b (by repeat (first | (with_reducible first | exact HB.out | apply z4b | apply z5b | apply z6b | refine z7b ?_ GE107.out) | exact HB.out)) hb); clear BK107; clear HB; have BK107 := n0_; have HB := n1_; clear n0_ n1_; (try clear hb)))
   go_ret
   exact ⟨by first | rfl | (simp [errW_none, errW_some] <;> rfl) | (simp [*, errW_none, errW_some] <;> rfl), by repeat (first | (with_reducible first | exact HB.out | apply z4b | apply z5b | apply z6b | refine z7b ?_ GE107.out) | exact HB.out)⟩
  ·rw [if_neg c9] at H
   have c9b0 : decide (t109 < 0) = false := decide_eq_false c9
   clear c9
   replace H := Option.bind_eq_some_iff.mp H
   obtain ⟨t110, A150, H⟩ := H
   replace H : (if t110 < 0 then (some (-1)) else (some t110)) = some r := H
   have A15 := z0b A150
   clear A150
   by_cases c16 : t110 < 0
   ·rw [if_pos c16] at H
    have c16b0 : decide (t110 < 0) = true := decide_eq_true c16
    clear c16
    obtain rfl := Option.some.inj H
    go_enter Try.func50, Try.ntmps50
    go_wp2_with (first | ((with_reducible refine gate_dst (N := 2) rfl ?_); refine box_event ?hg (N := 2) ?hd (cs := #[.int .i64 a0_0, .int .i64 a0_1, .slice A0_2 l0_2.length c0_2, .int .i64 a0_3, .int .i64 a0_4, .slice A0_5 l0_5.length c0_5, .slice A0_6 l0_6.length c0_6]) (t := 64) ?hr ?_; (case hd => rfl); (case hg => rfl); (case hr => first | (go_simp; done) | (go_simp; rfl)); intro gb107 hg w17 hbox hb; have n0_ := z0b (y6b (by repeat (first | (with_reducible first | exact HB.out | apply z4b | apply z5b | apply z6b) | exact HB.out)) hb); have n1_ := z0b (hbox); have n2_ := z0b ((by rw [hg]; exact (y7b (by repeat (first | (with_reducible first | exact HB.out | apply z4b | apply z5b | apply z6b) | exact HB.out))) : w.heap.size ≤ gb107)); have n3_ := z0b ((by rw [hg]; exact (y7b (by repeat (first | (with_reducible first | exact HB.out | apply z4b | apply z5b | apply z6b) | exact HB.out))) : w.heap.size ≤ gb107)); clear HB; have HB := n0_; have BK107 := n1_; have GW107 := n2_; have GE107 := n3_; clear n0_ n1_ n2_ n3_; clear hb hbox hg; have hcz18_0 : w17.cell? ⟨gb107, 0, none⟩ = some (.int .i64 a0_0) := (x3b BK107.out 0).trans rfl; have hcz18_1 : w17.cell? ⟨gb107, 1, none⟩ = some (.int .i64 a0_1) := (x3b BK107.out 1).trans rfl; have hcz18_2 : w17.cell? ⟨gb107, 2, none⟩ = some (.slice A0_2 l0_2.length c0_2) := (x3b BK107.out 2).trans rfl; have hcz18_3 : w17.cell? ⟨gb107, 3, none⟩ = some (.int .i64 a0_3) := (x3b BK107.out 3).trans rfl; have hcz18_4 : w17.cell? ⟨gb107, 4, none⟩ = some (.int .i64 a0_4) := (x3b BK107.out 4).trans rfl; have hcz18_5 : w17.cell? ⟨gb107, 5, none⟩ = some (.slice A0_5 l0_5.length c0_5) := (x3b BK107.out 5).trans rfl; have hcz18_6 : w17.cell? ⟨gb107, 6, none⟩ = some (.slice A0_6 l0_6.length c0_6) := (x3b BK107.out 6).trans rfl; have hfz18_0 := x2b BK107.out 0; have hfz18_1 := x2b BK107.out 1; have hfz18_2 := x2b BK107.out 2; have hfz18_3 := x2b BK107.out 3; have hfz18_4 := x2b BK107.out 4; have hfz18_5 := x2b BK107.out 5; have hfz18_6 := x2b BK107.out 6) | ((with_reducible refine gate_callee (f := 88) rfl ?_); refine goesL_ (some 8) rfl rfl Try.func88 (by kernel_rfl) rfl #[.agg #[.int .i64 a0_0, .int .i64 a0_1, .slice A0_2 l0_2.length c0_2], .int .i64 a1] rfl (by (try simp only [List.map_toArray, List.map_cons, List.map_nil]); first | done | rfl | (simp only [List.length_drop, List.length_take]; rfl)) ?_; (with_reducible refine (laws_szPicture.calls a0_0 a0_1 _ _ l0_2 a1 t108 _ ?side1 ?side2 A3.out).mono ?_); (case side1 => repeat (first | exact HR0_2.out | exact (y9b HR0_2.out HB.out) | (with_reducible refine y2b ?_ _) | (with_reducible refine y3b ?_ _) | (with_reducible refine y4b ?_))); (case side2 => exact HC0_2.out); rintro e w19 ⟨rfl, hb⟩; refine ⟨_, rfl, ?_⟩; have n0_ := z0b (y5b (g := gb107) (o := .cells #[.int .i64 a0_0, .int .i64 a0_1, .slice A0_2 l0_2.length c0_2, .int .i64 a0_3, .int .i64 a0_4, .slice A0_5 l0_5.length c0_5, .slice A0_6 l0_6.length c0_6] 64 (0, 0)) (by (with_reducible repeat (first | refine z1b ?_ _ | refine z3b ?_ | refine z2b ?_ _)); exact BK107.out) hb); have n1_ := z0b (y6b (by repeat (first | (with_reducible first | exact HB.out | apply z4b | apply z5b | apply z6b | refine z7b ?_ GE107.out) | exact HB.out)) hb); clear BK107; clear HB; have BK107 := n0_; have HB := n1_; clear n0_ n1_; (try clear hb); have hcz20_0 : w19.cell? ⟨gb107, 0, none⟩ = some (.int .i64 a0_0) := (x3b BK107.out 0).trans rfl; have hcz20_1 : w19.cell? ⟨gb107, 1, none⟩ = some (.int .i64 a0_1) := (x3b BK107.out 1).trans rfl; have hcz20_2 : w19.cell? ⟨gb107, 2, none⟩ = some (.slice A0_2 l0_2.length c0_2) := (x3b BK107.out 2).trans rfl; have hcz20_3 : w19.cell? ⟨gb107, 3, none⟩ = some (.int .i64 a0_3) := (x3b BK107.out 3).trans rfl; have hcz20_4 : w19.cell? ⟨gb107, 4, none⟩ = some (.int .i64 a0_4) := (x3b BK107.out 4).trans rfl; have hcz20_5 : w19.cell? ⟨gb107, 5, none⟩ = some (.slice A0_5 l0_5.length c0_5) := (x3b BK107.out 5).trans rfl; have hcz20_6 : w19.cell? ⟨gb107, 6, none⟩ = some (.slice A0_6 l0_6.length c0_6) := (x3b BK107.out 6).trans rfl; have hfz20_0 := x2b BK107.out 0; have hfz20_1 := x2b BK107.out 1; have hfz20_2 := x2b BK107.out 2; have hfz20_3 := x2b BK107.out 3; have hfz20_4 := x2b BK107.out 4; have hfz20_5 := x2b BK107.out 5; have hfz20_6 := x2b BK107.out 6) | ((with_reducible refine gate_callee (f := 89) rfl ?_); refine goesL_ (some 14) rfl rfl Try.func89 (by kernel_rfl) rfl #[.agg #[.int .i64 a0_3, .int .i64 a0_4, .slice A0_5 l0_5.length c0_5], .int .i64 t108] rfl (by (try simp only [List.map_toArray, List.map_cons, List.map_nil]); first | done | rfl | (simp only [List.length_drop, List.length_take]; rfl)) ?_; (with_reducible refine (laws_szMatrix.calls a0_3 a0_4 _ _ l0_5 t108 t109 _ ?side1 ?side2 A8.out).mono ?_); (case side1 => repeat (first | exact HR0_5.out | exact (y9b HR0_5.out HB.out) | (with_reducible refine y2b ?_ _) | (with_reducible refine y3b ?_ _) | (with_reducible refine y4b ?_))); (case side2 => exact HC0_5.out); rintro e w21 ⟨rfl, hb⟩; refine ⟨_, rfl, ?_⟩; have n0_ := z0b (y5b (g := gb107) (o := .cells #[.int .i64 a0_0, .int .i64 a0_1, .slice A0_2 l0_2.length c0_2, .int .i64 a0_3, .int .i64 a0_4, .slice A0_5 l0_5.length c0_5, .slice A0_6 l0_6.length c0_6] 64 (0, 0)) (by (with_reducible repeat (first | refine z1b ?_ _ | refine z3b ?_ | refine z2b ?_ _)); exact BK107.out) hb); have n1_ := z0b (y6b (by repeat (first | (with_reducible first | exact HB.out | apply z4b | apply z5b | apply z6b | refine z7b ?_ GE107.out) | exact HB.out)) hb); clear BK107; clear HB; have BK107 := n0_; have HB := n1_; clear n0_ n1_; (try clear hb); have hcz22_0 : w21.cell? ⟨gb107, 0, none⟩ = some (.int .i64 a0_0) := (x3b BK107.out 0).trans rfl; have hcz22_1 : w21.cell? ⟨gb107, 1, none⟩ = some (.int .i64 a0_1) := (x3b BK107.out 1).trans rfl; have hcz22_2 : w21.cell? ⟨gb107, 2, none⟩ = some (.slice A0_2 l0_2.length c0_2) := (x3b BK107.out 2).trans rfl; have hcz22_3 : w21.cell? ⟨gb107, 3, none⟩ = some (.int .i64 a0_3) := (x3b BK107.out 3).trans rfl; have hcz22_4 : w21.cell? ⟨gb107, 4, none⟩ = some (.int .i64 a0_4) := (x3b BK107.out 4).trans rfl; have hcz22_5 : w21.cell? ⟨gb107, 5, none⟩ = some (.slice A0_5 l0_5.length c0_5) := (x3b BK107.out 5).trans rfl; have hcz22_6 : w21.cell? ⟨gb107, 6, none⟩ = some (.slice A0_6 l0_6.length c0_6) := (x3b BK107.out 6).trans rfl; have hfz22_0 := x2b BK107.out 0; have hfz22_1 := x2b BK107.out 1; have hfz22_2 := x2b BK107.out 2; have hfz22_3 := x2b BK107.out 3; have hfz22_4 := x2b BK107.out 4; have hfz22_5 := x2b BK107.out 5; have hfz22_6 := x2b BK107.out 6) | ((with_reducible refine gate_callee (f := 90) rfl ?_); refine goesL_ (some 20) rfl rfl Try.func90 (by kernel_rfl) rfl #[.slice A0_6 l0_6.length c0_6, .int .i64 t109] rfl (by (try simp only [List.map_toArray, List.map_cons, List.map_nil]); first | done | rfl | (simp only [List.length_drop, List.length_take]; rfl)) ?_; (with_reducible refine (laws_szPictureS.calls k _ _ l0_6 t109 t110 _ ?side1 ?side2 A15.out).mono ?_); (case side1 => repeat (first | exact HR0_6.out | exact (y9b HR0_6.out HB.out) | (with_reducible refine y2b ?_ _) | (with_reducible refine y3b ?_ _) | (with_reducible refine y4b ?_))); (case side2 => exact HC0_6.out); rintro e w23 ⟨rfl, hb⟩; refine ⟨_, rfl, ?_⟩; have n0_ := z0b (y5b (g := gb107) (o := .cells #[.int .i64 a0_0, .int .i64 a0_1, .slice A0_2 l0_2.length c0_2, .int .i64 a0_3, .int .i64 a0_4, .slice A0_5 l0_5.length c0_5, .slice A0_6 l0_6.length c0_6] 64 (0, 0)) (by (with_reducible repeat (first | refine z1b ?_ _ | refine z3b ?_ | refine z2b ?_ _)); exact BK107.out) hb); have n1_ := z0b (y6b (by repeat (first | (with_reducible first | exact HB.out | apply z4b | apply z5b | apply z6b | refine z7b ?_ GE107.out) | exact HB.out)) hb); clear BK107; clear HB; have BK107 := n0_; have HB := n1_; clear n0_ n1_; (try clear hb)))
    go_ret
    exact ⟨by first | rfl | (simp [errW_none, errW_some] <;> rfl) | (simp [*, errW_none, errW_some] <;> rfl), by repeat (first | (with_reducible first | exact HB.out | apply z4b | apply z5b | apply z6b | refine z7b ?_ GE107.out) | exact HB.out)⟩
   ·rw [if_neg c16] at H
    have c16b0 : decide (t110 < 0) = false := decide_eq_false c16
    clear c16
    obtain rfl := Option.some.inj H
    go_enter Try.func50, Try.ntmps50
    go_wp2_with (first | ((with_reducible refine gate_dst (N := 2) rfl ?_); refine box_event ?hg (N := 2) ?hd (cs := #[.int .i64 a0_0, .int .i64 a0_1, .slice A0_2 l0_2.length c0_2, .int .i64 a0_3, .int .i64 a0_4, .slice A0_5 l0_5.length c0_5, .slice A0_6 l0_6.length c0_6]) (t := 64) ?hr ?_; (case hd => rfl); (case hg => rfl); (case hr => first | (go_simp; done) | (go_simp; rfl)); intro gb107 hg w24 hbox hb; have n0_ := z0b (y6b (by repeat (first | (with_reducible first | exact HB.out | apply z4b | apply z5b | apply z6b) | exact HB.out)) hb); have n1_ := z0b (hbox); have n2_ := z0b ((by rw [hg]; exact (y7b (by repeat (first | (with_reducible first | exact HB.out | apply z4b | apply z5b | apply z6b) | exact HB.out))) : w.heap.size ≤ gb107)); have n3_ := z0b ((by rw [hg]; exact (y7b (by repeat (first | (with_reducible first | exact HB.out | apply z4b | apply z5b | apply z6b) | exact HB.out))) : w.heap.size ≤ gb107)); clear HB; have HB := n0_; have BK107 := n1_; have GW107 := n2_; have GE107 := n3_; clear n0_ n1_ n2_ n3_; clear hb hbox hg; have hcz25_0 : w24.cell? ⟨gb107, 0, none⟩ = some (.int .i64 a0_0) := (x3b BK107.out 0).trans rfl; have hcz25_1 : w24.cell? ⟨gb107, 1, none⟩ = some (.int .i64 a0_1) := (x3b BK107.out 1).trans rfl; have hcz25_2 : w24.cell? ⟨gb107, 2, none⟩ = some (.slice A0_2 l0_2.length c0_2) := (x3b BK107.out 2).trans rfl; have hcz25_3 : w24.cell? ⟨gb107, 3, none⟩ = some (.int .i64 a0_3) := (x3b BK107.out 3).trans rfl; have hcz25_4 : w24.cell? ⟨gb107, 4, none⟩ = some (.int .i64 a0_4) := (x3b BK107.out 4).trans rfl; have hcz25_5 : w24.cell? ⟨gb107, 5, none⟩ = some (.slice A0_5 l0_5.length c0_5) := (x3b BK107.out 5).trans rfl; have hcz25_6 : w24.cell? ⟨gb107, 6, none⟩ = some (.slice A0_6 l0_6.length c0_6) := (x3b BK107.out 6).trans rfl; have hfz25_0 := x2b BK107.out 0; have hfz25_1 := x2b BK107.out 1; have hfz25_2 := x2b BK107.out 2; have hfz25_3 := x2b BK107.out 3; have hfz25_4 := x2b BK107.out 4; have hfz25_5 := x2b BK107.out 5; have hfz25_6 := x2b BK107.out 6) | ((with_reducible refine gate_callee (f := 88) rfl ?_); refine goesL_ (some 8) rfl rfl Try.func88 (by kernel_rfl) rfl #[.agg #[.int .i64 a0_0, .int .i64 a0_1, .slice A0_2 l0_2.length c0_2], .int .i64 a1] rfl (by (try simp only [List.map_toArray, List.map_cons, List.map_nil]); first | done | rfl | (simp only [List.length_drop, List.length_take]; rfl)) ?_; (with_reducible refine (laws_szPicture.calls a0_0 a0_1 _ _ l0_2 a1 t108 _ ?side1 ?side2 A3.out).mono ?_); (case side1 => repeat (first | exact HR0_2.out | exact (y9b HR0_2.out HB.out) | (with_reducible refine y2b ?_ _) | (with_reducible refine y3b ?_ _) | (with_reducible refine y4b ?_))); (case side2 => exact HC0_2.out); rintro e w26 ⟨rfl, hb⟩; refine ⟨_, rfl, ?_⟩; have n0_ := z0b (y5b (g := gb107) (o := .cells #[.int .i64 a0_0, .int .i64 a0_1, .slice A0_2 l0_2.length c0_2, .int .i64 a0_3, .int .i64 a0_4, .slice A0_5 l0_5.length c0_5, .slice A0_6 l0_6.length c0_6] 64 (0, 0)) (by (with_reducible repeat (first | refine z1b ?_ _ | refine z3b ?_ | refine z2b ?_ _)); exact BK107.out) hb); have n1_ := z0b (y6b (by repeat (first | (with_reducible first | exact HB.out | apply z4b | apply z5b | apply z6b | refine z7b ?_ GE107.out) | exact HB.out)) hb); clear BK107; clear HB; have BK107 := n0_; have HB := n1_; clear n0_ n1_; (try clear hb); have hcz27_0 : w26.cell? ⟨gb107, 0, none⟩ = some (.int .i64 a0_0) := (x3b BK107.out 0).trans rfl; have hcz27_1 : w26.cell? ⟨gb107, 1, none⟩ = some (.int .i64 a0_1) := (x3b BK107.out 1).trans rfl; have hcz27_2 : w26.cell? ⟨gb107, 2, none⟩ = some (.slice A0_2 l0_2.length c0_2) := (x3b BK107.out 2).trans rfl; have hcz27_3 : w26.cell? ⟨gb107, 3, none⟩ = some (.int .i64 a0_3) := (x3b BK107.out 3).trans rfl; have hcz27_4 : w26.cell? ⟨gb107, 4, none⟩ = some (.int .i64 a0_4) := (x3b BK107.out 4).trans rfl; have hcz27_5 : w26.cell? ⟨gb107, 5, none⟩ = some (.slice A0_5 l0_5.length c0_5) := (x3b BK107.out 5).trans rfl; have hcz27_6 : w26.cell? ⟨gb107, 6, none⟩ = some (.slice A0_6 l0_6.length c0_6) := (x3b BK107.out 6).trans rfl; have hfz27_0 := x2b BK107.out 0; have hfz27_1 := x2b BK107.out 1; have hfz27_2 := x2b BK107.out 2; have hfz27_3 := x2b BK107.out 3; have hfz27_4 := x2b BK107.out 4; have hfz27_5 := x2b BK107.out 5; have hfz27_6 := x2b BK107.out 6) | ((with_reducible refine gate_callee (f := 89) rfl ?_); refine goesL_ (some 14) rfl rfl Try.func89 (by kernel_rfl) rfl #[.agg #[.int .i64 a0_3, .int .i64 a0_4, .slice A0_5 l0_5.length c0_5], .int .i64 t108] rfl (by (try simp only [List.map_toArray, List.map_cons, List.map_nil]); first | done | rfl | (simp only [List.length_drop, List.length_take]; rfl)) ?_; (with_reducible refine (laws_szMatrix.calls a0_3 a0_4 _ _ l0_5 t108 t109 _ ?side1 ?side2 A8.out).mono ?_); (case side1 => repeat (first | exact HR0_5.out | exact (y9b HR0_5.out HB.out) | (with_reducible refine y2b ?_ _) | (with_reducible refine y3b ?_ _) | (with_reducible refine y4b ?_))); (case side2 => exact HC0_5.out); rintro e w28 ⟨rfl, hb⟩; refine ⟨_, rfl, ?_⟩; have n0_ := z0b (y5b (g := gb107) (o := .cells #[.int .i64 a0_0, .int .i64 a0_1, .slice A0_2 l0_2.length c0_2, .int .i64 a0_3, .int .i64 a0_4, .slice A0_5 l0_5.length c0_5, .slice A0_6 l0_6.length c0_6] 64 (0, 0)) (by (with_reducible repeat (first | refine z1b ?_ _ | refine z3b ?_ | refine z2b ?_ _)); exact BK107.out) hb); have n1_ := z0b (y6b (by repeat (first | (with_reducible first | exact HB.out | apply z4b | apply z5b | apply z6b | refine z7b ?_ GE107.out) | exact HB.out)) hb); clear BK107; clear HB; have BK107 := n0_; have HB := n1_; clear n0_ n1_; (try clear hb); have hcz29_0 : w28.cell? ⟨gb107, 0, none⟩ = some (.int .i64 a0_0) := (x3b BK107.out 0).trans rfl; have hcz29_1 : w28.cell? ⟨gb107, 1, none⟩ = some (.int .i64 a0_1) := (x3b BK107.out 1).trans rfl; have hcz29_2 : w28.cell? ⟨gb107, 2, none⟩ = some (.slice A0_2 l0_2.length c0_2) := (x3b BK107.out 2).trans rfl; have hcz29_3 : w28.cell? ⟨gb107, 3, none⟩ = some (.int .i64 a0_3) := (x3b BK107.out 3).trans rfl; have hcz29_4 : w28.cell? ⟨gb107, 4, none⟩ = some (.int .i64 a0_4) := (x3b BK107.out 4).trans rfl; have hcz29_5 : w28.cell? ⟨gb107, 5, none⟩ = some (.slice A0_5 l0_5.length c0_5) := (x3b BK107.out 5).trans rfl; have hcz29_6 : w28.cell? ⟨gb107, 6, none⟩ = some (.slice A0_6 l0_6.length c0_6) := (x3b BK107.out 6).trans rfl; have hfz29_0 := x2b BK107.out 0; have hfz29_1 := x2b BK107.out 1; have hfz29_2 := x2b BK107.out 2; have hfz29_3 := x2b BK107.out 3; have hfz29_4 := x2b BK107.out 4; have hfz29_5 := x2b BK107.out 5; have hfz29_6 := x2b BK107.out 6) | ((with_reducible refine gate_callee (f := 90) rfl ?_); refine goesL_ (some 20) rfl rfl Try.func90 (by kernel_rfl) rfl #[.slice A0_6 l0_6.length c0_6, .int .i64 t109] rfl (by (try simp only [List.map_toArray, List.map_cons, List.map_nil]); first | done | rfl | (simp only [List.length_drop, List.length_take]; rfl)) ?_; (with_reducible refine (laws_szPictureS.calls k _ _ l0_6 t109 t110 _ ?side1 ?side2 A15.out).mono ?_); (case side1 => repeat (first | exact HR0_6.out | exact (y9b HR0_6.out HB.out) | (with_reducible refine y2b ?_ _) | (with_reducible refine y3b ?_ _) | (with_reducible refine y4b ?_))); (case side2 => exact HC0_6.out); rintro e w30 ⟨rfl, hb⟩; refine ⟨_, rfl, ?_⟩; have n0_ := z0b (y5b (g := gb107) (o := .cells #[.int .i64 a0_0, .int .i64 a0_1, .slice A0_2 l0_2.length c0_2, .int .i64 a0_3, .int .i64 a0_4, .slice A0_5 l0_5.length c0_5, .slice A0_6 l0_6.length c0_6] 64 (0, 0)) (by (with_reducible repeat (first | refine z1b ?_ _ | refine z3b ?_ | refine z2b ?_ _)); exact BK107.out) hb); have n1_ := z0b (y6b (by repeat (first | (with_reducible first | exact HB.out | apply z4b | apply z5b | apply z6b | refine z7b ?_ GE107.out) | exact HB.out)) hb); clear BK107; clear HB; have BK107 := n0_; have HB := n1_; clear n0_ n1_; (try clear hb)))
    go_ret
    exact ⟨by first | rfl | (simp [errW_none, errW_some] <;> rfl) | (simp [*, errW_none, errW_some] <;> rfl), by repeat (first | (with_reducible first | exact HB.out | apply z4b | apply z5b | apply z6b | refine z7b ?_ GE107.out) | exact HB.out)⟩

/-! ### spec_l1In: function 72 -/
def spec_l1In.f (a0 : Int) (a1 : Int) (a2 : Int) : Option (Bool) := if a0 ≥ a1 then (some (decide (a0 ≤ a2))) else (some false)
set_option maxHeartbeats 8000000 in
set_option maxRecDepth 100000 in
theorem spec_l1In.calls (a0 : Int) (a1 : Int) (a2 : Int) (r : Bool) (w : World) (h : spec_l1In.f a0 a1 a2 = some r) :
  Calls Try.prog 72 #[.int .i64 a0, .int .i64 a1, .int .i64 a2] w fun e w' => e = .returned (.bool r) ∧ Drawn0 w w' := by
 have H : (if a0 ≥ a1 then (some (decide (a0 ≤ a2))) else (some false)) = some r := h
 clear h
 by_cases c4 : a0 ≥ a1
 ·rw [if_pos c4] at H
  have c4b0 : decide (a1 ≤ a0) = true := decide_eq_true c4
  clear c4
  obtain rfl := Option.some.inj H
  go_enter Try.func72, Try.ntmps72
  go_wp2
  go_ret
  exact ⟨by first | rfl | (simp; done) | (simp [*]; done), by repeat (first | exact Drawn0.refl _ | apply Drawn0.step)⟩
 ·rw [if_neg c4] at H
  have c4b0 : decide (a1 ≤ a0) = false := decide_eq_false c4
  clear c4
  obtain rfl := Option.some.inj H
  go_enter Try.func72, Try.ntmps72
  go_wp2
  go_ret
  exact ⟨by first | rfl | (simp; done) | (simp [*]; done), by repeat (first | exact Drawn0.refl _ | apply Drawn0.step)⟩

/-! ### spec_l2Shape: function 71 -/
def spec_l2Shape.f (a0 : Int) (a1 : Int) : Option (Bool) := (spec_l1In.f a0 1 256).bind fun t111 => (if t111 = true then ((spec_l1In.f a1 1 256).bind fun t112 => (if t112 = true then (some (decide ((wrap64 (a0 * a1)) ≤ 256))) else (some false))) else (some false))
set_option maxHeartbeats 8000000 in
set_option maxRecDepth 100000 in
theorem spec_l2Shape.calls (a0 : Int) (a1 : Int) (r : Bool) (w : World) (h : spec_l2Shape.f a0 a1 = some r) :
  Calls Try.prog 71 #[.int .i64 a0, .int .i64 a1] w fun e w' => e = .returned (.bool r) ∧ Drawn0 w w' := by
 have H : ((spec_l1In.f a0 1 256).bind fun t111 => (if t111 = true then ((spec_l1In.f a1 1 256).bind fun t112 => (if t112 = true then (some (decide ((wrap64 (a0 * a1)) ≤ 256))) else (some false))) else (some false))) = some r := h
 clear h
 replace H := Option.bind_eq_some_iff.mp H
 obtain ⟨t111, A30, H⟩ := H
 replace H : (if t111 = true then ((spec_l1In.f a1 1 256).bind fun t112 => (if t112 = true then (some (decide ((wrap64 (a0 * a1)) ≤ 256))) else (some false))) else (some false)) = some r := H
 have A3 := z0b A30
 clear A30
 by_cases c4 : t111 = true
 ·subst c4
  have H1 : ((spec_l1In.f a1 1 256).bind fun t112 => (if t112 = true then (some (decide ((wrap64 (a0 * a1)) ≤ 256))) else (some false))) = some r := by rw [if_pos rfl] at H; first | exact H | (simp only [if_true] at H ⊢; exact H)
  clear H
  have H := H1
  clear H1
  replace H := Option.bind_eq_some_iff.mp H
  obtain ⟨t112, A50, H⟩ := H
  replace H : (if t112 = true then (some (decide ((wrap64 (a0 * a1)) ≤ 256))) else (some false)) = some r := H
  have A5 := z0b A50
  clear A50
  by_cases c6 : t112 = true
  ·subst c6
   have H1 : (some (decide ((wrap64 (a0 * a1)) ≤ 256))) = some r := by rw [if_pos rfl] at H; first | exact H | (simp only [if_true] at H ⊢; exact H)
   clear H
   have H := H1
   clear H1
   obtain rfl := Option.some.inj H
   go_enter Try.func71, Try.ntmps71
   go_wp2_with (first | ((with_reducible refine gate_callee (f := 72) rfl ?_); refine goesL_ (some 6) rfl rfl Try.func72 (by kernel_rfl) rfl #[.int .i64 a0, .int .i64 1, .int .i64 256] rfl (by (try simp only [List.map_toArray, List.map_cons, List.map_nil]); first | done | rfl | (simp only [List.length_drop, List.length_take]; rfl)) ?_; (with_reducible refine (spec_l1In.calls a0 1 256 true _ A3.out).mono ?_); rintro e w' ⟨rfl, ⟨nd, rfl⟩⟩; refine ⟨_, rfl, ?_⟩) | (go_at_call 72; (with_reducible refine (spec_l1In.calls a1 1 256 true _ A5.out).mono ?_); rintro e w' ⟨rfl, ⟨nd, rfl⟩⟩))
   go_ret
   exact ⟨by first | rfl | (simp; done) | (simp [*]; done), by repeat (first | exact Drawn0.refl _ | apply Drawn0.step)⟩
  ·replace c6 := Bool.eq_false_iff.mpr c6
   subst c6
   have H1 : (some false) = some r := by rw [if_neg (show ¬ (false = true) by decide)] at H; first | exact H | (simp only [if_true] at H ⊢; exact H)
   clear H
   have H := H1
   clear H1
   obtain rfl := Option.some.inj H
   go_enter Try.func71, Try.ntmps71
   go_wp2_with (first | ((with_reducible refine gate_callee (f := 72) rfl ?_); refine goesL_ (some 6) rfl rfl Try.func72 (by kernel_rfl) rfl #[.int .i64 a0, .int .i64 1, .int .i64 256] rfl (by (try simp only [List.map_toArray, List.map_cons, List.map_nil]); first | done | rfl | (simp only [List.length_drop, List.length_take]; rfl)) ?_; (with_reducible refine (spec_l1In.calls a0 1 256 true _ A3.out).mono ?_); rintro e w' ⟨rfl, ⟨nd, rfl⟩⟩; refine ⟨_, rfl, ?_⟩) | (go_at_call 72; (with_reducible refine (spec_l1In.calls a1 1 256 false _ A5.out).mono ?_); rintro e w' ⟨rfl, ⟨nd, rfl⟩⟩))
   go_ret
   exact ⟨by first | rfl | (simp; done) | (simp [*]; done), by repeat (first | exact Drawn0.refl _ | apply Drawn0.step)⟩
 ·replace c4 := Bool.eq_false_iff.mpr c4
  subst c4
  have H1 : (some false) = some r := by rw [if_neg (show ¬ (false = true) by decide)] at H; first | exact H | (simp only [if_true] at H ⊢; exact H)
  clear H
  have H := H1
  clear H1
  obtain rfl := Option.some.inj H
  go_enter Try.func71, Try.ntmps71
  go_wp2_with (first | ((with_reducible refine gate_callee (f := 72) rfl ?_); refine goesL_ (some 6) rfl rfl Try.func72 (by kernel_rfl) rfl #[.int .i64 a0, .int .i64 1, .int .i64 256] rfl (by (try simp only [List.map_toArray, List.map_cons, List.map_nil]); first | done | rfl | (simp only [List.length_drop, List.length_take]; rfl)) ?_; (with_reducible refine (spec_l1In.calls a0 1 256 false _ A3.out).mono ?_); rintro e w' ⟨rfl, ⟨nd, rfl⟩⟩; refine ⟨_, rfl, ?_⟩))
  go_ret
  exact ⟨by first | rfl | (simp; done) | (simp [*]; done), by repeat (first | exact Drawn0.refl _ | apply Drawn0.step)⟩

/-! ### spec_IsMatrix: function 26 -/
mutual
def spec_IsMatrix.j0 : Nat → Bool → Int → Int → List Int → Option (Bool)
 | 0, _, _, _, _ => none
 | k + 1, x22, x114000, x114001, x114002 => if x22 = true then (some false) else (if 0 ≤ (x114002.length : Int) then (if ((x114002.length : Int) : Int).toNat ≤ 281474976710656 then (spec_IsMatrix.l0 k (List.replicate ((x114002.length : Int) : Int).toNat false) x114002 (x114002.length : Int) 0 x114000 x114001 x114002) else (none)) else (none))
def spec_IsMatrix.l0 : Nat → List Bool → List Int → Int → Int → Int → Int → List Int → Option (Bool)
 | 0, _, _, _, _, _, _, _ => none
 | k + 1, x3, x28, x29, x30, x114000, x114001, x114002 => if x30 < x29 then (if 0 ≤ x30 then (if x30 < (x28.length : Int) then ((spec_l1In.f (rd x28 x30) 0 (wrap64 ((x114002.length : Int) - 1))).bind fun t119 => (if t119 = true then (if 0 ≤ (rd x28 x30) then (if (rd x28 x30) < (x3.length : Int) then (if rdOf false x3 (rd x28 x30) = true then (some false) else (spec_IsMatrix.l0 k (x3.set ((rd x28 x30) : Int).toNat true) x28 x29 (wrap64 (x30 + 1)) x114000 x114001 x114002)) else (none)) else (none)) else (some false))) else (none)) else (none)) else (some true)
end
def spec_IsMatrix.f (k : Nat) (a0_0 : Int) (a0_1 : Int) (l0_2 : List Int) : Option (Bool) := (spec_l2Shape.f a0_0 a0_1).bind fun t114 => (if t114 = true then (spec_IsMatrix.j0 k ((l0_2.length : Int) != (wrap64 (a0_0 * a0_1))) a0_0 a0_1 l0_2) else (spec_IsMatrix.j0 k true a0_0 a0_1 l0_2))
theorem spec_IsMatrix.mono_l : ∀ k, (∀ y0 y1 y2 y3, LeO (spec_IsMatrix.j0 k y0 y1 y2 y3) (spec_IsMatrix.j0 (k + 1) y0 y1 y2 y3)) ∧ (∀ y0 y1 y2 y3 y4 y5 y6, LeO (spec_IsMatrix.l0 k y0 y1 y2 y3 y4 y5 y6) (spec_IsMatrix.l0 (k + 1) y0 y1 y2 y3 y4 y5 y6))
 | 0 => ⟨fun _ _ _ _ r h => by simp [spec_IsMatrix.j0] at h, fun _ _ _ _ _ _ _ r h => by simp [spec_IsMatrix.l0] at h⟩
 | k + 1 => by
  obtain ⟨ih0, ih1⟩ := spec_IsMatrix.mono_l k
  refine ⟨?_, ?_⟩
  ·intro y0 y1 y2 y3
   unfold spec_IsMatrix.j0
   repeat' first
   | (with_reducible exact ih0 _ _ _ _)
   | (with_reducible exact ih1 _ _ _ _ _ _ _)
   | (with_reducible exact LeO.refl _)
   | (with_reducible exact LeO.none _)
   | (with_reducible refine LeO.ite ?_ ?_)
   | (with_reducible refine LeO.bind ?_ (fun _ => ?_))
   | exact ih0 _ _ _ _
   | exact ih1 _ _ _ _ _ _ _
   | exact LeO.none _
   | refine LeO.ite ?_ ?_
   | refine LeO.bind ?_ (fun _ => ?_)
  ·intro y0 y1 y2 y3 y4 y5 y6
   unfold spec_IsMatrix.l0
   repeat' first
   | (with_reducible exact ih0 _ _ _ _)
   | (with_reducible exact ih1 _ _ _ _ _ _ _)
   | (with_reducible exact LeO.refl _)
   | (with_reducible exact LeO.none _)
   | (with_reducible refine LeO.ite ?_ ?_)
   | (with_reducible refine LeO.bind ?_ (fun _ => ?_))
   | exact ih0 _ _ _ _
   | exact ih1 _ _ _ _ _ _ _
   | exact LeO.none _
   | refine LeO.ite ?_ ?_
   | refine LeO.bind ?_ (fun _ => ?_)
theorem spec_IsMatrix.mono : ∀ a0 a1 a2 k, LeO (spec_IsMatrix.f k a0 a1 a2) (spec_IsMatrix.f (k + 1) a0 a1 a2) := by
 intro a0 a1 a2 k
 obtain ⟨ih0, ih1⟩ := spec_IsMatrix.mono_l k
 unfold spec_IsMatrix.f
 repeat' first
   | (with_reducible exact ih0 _ _ _ _)
   | (with_reducible exact ih1 _ _ _ _ _ _ _)
   | (with_reducible exact LeO.refl _)
   | (with_reducible exact LeO.none _)
   | (with_reducible refine LeO.ite ?_ ?_)
   | (with_reducible refine LeO.bind ?_ (fun _ => ?_))
   | exact ih0 _ _ _ _
   | exact ih1 _ _ _ _ _ _ _
   | exact LeO.none _
   | refine LeO.ite ?_ ?_
   | refine LeO.bind ?_ (fun _ => ?_)
set_option maxHeartbeats 8000000 in
set_option maxRecDepth 100000 in
theorem spec_IsMatrix.calls (k : Nat) (a0_0 : Int) (a0_1 : Int) (A0_2 : Option Addr) (c0_2 : Nat) (l0_2 : List Int) (r : Bool) (w : World) (hr0_2 : Kd.C (Kd.int .i64) w A0_2 l0_2.length l0_2) (hc0_2 : l0_2.length ≤ c0_2) (h : spec_IsMatrix.f k a0_0 a0_1 l0_2 = some r) :
  Calls Try.prog 26 #[.agg #[.int .i64 a0_0, .int .i64 a0_1, .slice A0_2 l0_2.length c0_2]] w fun e w' => e = .returned (.bool r) ∧ Below w.heap.size w w' := by
 have hu39 := Try.underlying39
 have HR0_2 := z0b hr0_2
 have HC0_2 := z0b hc0_2
 clear hr0_2 hc0_2
 have HB := z0b (Below.refl w.heap.size w)
 have H : ((spec_l2Shape.f a0_0 a0_1).bind fun t114 => (if t114 = true then (spec_IsMatrix.j0 k ((l0_2.length : Int) != (wrap64 (a0_0 * a0_1))) a0_0 a0_1 l0_2) else (spec_IsMatrix.j0 k true a0_0 a0_1 l0_2))) = some r := h
 clear h
 have HC2 := z0b H
 clear H
 go_enter Try.func26, Try.ntmps26
 go_upto_region 1 with (first | ((with_reducible refine gate_dst (N := 1) rfl ?_); (try (refine gate_guard (by rfl) ?_; dsimp only)); refine box_event ?hg (N := 1) ?hd (cs := #[.int .i64 a0_0, .int .i64 a0_1, .slice A0_2 l0_2.length c0_2]) (t := 39) ?hr ?_; (case hd => rfl); (case hg => rfl); (case hr => first | (go_simp; done) | (go_simp; rfl)); intro gb113 hg w3 hbox hb; have n0_ := z0b (y6b (by repeat (first | (with_reducible first | exact HB.out | apply z4b | apply z5b | apply z6b) | exact HB.out)) hb); have n1_ := z0b (hbox); have n2_ := z0b ((by rw [hg]; exact (y7b (by repeat (first | (with_reducible first | exact HB.out | apply z4b | apply z5b | apply z6b) | exact HB.out))) : w.heap.size ≤ gb113)); have n3_ := z0b ((by rw [hg]; exact (y7b (by repeat (first | (with_reducible first | exact HB.out | apply z4b | apply z5b | apply z6b) | exact HB.out))) : w.heap.size ≤ gb113)); clear HB; have HB := n0_; have BK113 := n1_; have GW113 := n2_; have GE113 := n3_; clear n0_ n1_ n2_ n3_; clear hb hbox hg))
 (try simp only [Act.put, s1b_, s2b_, s3b_])
 go_cut [22] (fun v22 wc => ∃ (kq : Nat) (x22_1 : Bool), v22 = .bool x22_1 ∧ Aside0 (spec_IsMatrix.j0 kq x22_1 a0_0 a0_1 l0_2 = some r) ∧ Aside0 (kq ≤ k) ∧ Aside0 (wc.heap[gb113]? = some (.cells #[.int .i64 a0_0, .int .i64 a0_1, (.slice A0_2 l0_2.length c0_2)] 39 (0, 0))) ∧ Aside0 (Below w.heap.size w wc))
 case first =>
  have H := HC2.out
  clear HC2
  replace H := Option.bind_eq_some_iff.mp H
  obtain ⟨t114, A40, H⟩ := H
  replace H : (if t114 = true then (spec_IsMatrix.j0 k ((l0_2.length : Int) != (wrap64 (a0_0 * a0_1))) a0_0 a0_1 l0_2) else (spec_IsMatrix.j0 k true a0_0 a0_1 l0_2)) = some r := H
  have A4 := z0b A40
  clear A40
  by_cases c5 : t114 = true
  ·subst c5
   have H1 : (spec_IsMatrix.j0 k ((l0_2.length : Int) != (wrap64 (a0_0 * a0_1))) a0_0 a0_1 l0_2) = some r := by rw [if_pos rfl] at H; first | exact H | (simp only [if_true] at H ⊢; exact H)
   clear H
   have H := H1
   clear H1
   have H' := z0b H
   clear H
   have hcz6_0 : w3.cell? ⟨gb113, 0, none⟩ = some (.int .i64 a0_0) := (x3b BK113.out 0).trans rfl
   have hcz6_1 : w3.cell? ⟨gb113, 1, none⟩ = some (.int .i64 a0_1) := (x3b BK113.out 1).trans rfl
   have hcz6_2 : w3.cell? ⟨gb113, 2, none⟩ = some (.slice A0_2 l0_2.length c0_2) := (x3b BK113.out 2).trans rfl
   have hfz6_0 := x2b BK113.out 0
   have hfz6_1 := x2b BK113.out 1
   have hfz6_2 := x2b BK113.out 2
   go_wp2_with (first | ((with_reducible refine gate_callee (f := 71) rfl ?_); refine goesL_ (some 10) rfl rfl Try.func71 (by kernel_rfl) rfl #[.int .i64 a0_0, .int .i64 a0_1] rfl (by (try simp only [List.map_toArray, List.map_cons, List.map_nil]); first | done | rfl | (simp only [List.length_drop, List.length_take]; rfl)) ?_; (with_reducible refine (spec_l2Shape.calls a0_0 a0_1 true _ A4.out).mono ?_); rintro e w' ⟨rfl, ⟨nd, rfl⟩⟩; refine ⟨_, rfl, ?_⟩))
   go_meet
   case rel => exact ⟨_, (((l0_2.length : Int) != (wrap64 (a0_0 * a0_1)))), (by first | rfl | (simp; done) | (simp [*]; done)), H', ⟨by first | omega | exact Nat.le_refl _⟩, ⟨by (with_reducible repeat (first | refine z1b ?_ _ | refine z3b ?_ | refine z2b ?_ _)); exact BK113.out⟩, ⟨by repeat (first | (with_reducible first | exact HB.out | apply z4b | apply z5b | apply z6b | refine z7b ?_ GE113.out) | exact HB.out)⟩⟩
  ·replace c5 := Bool.eq_false_iff.mpr c5
   subst c5
   have H1 : (spec_IsMatrix.j0 k true a0_0 a0_1 l0_2) = some r := by rw [if_neg (show ¬ (false = true) by decide)] at H; first | exact H | (simp only [if_true] at H ⊢; exact H)
   clear H
   have H := H1
   clear H1
   have H' := z0b H
   clear H
   have hcz7_0 : w3.cell? ⟨gb113, 0, none⟩ = some (.int .i64 a0_0) := (x3b BK113.out 0).trans rfl
   have hcz7_1 : w3.cell? ⟨gb113, 1, none⟩ = some (.int .i64 a0_1) := (x3b BK113.out 1).trans rfl
   have hcz7_2 : w3.cell? ⟨gb113, 2, none⟩ = some (.slice A0_2 l0_2.length c0_2) := (x3b BK113.out 2).trans rfl
   have hfz7_0 := x2b BK113.out 0
   have hfz7_1 := x2b BK113.out 1
   have hfz7_2 := x2b BK113.out 2
   go_wp2_with (first | ((with_reducible refine gate_callee (f := 71) rfl ?_); refine goesL_ (some 10) rfl rfl Try.func71 (by kernel_rfl) rfl #[.int .i64 a0_0, .int .i64 a0_1] rfl (by (try simp only [List.map_toArray, List.map_cons, List.map_nil]); first | done | rfl | (simp only [List.length_drop, List.length_take]; rfl)) ?_; (with_reducible refine (spec_l2Shape.calls a0_0 a0_1 false _ A4.out).mono ?_); rintro e w' ⟨rfl, ⟨nd, rfl⟩⟩; refine ⟨_, rfl, ?_⟩))
   go_meet
   case rel => exact ⟨_, (true), (by first | rfl | (simp; done) | (simp [*]; done)), H', ⟨by first | omega | exact Nat.le_refl _⟩, ⟨by (with_reducible repeat (first | refine z1b ?_ _ | refine z3b ?_ | refine z2b ?_ _)); exact BK113.out⟩, ⟨by repeat (first | (with_reducible first | exact HB.out | apply z4b | apply z5b | apply z6b | refine z7b ?_ GE113.out) | exact HB.out)⟩⟩
 case rest =>
  clear HC2
  try clear c2
  try clear p2
  try clear c5
  try clear p6
  try clear c7
  try clear hcz6_0
  try clear hcz6_1
  try clear hcz6_2
  try clear hcz7_0
  try clear hcz7_1
  try clear hcz7_2
  try clear hfz6_0
  try clear hfz6_1
  try clear hfz6_2
  try clear hfz7_0
  try clear hfz7_1
  try clear hfz7_2
  obtain ⟨kq, x22_1, rfl, HA, HJ1, BK113, HB⟩ := hcut
  cases kq with
  | zero => exact absurd HA.out (by simp [spec_IsMatrix.j0])
  | succ kj1 =>
   have H := HA.out
   clear HA
   simp only [spec_IsMatrix.j0] at H
   by_cases c8 : x22_1 = true
   ·subst c8
    have H1 : (some false) = some r := by rw [if_pos rfl] at H; first | exact H | (simp only [if_true] at H ⊢; exact H)
    clear H
    have H := H1
    clear H1
    obtain rfl := Option.some.inj H
    go_wp2
    go_ret
    exact ⟨by first | rfl | (simp [errW_none, errW_some] <;> rfl) | (simp [*, errW_none, errW_some] <;> rfl), by repeat (first | (with_reducible first | exact HB.out | apply z4b | apply z5b | apply z6b | refine z7b ?_ GE113.out) | exact HB.out)⟩
   ·replace c8 := Bool.eq_false_iff.mpr c8
    subst c8
    have H1 : (if 0 ≤ (l0_2.length : Int) then (if ((l0_2.length : Int) : Int).toNat ≤ 281474976710656 then (spec_IsMatrix.l0 kj1 (List.replicate ((l0_2.length : Int) : Int).toNat false) l0_2 (l0_2.length : Int) 0 a0_0 a0_1 l0_2) else (none)) else (none)) = some r := by rw [if_neg (show ¬ (false = true) by decide)] at H; first | exact H | (simp only [if_true] at H ⊢; exact H)
    clear H
    have H := H1
    clear H1
    by_cases c9 : 0 ≤ (l0_2.length : Int)
    ·rw [if_pos c9] at H
     have c9b0 := eq_true c9
     have c9b1 : decide (0 ≤ (l0_2.length : Int)) = true := decide_eq_true c9
     clear c9
     by_cases c10 : ((l0_2.length : Int) : Int).toNat ≤ 281474976710656
     ·rw [if_pos c10] at H
      have c10b0 := eq_true c10
      have c10b1 : decide (((l0_2.length : Int) : Int).toNat ≤ 281474976710656) = true := decide_eq_true c10
      clear c10
      obtain ⟨y115, hy115⟩ : ∃ y_ : List Bool, y_ = (List.replicate ((l0_2.length : Int) : Int).toNat false) := ⟨_, rfl⟩
      replace H : (spec_IsMatrix.l0 kj1 y115 l0_2 (l0_2.length : Int) 0 a0_0 a0_1 l0_2) = some r := by first | (rw [hy115]; with_reducible exact H) | (have H2_ := (Option.bind_some _ _).symm.trans H; rw [hy115]; with_reducible exact H2_) | (have H2_ := (Option.bind_some _ _).symm.trans H; with_reducible exact H2_) | with_reducible exact H | (rw [hy115]; exact H) | exact H
      have Ny115 := z0b hy115
      clear hy115
      have H' := z0b H
      clear H
      have hcz11_0 : wc.cell? ⟨gb113, 0, none⟩ = some (.int .i64 a0_0) := (x3b BK113.out 0).trans rfl
      have hcz11_1 : wc.cell? ⟨gb113, 1, none⟩ = some (.int .i64 a0_1) := (x3b BK113.out 1).trans rfl
      have hcz11_2 : wc.cell? ⟨gb113, 2, none⟩ = some (.slice A0_2 l0_2.length c0_2) := (x3b BK113.out 2).trans rfl
      have hfz11_0 := x2b BK113.out 0
      have hfz11_1 := x2b BK113.out 1
      have hfz11_2 := x2b BK113.out 2
      go_wp2_with (first | ((with_reducible refine gate_dst (N := 26) rfl ?_); (try (refine gate_guard (by rfl) ?_; dsimp only)); refine Kd.R_make Kd.bool _ 4 rfl (N := 26) rfl 84 _ _ rfl (l0_2.length : Int) rfl rfl Try.underlying84 (.bool false) 1 info4 rfl (by decide) (by omega) false (ok := fun _ => True) (okp := fun _ => True) rfl (fun _ hk => hk) trivial (of_decide_eq_true (by first | (with_reducible assumption) | assumption)) (Nat.le_trans (Nat.mul_le_mul_right _ (of_decide_eq_true (by first | (with_reducible assumption) | assumption) : (l0_2.length : Int).toNat ≤ 281474976710656)) (by omega)) (Below.refl _ _) (Nat.le_refl _) ?_; intro v116 w12 ho13 hb hg_ hnew_; clear hg_ hnew_; (first | rw [← Ny115.out] at ho13 | (simp only [Int.reduceToNat] at ho13; rw [← Ny115.out] at ho13)); have n0_ := z0b (Kd.R_lower ho13 (y7b (by repeat (first | (with_reducible first | exact HB.out | apply z4b | apply z5b | apply z6b | refine z7b ?_ GE113.out) | exact HB.out)))); have n1_ := z0b (y5b (g := gb113) (o := .cells #[.int .i64 a0_0, .int .i64 a0_1, .slice A0_2 l0_2.length c0_2] 39 (0, 0)) (by (with_reducible repeat (first | refine z1b ?_ _ | refine z3b ?_ | refine z2b ?_ _)); exact BK113.out) hb); have n2_ := z0b (y6b (by repeat (first | (with_reducible first | exact HB.out | apply z4b | apply z5b | apply z6b | refine z7b ?_ GE113.out) | exact HB.out)) hb); clear BK113; clear HB; have HO117 := n0_; have BK113 := n1_; have HB := n2_; clear n0_ n1_ n2_; clear hb ho13; have hcz14_0 : w12.cell? ⟨gb113, 0, none⟩ = some (.int .i64 a0_0) := (x3b BK113.out 0).trans rfl; have hcz14_1 : w12.cell? ⟨gb113, 1, none⟩ = some (.int .i64 a0_1) := (x3b BK113.out 1).trans rfl; have hcz14_2 : w12.cell? ⟨gb113, 2, none⟩ = some (.slice A0_2 l0_2.length c0_2) := (x3b BK113.out 2).trans rfl; have hfz14_0 := x2b BK113.out 0; have hfz14_1 := x2b BK113.out 1; have hfz14_2 := x2b BK113.out 2))
      go_loopg [30] kj1 (fun kq v30 w' => ∃ (x3_2 : List Bool) (x30_2 : Int), v30 = .int .i64 x30_2 ∧ Aside0 (spec_IsMatrix.l0 kq x3_2 l0_2 (l0_2.length : Int) x30_2 a0_0 a0_1 l0_2 = some r) ∧ Aside0 (kq ≤ kj1) ∧ Aside0 (Kd.R Kd.bool 4 w' w.heap.size (fun _ => True) v116 x3_2) ∧ Aside0 (w'.heap[gb113]? = some (.cells #[.int .i64 a0_0, .int .i64 a0_1, (.slice A0_2 l0_2.length c0_2)] 39 (0, 0))) ∧ Aside0 (Below w.heap.size w w'))
      case atStart => exact ⟨(y115), (0), (by first | rfl | (simp; done) | (simp [*]; done)), H', ⟨Nat.le_refl _⟩, ⟨by (with_reducible repeat (first | apply Kd.R_alloc | apply Kd.R_drewN | apply Kd.R_drew)); exact HO117.out⟩, ⟨by (with_reducible repeat (first | refine z1b ?_ _ | refine z3b ?_ | refine z2b ?_ _)); exact BK113.out⟩, ⟨by repeat (first | (with_reducible first | exact HB.out | apply z4b | apply z5b | apply z6b | refine z7b ?_ GE113.out) | exact HB.out)⟩⟩
      case round =>
       clear H'
       try clear c1
       try clear c2
       try clear p2
       try clear c5
       try clear p6
       try clear c7
       try clear c8
       try clear c9
       try clear c9b0
       try clear c9b1
       try clear c10
       try clear c10b0
       try clear c10b1
       try clear hcz11_0
       try clear hcz11_1
       try clear hcz11_2
       try clear hcz14_0
       try clear hcz14_1
       try clear hcz14_2
       try clear hcz6_0
       try clear hcz6_1
       try clear hcz6_2
       try clear hcz7_0
       try clear hcz7_1
       try clear hcz7_2
       try clear hfz11_0
       try clear hfz11_1
       try clear hfz11_2
       try clear hfz14_0
       try clear hfz14_1
       try clear hfz14_2
       try clear hfz6_0
       try clear hfz6_1
       try clear hfz6_2
       try clear hfz7_0
       try clear hfz7_1
       try clear hfz7_2
       try clear p2
       try clear p6
       obtain ⟨x3_2, x30_2, rfl, HA, HK2, HO_3, BK113, HB⟩ := hrel
       cases gk with
       | zero => exact absurd HA.out (by simp [spec_IsMatrix.l0])
       | succ k2 =>
        have H := HA.out
        clear HA
        simp only [spec_IsMatrix.l0] at H
        by_cases c15 : x30_2 < (l0_2.length : Int)
        ·rw [if_pos c15] at H
         have c15b0 : decide (x30_2 < (l0_2.length : Int)) = true := decide_eq_true c15
         clear c15
         by_cases c16 : 0 ≤ x30_2
         ·rw [if_pos c16] at H
          have c16b0 : decide (0 ≤ x30_2) = true := decide_eq_true c16
          clear c16
          by_cases c17 : x30_2 < (l0_2.length : Int)
          ·rw [if_pos c17] at H
           have c17b0 : decide (x30_2 < (l0_2.length : Int)) = true := decide_eq_true c17
           clear c17
           replace H := Option.bind_eq_some_iff.mp H
           obtain ⟨t119, A180, H⟩ := H
           replace H : (if t119 = true then (if 0 ≤ (rd l0_2 x30_2) then (if (rd l0_2 x30_2) < (x3_2.length : Int) then (if rdOf false x3_2 (rd l0_2 x30_2) = true then (some false) else (spec_IsMatrix.l0 k2 (x3_2.set ((rd l0_2 x30_2) : Int).toNat true) l0_2 (l0_2.length : Int) (wrap64 (x30_2 + 1)) a0_0 a0_1 l0_2)) else (none)) else (none)) else (some false)) = some r := H
           have A18 := z0b A180
           clear A180
           by_cases c19 : t119 = true
           ·subst c19
            have H1 : (if 0 ≤ (rd l0_2 x30_2) then (if (rd l0_2 x30_2) < (x3_2.length : Int) then (if rdOf false x3_2 (rd l0_2 x30_2) = true then (some false) else (spec_IsMatrix.l0 k2 (x3_2.set ((rd l0_2 x30_2) : Int).toNat true) l0_2 (l0_2.length : Int) (wrap64 (x30_2 + 1)) a0_0 a0_1 l0_2)) else (none)) else (none)) = some r := by rw [if_pos rfl] at H; first | exact H | (simp only [if_true] at H ⊢; exact H)
            clear H
            have H := H1
            clear H1
            by_cases c20 : 0 ≤ (rd l0_2 x30_2)
            ·rw [if_pos c20] at H
             have c20b0 : decide (0 ≤ (rd l0_2 x30_2)) = true := decide_eq_true c20
             clear c20
             by_cases c21 : (rd l0_2 x30_2) < (x3_2.length : Int)
             ·rw [if_pos c21] at H
              have c21b0 : decide ((rd l0_2 x30_2) < (x3_2.length : Int)) = true := decide_eq_true c21
              clear c21
              obtain ⟨bq22, hbq22⟩ : ∃ b_ : Bool, b_ = (rdOf false x3_2 (rd l0_2 x30_2)) := ⟨_, rfl⟩
              replace H : (if bq22 = true then (some false) else (spec_IsMatrix.l0 k2 (x3_2.set ((rd l0_2 x30_2) : Int).toNat true) l0_2 (l0_2.length : Int) (wrap64 (x30_2 + 1)) a0_0 a0_1 l0_2)) = some r := by rw [← hbq22] at H; exact H
              have Nbq22 := z0b hbq22
              clear hbq22
              by_cases c23 : bq22 = true
              ·subst c23
               have H1 : (some false) = some r := by rw [if_pos rfl] at H; first | exact H | (simp only [if_true] at H ⊢; exact H)
               clear H
               have H := H1
               clear H1
               obtain rfl := Option.some.inj H
               have p118 : 0 ≤ (x30_2 : Int) := of_decide_eq_true (by first | (with_reducible assumption) | assumption)
               have q118 : x30_2 < (l0_2.length : Int) := of_decide_eq_true (by first | (with_reducible assumption) | assumption)
               obtain ⟨ad118, e118, hx118_0⟩ := Kd.at_int HR0_2.out x30_2 p118 q118
               cases e118
               replace hx118_0 := (HB.out.cell (World.block_lt_of_cell? w _ hx118_0)).trans hx118_0
               replace p118 := eq_true p118
               replace q118 := eq_true q118
               have hcz24_0 : wr.cell? ⟨gb113, 0, none⟩ = some (.int .i64 a0_0) := (x3b BK113.out 0).trans rfl
               have hcz24_1 : wr.cell? ⟨gb113, 1, none⟩ = some (.int .i64 a0_1) := (x3b BK113.out 1).trans rfl
               have hcz24_2 : wr.cell? ⟨gb113, 2, none⟩ = some (.slice (some ad118) l0_2.length c0_2) := (x3b BK113.out 2).trans rfl
               have hfz24_0 := x2b BK113.out 0
               have hfz24_1 := x2b BK113.out 1
               have hfz24_2 := x2b BK113.out 2
               go_wp2_with (first | ((with_reducible refine gate_callee (f := 72) rfl ?_); refine goesL_ (some 39) rfl rfl Try.func72 (by kernel_rfl) rfl #[.int .i64 (rd l0_2 x30_2), .int .i64 0, .int .i64 (wrap64 ((l0_2.length : Int) - 1))] rfl (by (try simp only [List.map_toArray, List.map_cons, List.map_nil]); first | done | rfl | (simp only [List.length_drop, List.length_take]; rfl)) ?_; (with_reducible refine (spec_l1In.calls (rd l0_2 x30_2) 0 (wrap64 ((l0_2.length : Int) - 1)) true _ A18.out).mono ?_); rintro e w' ⟨rfl, ⟨nd, rfl⟩⟩; refine ⟨_, rfl, ?_⟩; obtain ⟨Ao25, co25, eo25⟩ := Kd.R_slice HO_3.out; subst eo25; have p120 : 0 ≤ ((rd l0_2 x30_2) : Int) := of_decide_eq_true (by first | (with_reducible assumption) | assumption); have q120 : (rd l0_2 x30_2) < (x3_2.length : Int) := of_decide_eq_true (by first | (with_reducible assumption) | assumption); obtain ⟨ad120, e120, hx120_0⟩ := Kd.at_bool (Kd.R_reads' HO_3.out).2.2 (rd l0_2 x30_2) p120 q120; (try rw [← Nbq22.out] at hx120_0); cases e120; replace p120 := eq_true p120; replace q120 := eq_true q120))
               go_ret
               exact ⟨by first | rfl | (simp [errW_none, errW_some] <;> rfl) | (simp [*, errW_none, errW_some] <;> rfl), by repeat (first | (with_reducible first | exact HB.out | apply z4b | apply z5b | apply z6b | refine z7b ?_ GE113.out) | exact HB.out)⟩
              ·replace c23 := Bool.eq_false_iff.mpr c23
               subst c23
               have H1 : (spec_IsMatrix.l0 k2 (x3_2.set ((rd l0_2 x30_2) : Int).toNat true) l0_2 (l0_2.length : Int) (wrap64 (x30_2 + 1)) a0_0 a0_1 l0_2) = some r := by rw [if_neg (show ¬ (false = true) by decide)] at H; first | exact H | (simp only [if_true] at H ⊢; exact H)
               clear H
               have H := H1
               clear H1
               obtain ⟨y121, hy121⟩ : ∃ y_ : List Bool, y_ = (x3_2.set ((rd l0_2 x30_2) : Int).toNat true) := ⟨_, rfl⟩
               replace H : (spec_IsMatrix.l0 k2 y121 l0_2 (l0_2.length : Int) (wrap64 (x30_2 + 1)) a0_0 a0_1 l0_2) = some r := by first | (rw [hy121]; with_reducible exact H) | (have H2_ := (Option.bind_some _ _).symm.trans H; rw [hy121]; with_reducible exact H2_) | (have H2_ := (Option.bind_some _ _).symm.trans H; with_reducible exact H2_) | with_reducible exact H | (rw [hy121]; exact H) | exact H
               have Ny121 := z0b hy121
               clear hy121
               have H' := z0b H
               clear H
               have p118 : 0 ≤ (x30_2 : Int) := of_decide_eq_true (by first | (with_reducible assumption) | assumption)
               have q118 : x30_2 < (l0_2.length : Int) := of_decide_eq_true (by first | (with_reducible assumption) | assumption)
               obtain ⟨ad118, e118, hx118_0⟩ := Kd.at_int HR0_2.out x30_2 p118 q118
               cases e118
               replace hx118_0 := (HB.out.cell (World.block_lt_of_cell? w _ hx118_0)).trans hx118_0
               replace p118 := eq_true p118
               replace q118 := eq_true q118
               have hcz27_0 : wr.cell? ⟨gb113, 0, none⟩ = some (.int .i64 a0_0) := (x3b BK113.out 0).trans rfl
               have hcz27_1 : wr.cell? ⟨gb113, 1, none⟩ = some (.int .i64 a0_1) := (x3b BK113.out 1).trans rfl
               have hcz27_2 : wr.cell? ⟨gb113, 2, none⟩ = some (.slice (some ad118) l0_2.length c0_2) := (x3b BK113.out 2).trans rfl
               have hfz27_0 := x2b BK113.out 0
               have hfz27_1 := x2b BK113.out 1
               have hfz27_2 := x2b BK113.out 2
               go_wp2_with (first | ((with_reducible refine gate_callee (f := 72) rfl ?_); refine goesL_ (some 39) rfl rfl Try.func72 (by kernel_rfl) rfl #[.int .i64 (rd l0_2 x30_2), .int .i64 0, .int .i64 (wrap64 ((l0_2.length : Int) - 1))] rfl (by (try simp only [List.map_toArray, List.map_cons, List.map_nil]); first | done | rfl | (simp only [List.length_drop, List.length_take]; rfl)) ?_; (with_reducible refine (spec_l1In.calls (rd l0_2 x30_2) 0 (wrap64 ((l0_2.length : Int) - 1)) true _ A18.out).mono ?_); rintro e w' ⟨rfl, ⟨nd, rfl⟩⟩; refine ⟨_, rfl, ?_⟩; (try (rw [drewN_self wr]; generalize hq_ : World.drewN wr _ = wr; have n0_ : Aside0 (Kd.R Kd.bool 4 wr w.heap.size (fun _ => True) v116 x3_2) := ⟨by rw [← hq_]; exact (by (with_reducible repeat (first | apply Kd.R_alloc | apply Kd.R_drewN | apply Kd.R_drew)); exact HO_3.out)⟩; have n1_ : Aside0 (wr.heap[gb113]? = some (.cells #[.int .i64 a0_0, .int .i64 a0_1, .slice (some ad118) l0_2.length c0_2] 39 (0, 0))) := ⟨by rw [← hq_]; exact (by (with_reducible repeat (first | refine z1b ?_ _ | refine z3b ?_ | refine z2b ?_ _)); exact BK113.out)⟩; have n2_ : Aside0 (Below w.heap.size w wr) := ⟨by rw [← hq_]; exact (by repeat (first | (with_reducible first | exact HB.out | apply z4b | apply z5b | apply z6b | refine z7b ?_ GE113.out) | exact HB.out))⟩; clear HO_3 BK113 HB hq_; have HO_3 := n0_; have BK113 := n1_; have HB := n2_; clear n0_ n1_ n2_)); obtain ⟨Ao28, co28, eo28⟩ := Kd.R_slice HO_3.out; subst eo28; have p120 : 0 ≤ ((rd l0_2 x30_2) : Int) := of_decide_eq_true (by first | (with_reducible assumption) | assumption); have q120 : (rd l0_2 x30_2) < (x3_2.length : Int) := of_decide_eq_true (by first | (with_reducible assumption) | assumption); obtain ⟨ad120, e120, hx120_0⟩ := Kd.at_bool (Kd.R_reads' HO_3.out).2.2 (rd l0_2 x30_2) p120 q120; (try rw [← Nbq22.out] at hx120_0); cases e120; replace p120 := eq_true p120; replace q120 := eq_true q120; have p26 : 0 ≤ ((rd l0_2 x30_2) : Int) := of_decide_eq_true (by first | (with_reducible assumption) | assumption); have q26 : ((rd l0_2 x30_2) : Int) < ((x3_2.length : Int) : Int) := of_decide_eq_true (by first | (with_reducible assumption) | assumption); obtain ⟨go26, co26, eo26, gb26, gl26, cl26, HG26⟩ := Kd.R_form HO_3.out (by omega); (first | cases eo26 | (injection eo26 with ea_ en_ ec_; (first | subst ea_ | (injection ea_ with ea_; subst ea_)); subst ec_; clear en_)); have GB26 := z0b gb26; have GG26 := z0b HG26; clear gb26 gl26 HG26; (first | simp only [add_plain] at hx120_0 | skip); obtain ⟨hx26_0, hf26_0⟩ := Kd.R_celln false HO_3.out ((rd l0_2 x30_2) : Int) p26 q26; replace p26 := eq_true p26; replace q26 := eq_true q26; obtain ⟨hy29_, hz29_⟩ := Kd.R_celln false HO_3.out ((rd l0_2 x30_2) : Int) (of_decide_eq_true (by first | (with_reducible assumption) | assumption)) (of_decide_eq_true (by first | (with_reducible assumption) | assumption)); have HP29 := Kd.R_putg HO_3.out ((rd l0_2 x30_2) : Int) true) | ((with_reducible refine gate_store (t := 4) (p := 49) rfl ?_); refine store_event (t := 4) (p := 49) (v := ?vo_w30) (w1 := (wr.setCell ⟨go26, ((rd l0_2 x30_2) : Int).toNat, none⟩ (.bool true))) ?hg ?ho ?hn ?hr ?_; (case ho => rfl); (case hg => rfl); (case hn => rfl); (case hr => first | (go_simp; done) | (go_simp; rfl)); intro w30 hw; have hg : wr.grownBy w30 (some go26) := (by rw [hw]; exact HP29.2); have hp_ : Kd.R Kd.bool 4 w30 w.heap.size (fun _ => True) (.slice (some ⟨go26, 0, none⟩) x3_2.length co28) y121 := (by rw [hw, Ny121.out]; exact HP29.1); clear HP29; have n0_ := z0b (hp_); have n1_ := z0b (blk_grown (g := gb113) (o := .cells #[.int .i64 a0_0, .int .i64 a0_1, .slice (some ad118) l0_2.length c0_2] 39 (0, 0)) (by (with_reducible repeat (first | refine z1b ?_ _ | refine z3b ?_ | refine z2b ?_ _)); exact BK113.out) hg (Kd.R_ne HO_3.out BK113.out (by decide))); have n2_ := z0b ((by rw [hw]; exact z7b (HB.out) GB26.out : Below w.heap.size w w30)); clear HO_3; clear BK113; clear HB; have HO_3 := n0_; have BK113 := n1_; have HB := n2_; clear n0_ n1_ n2_; clear hg hw hp_))
               go_roundg k2
               case measure => have := HJ1.out; have := HK2.out; omega
               case rel => exact ⟨(y121), (wrap64 (x30_2 + 1)), (by first | rfl | (simp; done) | (simp [*]; done)), H', ⟨by have := HJ1.out; have := HK2.out; omega⟩, ⟨by (with_reducible repeat (first | apply Kd.R_alloc | apply Kd.R_drewN | apply Kd.R_drew)); exact HO_3.out⟩, ⟨by (with_reducible repeat (first | refine z1b ?_ _ | refine z3b ?_ | refine z2b ?_ _)); exact BK113.out⟩, ⟨by repeat (first | (with_reducible first | exact HB.out | apply z4b | apply z5b | apply z6b | refine z7b ?_ GE113.out) | exact HB.out)⟩⟩
             ·rw [if_neg c21] at H
              exact absurd H (by simp)
            ·rw [if_neg c20] at H
             exact absurd H (by simp)
           ·replace c19 := Bool.eq_false_iff.mpr c19
            subst c19
            have H1 : (some false) = some r := by rw [if_neg (show ¬ (false = true) by decide)] at H; first | exact H | (simp only [if_true] at H ⊢; exact H)
            clear H
            have H := H1
            clear H1
            obtain rfl := Option.some.inj H
            have p118 : 0 ≤ (x30_2 : Int) := of_decide_eq_true (by first | (with_reducible assumption) | assumption)
            have q118 : x30_2 < (l0_2.length : Int) := of_decide_eq_true (by first | (with_reducible assumption) | assumption)
            obtain ⟨ad118, e118, hx118_0⟩ := Kd.at_int HR0_2.out x30_2 p118 q118
            cases e118
            replace hx118_0 := (HB.out.cell (World.block_lt_of_cell? w _ hx118_0)).trans hx118_0
            replace p118 := eq_true p118
            replace q118 := eq_true q118
            have hcz31_0 : wr.cell? ⟨gb113, 0, none⟩ = some (.int .i64 a0_0) := (x3b BK113.out 0).trans rfl
            have hcz31_1 : wr.cell? ⟨gb113, 1, none⟩ = some (.int .i64 a0_1) := (x3b BK113.out 1).trans rfl
            have hcz31_2 : wr.cell? ⟨gb113, 2, none⟩ = some (.slice (some ad118) l0_2.length c0_2) := (x3b BK113.out 2).trans rfl
            have hfz31_0 := x2b BK113.out 0
            have hfz31_1 := x2b BK113.out 1
            have hfz31_2 := x2b BK113.out 2
            go_wp2_with (first | ((with_reducible refine gate_callee (f := 72) rfl ?_); refine goesL_ (some 39) rfl rfl Try.func72 (by kernel_rfl) rfl #[.int .i64 (rd l0_2 x30_2), .int .i64 0, .int .i64 (wrap64 ((l0_2.length : Int) - 1))] rfl (by (try simp only [List.map_toArray, List.map_cons, List.map_nil]); first | done | rfl | (simp only [List.length_drop, List.length_take]; rfl)) ?_; (with_reducible refine (spec_l1In.calls (rd l0_2 x30_2) 0 (wrap64 ((l0_2.length : Int) - 1)) false _ A18.out).mono ?_); rintro e w' ⟨rfl, ⟨nd, rfl⟩⟩; refine ⟨_, rfl, ?_⟩))
            go_ret
            exact ⟨by first | rfl | (simp [errW_none, errW_some] <;> rfl) | (simp [*, errW_none, errW_some] <;> rfl), by repeat (first | (with_reducible first | exact HB.out | apply z4b | apply z5b | apply z6b | refine z7b ?_ GE113.out) | exact HB.out)⟩
          ·rw [if_neg c17] at H
           exact absurd H (by simp)
         ·rw [if_neg c16] at H
          exact absurd H (by simp)
        ·rw [if_neg c15] at H
         have c15b0 : decide (x30_2 < (l0_2.length : Int)) = false := decide_eq_false c15
         clear c15
         obtain rfl := Option.some.inj H
         go_wp2
         go_ret
         exact ⟨by first | rfl | (simp [errW_none, errW_some] <;> rfl) | (simp [*, errW_none, errW_some] <;> rfl), by repeat (first | (with_reducible first | exact HB.out | apply z4b | apply z5b | apply z6b | refine z7b ?_ GE113.out) | exact HB.out)⟩
     ·rw [if_neg c10] at H
      exact absurd H (by simp)
    ·rw [if_neg c9] at H
     exact absurd H (by simp)

/-! ### spec_l1Size: function 122 -/
def spec_l1Size.f (a0 : Int) (a1 : Int) : Option (Bool) := (spec_l1In.f a0 1 64).bind fun t122 => (if t122 = true then ((spec_l1In.f a1 1 64).bind fun t123 => (if t123 = true then (some (decide ((wrap64 (a0 * a1)) ≤ 1024))) else (some false))) else (some false))
set_option maxHeartbeats 8000000 in
set_option maxRecDepth 100000 in
theorem spec_l1Size.calls (a0 : Int) (a1 : Int) (r : Bool) (w : World) (h : spec_l1Size.f a0 a1 = some r) :
  Calls Try.prog 122 #[.int .i64 a0, .int .i64 a1] w fun e w' => e = .returned (.bool r) ∧ Drawn0 w w' := by
 have H : ((spec_l1In.f a0 1 64).bind fun t122 => (if t122 = true then ((spec_l1In.f a1 1 64).bind fun t123 => (if t123 = true then (some (decide ((wrap64 (a0 * a1)) ≤ 1024))) else (some false))) else (some false))) = some r := h
 clear h
 replace H := Option.bind_eq_some_iff.mp H
 obtain ⟨t122, A30, H⟩ := H
 replace H : (if t122 = true then ((spec_l1In.f a1 1 64).bind fun t123 => (if t123 = true then (some (decide ((wrap64 (a0 * a1)) ≤ 1024))) else (some false))) else (some false)) = some r := H
 have A3 := z0b A30
 clear A30
 by_cases c4 : t122 = true
 ·subst c4
  have H1 : ((spec_l1In.f a1 1 64).bind fun t123 => (if t123 = true then (some (decide ((wrap64 (a0 * a1)) ≤ 1024))) else (some false))) = some r := by rw [if_pos rfl] at H; first | exact H | (simp only [if_true] at H ⊢; exact H)
  clear H
  have H := H1
  clear H1
  replace H := Option.bind_eq_some_iff.mp H
  obtain ⟨t123, A50, H⟩ := H
  replace H : (if t123 = true then (some (decide ((wrap64 (a0 * a1)) ≤ 1024))) else (some false)) = some r := H
  have A5 := z0b A50
  clear A50
  by_cases c6 : t123 = true
  ·subst c6
   have H1 : (some (decide ((wrap64 (a0 * a1)) ≤ 1024))) = some r := by rw [if_pos rfl] at H; first | exact H | (simp only [if_true] at H ⊢; exact H)
   clear H
   have H := H1
   clear H1
   obtain rfl := Option.some.inj H
   go_enter Try.func122, Try.ntmps122
   go_wp2_with (first | ((with_reducible refine gate_callee (f := 72) rfl ?_); refine goesL_ (some 6) rfl rfl Try.func72 (by kernel_rfl) rfl #[.int .i64 a0, .int .i64 1, .int .i64 64] rfl (by (try simp only [List.map_toArray, List.map_cons, List.map_nil]); first | done | rfl | (simp only [List.length_drop, List.length_take]; rfl)) ?_; (with_reducible refine (spec_l1In.calls a0 1 64 true _ A3.out).mono ?_); rintro e w' ⟨rfl, ⟨nd, rfl⟩⟩; refine ⟨_, rfl, ?_⟩) | (go_at_call 72; (with_reducible refine (spec_l1In.calls a1 1 64 true _ A5.out).mono ?_); rintro e w' ⟨rfl, ⟨nd, rfl⟩⟩))
   go_ret
   exact ⟨by first | rfl | (simp; done) | (simp [*]; done), by repeat (first | exact Drawn0.refl _ | apply Drawn0.step)⟩
  ·replace c6 := Bool.eq_false_iff.mpr c6
   subst c6
   have H1 : (some false) = some r := by rw [if_neg (show ¬ (false = true) by decide)] at H; first | exact H | (simp only [if_true] at H ⊢; exact H)
   clear H
   have H := H1
   clear H1
   obtain rfl := Option.some.inj H
   go_enter Try.func122, Try.ntmps122
   go_wp2_with (first | ((with_reducible refine gate_callee (f := 72) rfl ?_); refine goesL_ (some 6) rfl rfl Try.func72 (by kernel_rfl) rfl #[.int .i64 a0, .int .i64 1, .int .i64 64] rfl (by (try simp only [List.map_toArray, List.map_cons, List.map_nil]); first | done | rfl | (simp only [List.length_drop, List.length_take]; rfl)) ?_; (with_reducible refine (spec_l1In.calls a0 1 64 true _ A3.out).mono ?_); rintro e w' ⟨rfl, ⟨nd, rfl⟩⟩; refine ⟨_, rfl, ?_⟩) | (go_at_call 72; (with_reducible refine (spec_l1In.calls a1 1 64 false _ A5.out).mono ?_); rintro e w' ⟨rfl, ⟨nd, rfl⟩⟩))
   go_ret
   exact ⟨by first | rfl | (simp; done) | (simp [*]; done), by repeat (first | exact Drawn0.refl _ | apply Drawn0.step)⟩
 ·replace c4 := Bool.eq_false_iff.mpr c4
  subst c4
  have H1 : (some false) = some r := by rw [if_neg (show ¬ (false = true) by decide)] at H; first | exact H | (simp only [if_true] at H ⊢; exact H)
  clear H
  have H := H1
  clear H1
  obtain rfl := Option.some.inj H
  go_enter Try.func122, Try.ntmps122
  go_wp2_with (first | ((with_reducible refine gate_callee (f := 72) rfl ?_); refine goesL_ (some 6) rfl rfl Try.func72 (by kernel_rfl) rfl #[.int .i64 a0, .int .i64 1, .int .i64 64] rfl (by (try simp only [List.map_toArray, List.map_cons, List.map_nil]); first | done | rfl | (simp only [List.length_drop, List.length_take]; rfl)) ?_; (with_reducible refine (spec_l1In.calls a0 1 64 false _ A3.out).mono ?_); rintro e w' ⟨rfl, ⟨nd, rfl⟩⟩; refine ⟨_, rfl, ?_⟩))
  go_ret
  exact ⟨by first | rfl | (simp; done) | (simp [*]; done), by repeat (first | exact Drawn0.refl _ | apply Drawn0.step)⟩

end Go.Proofs.Ytheihidfbalioaa.PFnExactDeskOk
