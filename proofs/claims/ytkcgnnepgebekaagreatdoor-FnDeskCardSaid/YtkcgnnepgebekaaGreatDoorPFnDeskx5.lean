/- Machine side of laws FnDesk: written for this claim by the kit's print program under this session's wip/tools/mp_setup.py (with contracts of the session's own, wip/ext). -/
import Derived.Test.YtkcgnnepgebekaaGreatDoorPFnDeskx0
import Derived.Test.YtkcgnnepgebekaaGreatDoorPFnDeskx4
namespace Go.Proofs.YtkcgnnepgebekaaGreatDoor.PFnDesk
open Go.RowKit Go.Proofs.YtkcgnnepgebekaaGreatDoorW.PrintWords Go.Proofs.YtkcgnnepgebekaaGreatDoorW.PrintLast Go.Proofs.YtkcgnnepgebekaaGreatDoorW.PrintMore
attribute [local go_sem] max2_int min2_int max_two min_two max_three min_three max_four min_four   -- for this text's walks alone
set_option linter.unusedVariables false
set_option linter.unusedSimpArgs false
-- squeezed: words under short names
set_option linter.defProp false in
def z0f := @Aside0.mk
set_option linter.defProp false in
def z1f := @blk_drewN
set_option linter.defProp false in
def z2f := @blk_alloc
set_option linter.defProp false in
def z3f := @blk_drew
set_option linter.defProp false in
def z8f := @Kd.R_alloc
set_option linter.defProp false in
def z9f := @Kd.R_drewN
set_option linter.defProp false in
def y1f := @Kd.R_drew
set_option linter.defProp false in
def x1f := @Kd.R_far
set_option linter.defProp false in
def x2f := @blk_frozen
set_option linter.defProp false in
def x3f := @blk_cell
set_option linter.defProp false in
def x6f := @Kd.R_mono
set_option linter.defProp false in
def x7f := @Kd.R_types
set_option linter.defProp false in
def x8f := @blk_far
def bsf_ (n m : Nat) : Array Bool := ((List.range n).map fun i => m.testBit i).toArray
theorem s1f_ {α : Type} (l : List α) (i : Nat) (a : α) : l.toArray.setIfInBounds i a = (l.set i a).toArray := List.setIfInBounds_toArray l i a
theorem s2f_ {α : Type} (a b : α) (l : List α) : (a :: l).set 0 b = b :: l := rfl
theorem s3f_ {α : Type} (a b : α) (n : Nat) (l : List α) : (a :: l).set (n + 1) b = a :: l.set n b := rfl

def impl_deskCopy.l0 : Nat → List (S27) → Int → Int → Int → Int → List Int → Int → Int → List Int → List (S27) → Option (Int × Int × List Int × Int × Int × List Int × (List (S27)))
 | 0, _, _, _, _, _, _, _, _, _, _ => none
 | k + 1, x22, x23, x24, x235000, x235001, x235002, x235003, x235004, x235005, x235006 => if x24 < x23 then (if 0 ≤ x24 then (if x24 < (x22.length : Int) then ((impl_copied.f ((rd_T27 x22 x24).f0) ((rd_T27 x22 x24).f1) ((rd_T27 x22 x24).f2)).bind fun bt237 => (if x235006.length < 3518437208883 then (impl_deskCopy.l0 k x22 x23 (wrap64 (x24 + 1)) x235000 x235001 x235002 x235003 x235004 x235005 (x235006 ++ [(⟨bt237.1, bt237.2.1, bt237.2.2⟩ : S27)])) else (none))) else (none)) else (none)) else (some (x235000, x235001, x235002, x235003, x235004, x235005, x235006))
def impl_deskCopy.f (k : Nat) (a0_0 : Int) (a0_1 : Int) (l0_2 : List Int) (a0_3 : Int) (a0_4 : Int) (l0_5 : List Int) (l0_6 : List (S27)) : Option (Int × Int × List Int × Int × Int × List Int × (List (S27))) := (impl_copied.f a0_0 a0_1 l0_2).bind fun bt226 => ((slices_Clone_int_int.f l0_5).bind fun t231 => (impl_deskCopy.l0 k l0_6 (l0_6.length : Int) 0 bt226.1 bt226.2.1 bt226.2.2 a0_3 a0_4 t231 ([] : List (S27))))
def impl_deskCopy.T1 : Bool × List (List Nat × List Nat) := (true, [([], []), ([0], [0]), ([1], [1]), ([], []), ([3], [3]), ([4], [4]), ([], []), ([6], [6]), ([7], [7]), ([], []), ([9], [9]), ([10], [10]), ([11, 2], [11]), ([5, 8, 12], [5, 8, 12]), ([2, 13], [2, 13]), ([], []), ([15, 14, 12, 0, 1, 2, 3, 4, 5, 6, 7, 8, 9, 10, 11, 12, 13, 14, 15], [14, 15])])
def impl_deskCopy.B1 : List Nat := [0, 1, 3, 0, 8, 24, 0, 64, 192, 0, 512, 1536, 3591, 8191, 16383, 0, 65535]
theorem impl_deskCopy.tab1 : rtab .any (opsOf Tryz.f37 1) = impl_deskCopy.T1 := by kernel_rfl
theorem impl_deskCopy.bits1 : waitsOk impl_deskCopy.T1.2 impl_deskCopy.B1 = true := by kernel_rfl
def impl_deskCopy.T5 : Bool × List (List Nat × List Nat) := (true, [([], []), ([0], [0]), ([], []), ([2], [2]), ([3], [3]), ([1, 4, 3], [1, 4]), ([0, 1, 2, 3, 4, 5], []), ([6, 5, 5, 0, 1, 2, 3, 4, 5], [5, 6])])
def impl_deskCopy.B5 : List Nat := [0, 1, 0, 4, 12, 31, 63, 127]
theorem impl_deskCopy.tab5 : rtab .any (opsOf Tryz.f37 5) = impl_deskCopy.T5 := by kernel_rfl
theorem impl_deskCopy.bits5 : waitsOk impl_deskCopy.T5.2 impl_deskCopy.B5 = true := by kernel_rfl
set_option maxHeartbeats 8000000 in
set_option maxRecDepth 100000 in
theorem impl_deskCopy.calls (k : Nat) (a0_0 : Int) (a0_1 : Int) (A0_2 : Option Addr) (c0_2 : Nat) (l0_2 : List Int) (a0_3 : Int) (a0_4 : Int) (A0_5 : Option Addr) (c0_5 : Nat) (l0_5 : List Int) (A0_6 : Option Addr) (c0_6 : Nat) (l0_6 : List (S27)) (r1 : Int) (r2 : Int) (r3 : List Int) (r4 : Int) (r5 : Int) (r6 : List Int) (r7 : List (S27)) (w : World) (hr0_2 : Kd.C (Kd.int .i64) w A0_2 l0_2.length l0_2) (hc0_2 : l0_2.length ≤ c0_2) (hr0_5 : Kd.C (Kd.int .i64) w A0_5 l0_5.length l0_5) (hc0_5 : l0_5.length ≤ c0_5) (hr0_6 : Kd.C k27 w A0_6 l0_6.length l0_6) (hc0_6 : l0_6.length ≤ c0_6) (h : impl_deskCopy.f k a0_0 a0_1 l0_2 a0_3 a0_4 l0_5 l0_6 = some (r1, r2, r3, r4, r5, r6, r7)) :
  Calls Tryz.prog 37 #[.agg #[.int .i64 a0_0, .int .i64 a0_1, .slice A0_2 l0_2.length c0_2, .int .i64 a0_3, .int .i64 a0_4, .slice A0_5 l0_5.length c0_5, .slice A0_6 l0_6.length c0_6]] w fun e w' => ∃ v2_ v5_ v6_ : Value, e = .returned (.agg #[.int .i64 r1, .int .i64 r2, v2_, .int .i64 r4, .int .i64 r5, v5_, v6_]) ∧ Kd.R (Kd.int .i64) 3 w' w.heap.size (fun k_ => some k_ ≠ (v5_ : Value).ownBlock) v2_ r3 ∧ Kd.R (Kd.int .i64) 3 w' w.heap.size (fun k_ => some k_ ≠ (v2_ : Value).ownBlock) v5_ r6 ∧ Kd.S k27 27 w' w.heap.size (fun k_ => some k_ ≠ (v2_ : Value).ownBlock ∧ some k_ ≠ (v5_ : Value).ownBlock) v6_ r7 ∧ Below w.heap.size w w' := by
 have hu55 := Tryz.underlying55
 have hu27 := Tryz.underlying27
 have hu31 := Tryz.underlying31
 have HR0_2 := z0f hr0_2
 have HC0_2 := z0f hc0_2
 clear hr0_2 hc0_2
 have HR0_5 := z0f hr0_5
 have HC0_5 := z0f hc0_5
 clear hr0_5 hc0_5
 have HR0_6 := z0f hr0_6
 have HC0_6 := z0f hc0_6
 clear hr0_6 hc0_6
 have HB := z0f (Below.refl w.heap.size w)
 have H := h
 unfold impl_deskCopy.f at H
 clear h
 replace H := Option.bind_eq_some_iff.mp H
 obtain ⟨⟨t226, t227, t228⟩, A20, H⟩ := H
 (try dsimp only at H)
 have A2 := z0f A20
 clear A20
 replace H := Option.bind_eq_some_iff.mp H
 obtain ⟨t231, A30, H⟩ := H
 (try dsimp only at H)
 have A3 := z0f A30
 clear A30
 have H' := z0f H
 clear H
 go_enter Tryz.func37, Tryz.ntmps37
 try go_wp2_with (first | ((with_reducible refine gate_dst (N := 1) rfl ?_); refine box_event rfl (N := 1) rfl (cs := #[.int .i64 a0_0, .int .i64 a0_1, .slice A0_2 l0_2.length c0_2, .int .i64 a0_3, .int .i64 a0_4, .slice A0_5 l0_5.length c0_5, .slice A0_6 l0_6.length c0_6]) (t := 55) (by first | (go_simp; done) | (go_simp; rfl)) ?_; intro gb224 hg w4 hbox hb; have n_ := a4 (dU HB.out hb) (hbox) (gE hg HB.out) (gE hg HB.out); clear HB; obtain ⟨HB, BK224, GW224, GE224⟩ := n_; have gi_224 := GEc.mk GE224.out; clear hb hbox hg) | ((with_reducible refine gate_dst (N := 2) rfl ?_); refine box_event rfl (N := 2) rfl (cs := #[.int .i64 0, .int .i64 0, .slice none 0 0, .int .i64 0, .int .i64 0, .slice none 0 0, .slice none 0 0]) (t := 55) (by first | (go_simp; done) | (go_simp; rfl)) ?_; intro gb225 hg w5 hbox hb; have n_ := a7 (bU BK224.out hb) (dU HB.out hb) (hbox) (gE hg HB.out) (gE hg HB.out) (nL hg BK224.out) (nG hg BK224.out); clear BK224 HB; obtain ⟨BK224, HB, BK225, GW225, GE225, NB224_225, NB225_224⟩ := n_; have gi_225 := GEc.mk GE225.out; clear hb hbox hg))
 have n_ := a3 (z3f BK224.out) (z3f BK225.out) (below_drew1 HB.out); clear BK224 BK225 HB; obtain ⟨BK224, BK225, HB⟩ := n_
 refine start_ (n := 17) (S := fun w' => w'.cell? ⟨gb224, 0, none⟩ = some (.int .i64 a0_0) ∧ w'.cell? ⟨gb224, 1, none⟩ = some (.int .i64 a0_1) ∧ w'.cell? ⟨gb224, 2, none⟩ = some (.slice A0_2 l0_2.length c0_2) ∧ w'.cell? ⟨gb224, 3, none⟩ = some (.int .i64 a0_3) ∧ w'.cell? ⟨gb224, 4, none⟩ = some (.int .i64 a0_4) ∧ w'.cell? ⟨gb224, 5, none⟩ = some (.slice A0_5 l0_5.length c0_5) ∧ w'.cell? ⟨gb224, 6, none⟩ = some (.slice A0_6 l0_6.length c0_6)) (ds := []) (bsf_ 17 0) (by kernel_rfl) rfl rfl ⟨(x3f BK224.out 0).trans rfl, (x3f BK224.out 1).trans rfl, (x3f BK224.out 2).trans rfl, (x3f BK224.out 3).trans rfl, (x3f BK224.out 4).trans rfl, (x3f BK224.out 5).trans rfl, (x3f BK224.out 6).trans rfl⟩ (fun hHeld => ?_); refine with_tabW impl_deskCopy.tab1 impl_deskCopy.bits1 (fun HT_ HW_ => ?_)
 generalize w5.drew = w6 at BK224 BK225 HB hHeld ⊢
 refine pz 0 (some 6) ?_ (bsf_ 17 1) rfl rfl HT_.out (by kernel_rfl) (fun _ _ _ h => h) (Or.inl ⟨by rfl, ?_⟩) ?_ ?_ ?_
 rotate_left
 ·intro w'
  go_simp
  with_reducible rfl
 rotate_left
 ·simp only [Act.put, s1f_, s2f_, s3f_, i64_w, i32_w]
  rfl
 refine pz 3 (some 9) ?_ (bsf_ 17 9) rfl rfl HT_.out (by kernel_rfl) (fun _ _ _ h => h) (Or.inl ⟨by rfl, ?_⟩) ?_ ?_ ?_
 rotate_left
 ·intro w'
  go_simp
  with_reducible rfl
 rotate_left
 ·simp only [Act.put, s1f_, s2f_, s3f_, i64_w, i32_w]
  rfl
 refine pz 4 (some 10) ?_ (bsf_ 17 25) rfl rfl HT_.out (by kernel_rfl) (fun _ _ _ h => h) (Or.inl ⟨by rfl, ?_⟩) ?_ ?_ ?_
 rotate_left
 ·intro w'
  go_simp
  with_reducible rfl
 rotate_left
 ·simp only [Act.put, s1f_, s2f_, s3f_, i64_w, i32_w]
  rfl
 refine pz 6 (some 12) ?_ (bsf_ 17 89) rfl rfl HT_.out (by kernel_rfl) (fun _ _ _ h => h) (Or.inl ⟨by rfl, ?_⟩) ?_ ?_ ?_
 rotate_left
 ·intro w'
  go_simp
  with_reducible rfl
 rotate_left
 ·simp only [Act.put, s1f_, s2f_, s3f_, i64_w, i32_w]
  rfl
 refine pz 7 (some 13) ?_ (bsf_ 17 217) rfl rfl HT_.out (by kernel_rfl) (fun _ _ _ h => h) (Or.inl ⟨by rfl, ?_⟩) ?_ ?_ ?_
 rotate_left
 ·intro w'
  go_simp
  with_reducible rfl
 rotate_left
 ·simp only [Act.put, s1f_, s2f_, s3f_, i64_w, i32_w]
  rfl
 refine pz 9 (some 15) ?_ (bsf_ 17 729) rfl rfl HT_.out (by kernel_rfl) (fun _ _ _ h => h) (Or.inl ⟨by rfl, ?_⟩) ?_ ?_ ?_
 rotate_left
 ·intro w'
  go_simp
  with_reducible rfl
 rotate_left
 ·simp only [Act.put, s1f_, s2f_, s3f_, i64_w, i32_w]
  rfl
 refine pz 10 (some 16) ?_ (bsf_ 17 1753) rfl rfl HT_.out (by kernel_rfl) (fun _ _ _ h => h) (Or.inl ⟨by rfl, ?_⟩) ?_ ?_ ?_
 rotate_left
 ·intro w'
  go_simp
  with_reducible rfl
 rotate_left
 ·simp only [Act.put, s1f_, s2f_, s3f_, i64_w, i32_w]
  rfl
 refine take_ (i := 1) (N := some 7) (v := ?_) (a' := ?_) (bsf_ 17 1755) rfl rfl (take_ofW HT_.out HW_.out (by kernel_rfl)) (fun _ _ _ h => h) (Or.inl ⟨by rfl, ?_⟩) hHeld ?_ ?_
 rotate_left
 ·rintro w' ⟨s0, s1, s2, s3, s4, s5, s6⟩
  go_simp
  with_reducible rfl
 rotate_left
 ·simp only [Act.put, s1f_, s2f_, s3f_, i64_w, i32_w]
  rfl
 refine take_ (i := 5) (N := some 11) (v := ?_) (a' := ?_) (bsf_ 17 1787) rfl rfl (take_ofW HT_.out HW_.out (by kernel_rfl)) (fun _ _ _ h => h) (Or.inl ⟨by rfl, ?_⟩) hHeld ?_ ?_
 rotate_left
 ·rintro w' ⟨s0, s1, s2, s3, s4, s5, s6⟩
  go_simp
  with_reducible rfl
 rotate_left
 ·simp only [Act.put, s1f_, s2f_, s3f_, i64_w, i32_w]
  rfl
 refine take_ (i := 8) (N := some 14) (v := ?_) (a' := ?_) (bsf_ 17 2043) rfl rfl (take_ofW HT_.out HW_.out (by kernel_rfl)) (fun _ _ _ h => h) (Or.inl ⟨by rfl, ?_⟩) hHeld ?_ ?_
 rotate_left
 ·rintro w' ⟨s0, s1, s2, s3, s4, s5, s6⟩
  go_simp
  with_reducible rfl
 rotate_left
 ·simp only [Act.put, s1f_, s2f_, s3f_, i64_w, i32_w]
  rfl
 refine take_ (i := 11) (N := some 17) (v := ?_) (a' := ?_) (bsf_ 17 4091) rfl rfl (take_ofW HT_.out HW_.out (by kernel_rfl)) (fun _ _ _ h => h) (Or.inl ⟨by rfl, ?_⟩) hHeld ?_ ?_
 rotate_left
 ·rintro w' ⟨s0, s1, s2, s3, s4, s5, s6⟩
  go_simp
  with_reducible rfl
 rotate_left
 ·simp only [Act.put, s1f_, s2f_, s3f_, i64_w, i32_w]
  rfl
 refine join_ (σ := Value × Value × Nat) 1 (bsf_ 17 65535) (fun s_ => [(8, .agg #[.int .i64 t226, .int .i64 t227, s_.1]), (18, s_.2.1), (3, .pointer (some ⟨s_.2.2, 0, none⟩)), (19, .agg #[.int .i64 a0_3, .int .i64 a0_4, s_.2.1]), (20, .agg #[.int .i64 t226, .int .i64 t227, s_.1, .int .i64 a0_3, .int .i64 a0_4, s_.2.1, .slice none 0 0])]) (fun s_ w' => (w'.cell? ⟨gb224, 0, none⟩ = some (.int .i64 a0_0) ∧ w'.cell? ⟨gb224, 1, none⟩ = some (.int .i64 a0_1) ∧ w'.cell? ⟨gb224, 2, none⟩ = some (.slice A0_2 l0_2.length c0_2) ∧ w'.cell? ⟨gb224, 3, none⟩ = some (.int .i64 a0_3) ∧ w'.cell? ⟨gb224, 4, none⟩ = some (.int .i64 a0_4) ∧ w'.cell? ⟨gb224, 5, none⟩ = some (.slice A0_5 l0_5.length c0_5) ∧ w'.cell? ⟨gb224, 6, none⟩ = some (.slice A0_6 l0_6.length c0_6)) ∧ (Kd.R (Kd.int .i64) 3 w' w.heap.size (fun k_ => some k_ ≠ (s_.2.1 : Value).ownBlock) s_.1 t228) ∧ (Kd.R (Kd.int .i64) 3 w' w.heap.size (fun k_ => some k_ ≠ (s_.1 : Value).ownBlock) s_.2.1 t231) ∧ (w'.heap[gb224]? = some (.cells #[.int .i64 a0_0, .int .i64 a0_1, .slice A0_2 l0_2.length c0_2, .int .i64 a0_3, .int .i64 a0_4, .slice A0_5 l0_5.length c0_5, .slice A0_6 l0_6.length c0_6] 55 (0, 0))) ∧ (w'.heap[gb225]? = some (.cells #[.int .i64 0, .int .i64 0, .slice none 0 0, .int .i64 0, .int .i64 0, .slice none 0 0, .slice none 0 0] 55 (0, 0))) ∧ (w'.heap[s_.2.2]? = some (.cells #[.int .i64 0, .int .i64 0, .slice none 0 0, .int .i64 0, .int .i64 0, .slice none 0 0, .slice none 0 0] 55 (0, 0))) ∧ (w.heap.size ≤ s_.2.2) ∧ (w.heap.size ≤ s_.2.2) ∧ (gb224 ≠ s_.2.2) ∧ (s_.2.2 ≠ gb224) ∧ (gb225 ≠ s_.2.2) ∧ (s_.2.2 ≠ gb225) ∧ (Below w.heap.size w w')) ?_ ?_
 rotate_left
 ·intro hCont
  refine two_ (i := 2) (j := 15) (Ni := some 8) (Nj := some 3) (bsf_ 17 4095) (bsf_ 17 36859) rfl rfl rfl rfl (two_of HT_.out (by kernel_rfl)) (by decide) (by decide) (fun K hK => ?_) (fun K hK => ?_)
  ·skip
   refine goes_ Tryz.func50 (by kernel_rfl) rfl #[.agg #[.int .i64 a0_0, .int .i64 a0_1, .slice A0_2 l0_2.length c0_2]] (by rfl) rfl rfl (by (try simp only [List.map_toArray, List.map_cons, List.map_nil]); first | done | rfl | (simp only [List.length_drop, List.length_take]; rfl)) ?_
   with_reducible refine (impl_copied.calls a0_0 a0_1 _ _ l0_2 t226 t227 t228 _ ?side1 ?side2 A2.out).mono ?_
   (case side1 => repeat (first | exact HR0_2.out | exact (Kd.C_below HR0_2.out HB.out) | (with_reducible refine Kd.C_alloc ?_ _) | (with_reducible refine Kd.C_drewN ?_ _) | (with_reducible refine Kd.C_drew ?_)))
   (case side2 => exact HC0_2.out)
   rintro e w7 ⟨v229, rfl, ho0, hb⟩
   refine ⟨_, rfl, ?_⟩
   have n_ := a4 (Kd.R_lower ho0 (below_size (dV HB.out))) (bU BK224.out hb) (bU BK225.out hb) (dU HB.out hb); clear BK224 BK225 HB; obtain ⟨HO230, BK224, BK225, HB⟩ := n_
   (try clear hb)
   (try clear ho0)
   refine hK.out _ _ ⟨(x3f BK224.out 0).trans rfl, (x3f BK224.out 1).trans rfl, (x3f BK224.out 2).trans rfl, (x3f BK224.out 3).trans rfl, (x3f BK224.out 4).trans rfl, (x3f BK224.out 5).trans rfl, (x3f BK224.out 6).trans rfl⟩ (fun hHeld => ?_)
   clear hK K
   refine norm_ (a' := ?_) ?_ ?_
   rotate_left
   ·show Act.put _ (some 8) _ = _
    simp only [Act.put, s1f_, s2f_, s3f_, i64_w, i32_w]
    rfl
   refine two_ (i := 12) (j := 15) (Ni := some 18) (Nj := some 3) (bsf_ 17 8191) (bsf_ 17 36863) rfl rfl rfl rfl (two_of HT_.out (by kernel_rfl)) (by decide) (by decide) (fun K hK => ?_) (fun K hK => ?_)
   ·skip
    refine goes_ Tryz.func51 (by kernel_rfl) rfl #[.slice A0_5 l0_5.length c0_5] (by rfl) rfl rfl (by (try simp only [List.map_toArray, List.map_cons, List.map_nil]); first | done | rfl | (simp only [List.length_drop, List.length_take]; rfl)) ?_
    with_reducible refine (slices_Clone_int_int.calls _ _ l0_5 t231 _ ?side1 ?side2 A3.out).mono ?_
    (case side1 => repeat (first | exact HR0_5.out | exact (Kd.C_below HR0_5.out HB.out) | (with_reducible refine Kd.C_alloc ?_ _) | (with_reducible refine Kd.C_drewN ?_ _) | (with_reducible refine Kd.C_drew ?_)))
    (case side2 => exact HC0_5.out)
    rintro e w8 ⟨v232, rfl, ho0, hb⟩
    refine ⟨_, rfl, ?_⟩
    have n_ := a5 (Kd.R_elder' (rV HO230.out) (Kd.R_base ho0) hb) (Kd.R_lower (Kd.R_new' ho0 (Kd.R_lt (rV HO230.out))) (below_size (dV HB.out))) (bU BK224.out hb) (bU BK225.out hb) (dU HB.out hb); clear HO230 BK224 BK225 HB; obtain ⟨HO230, HO233, BK224, BK225, HB⟩ := n_
    (try clear hb)
    (try clear ho0)
    obtain ⟨Ao9, co9, eo9⟩ := Kd.R_slice HO233.out
    (first | subst eo9 | (injection eo9 with f1_ f2_ f3_; have f4_ := f1_.symm; have f5_ := f3_.symm; clear f1_ f2_ f3_; subst f4_; subst f5_))
    obtain ⟨Ao10, co10, eo10⟩ := Kd.R_slice HO230.out
    (first | subst eo10 | (injection eo10 with f1_ f2_ f3_; have f4_ := f1_.symm; have f5_ := f3_.symm; clear f1_ f2_ f3_; subst f4_; subst f5_))
    refine hK.out _ _ ⟨(x3f BK224.out 0).trans rfl, (x3f BK224.out 1).trans rfl, (x3f BK224.out 2).trans rfl, (x3f BK224.out 3).trans rfl, (x3f BK224.out 4).trans rfl, (x3f BK224.out 5).trans rfl, (x3f BK224.out 6).trans rfl⟩ (fun hHeld => ?_)
    clear hK K
    refine norm_ (a' := ?_) ?_ ?_
    rotate_left
    ·show Act.put _ (some 18) _ = _
     simp only [Act.put, s1f_, s2f_, s3f_, i64_w, i32_w]
     rfl
    refine pz 13 (some 19) ?_ (bsf_ 17 16383) rfl rfl HT_.out (by kernel_rfl) (fun _ _ _ h => h) (Or.inl ⟨by rfl, ?_⟩) ?_ ?_ ?_
    rotate_left
    ·intro w'
     go_simp
     with_reducible rfl
    rotate_left
    ·simp only [Act.put, s1f_, s2f_, s3f_, i64_w, i32_w]
     rfl
    refine pz 14 (some 20) ?_ (bsf_ 17 32767) rfl rfl HT_.out (by kernel_rfl) (fun _ _ _ h => h) (Or.inl ⟨by rfl, ?_⟩) ?_ ?_ ?_
    rotate_left
    ·intro w'
     go_simp
     with_reducible rfl
    rotate_left
    ·simp only [Act.put, s1f_, s2f_, s3f_, i64_w, i32_w]
     rfl
    refine one_ (i := 15) (N := some 3) (bsf_ 17 65535) rfl rfl (one_of HT_.out (by kernel_rfl)) (by decide) (fun K hK => ?_)
    refine box_step ?hg (N := 3) ?hd (cs := #[.int .i64 0, .int .i64 0, .slice none 0 0, .int .i64 0, .int .i64 0, .slice none 0 0, .slice none 0 0]) (t := 55) ?hr ?_; (case hd => rfl); (case hg => rfl); (case hr => first | (go_simp; done) | (go_simp; rfl))
    intro gb234 hg w11 hbox hb
    have n_ := a12 (Kd.R_below (rV HO230.out) hb) (Kd.R_below (rV HO233.out) hb) (bU BK224.out hb) (bU BK225.out hb) (dU HB.out hb) (hbox) (gE hg HB.out) (gE hg HB.out) (nL hg BK224.out) (nG hg BK224.out) (nL hg BK225.out) (nG hg BK225.out); clear HO230 HO233 BK224 BK225 HB; obtain ⟨HO230, HO233, BK224, BK225, HB, BK234, GW234, GE234, NB224_234, NB234_224, NB225_234, NB234_225⟩ := n_; have gi_234 := GEc.mk GE234.out
    clear hb hbox hg
    refine hK.out _ _ ⟨(x3f BK224.out 0).trans rfl, (x3f BK224.out 1).trans rfl, (x3f BK224.out 2).trans rfl, (x3f BK224.out 3).trans rfl, (x3f BK224.out 4).trans rfl, (x3f BK224.out 5).trans rfl, (x3f BK224.out 6).trans rfl⟩ (fun hHeld => ?_)
    clear hK K
    refine norm_ (a' := ?_) ?_ ?_
    rotate_left
    ·show Act.put _ (some 3) _ = _
     simp only [Act.put, s1f_, s2f_, s3f_, i64_w, i32_w]
     rfl
    exact norm_ (by simp only [putAll, Act.put, s1f_, s2f_, s3f_]) (hCont (.slice Ao10 t228.length co10, .slice Ao9 t231.length co9, gb234) _ ⟨hHeld, (by (with_reducible repeat (first | apply z8f | apply z9f | apply y1f)); exact x6f HO230.out (fun _ hk => hk.2)), (by (with_reducible repeat (first | apply z8f | apply z9f | apply y1f)); exact x6f HO233.out (fun _ hk => hk.2)), (bV BK224.out), (bV BK225.out), (bV BK234.out), GW234.out, GE234.out, NB224_234.out, NB234_224.out, NB225_234.out, NB234_225.out, (dV HB.out)⟩)
   ·skip
    refine box_step ?hg (N := 3) ?hd (cs := #[.int .i64 0, .int .i64 0, .slice none 0 0, .int .i64 0, .int .i64 0, .slice none 0 0, .slice none 0 0]) (t := 55) ?hr ?_; (case hd => rfl); (case hg => rfl); (case hr => first | (go_simp; done) | (go_simp; rfl))
    intro gb234 hg w8 hbox hb
    have n_ := a11 (Kd.R_below (rV HO230.out) hb) (bU BK224.out hb) (bU BK225.out hb) (dU HB.out hb) (hbox) (gE hg HB.out) (gE hg HB.out) (nL hg BK224.out) (nG hg BK224.out) (nL hg BK225.out) (nG hg BK225.out); clear HO230 BK224 BK225 HB; obtain ⟨HO230, BK224, BK225, HB, BK234, GW234, GE234, NB224_234, NB234_224, NB225_234, NB234_225⟩ := n_; have gi_234 := GEc.mk GE234.out
    clear hb hbox hg
    refine hK.out _ _ ⟨(x3f BK224.out 0).trans rfl, (x3f BK224.out 1).trans rfl, (x3f BK224.out 2).trans rfl, (x3f BK224.out 3).trans rfl, (x3f BK224.out 4).trans rfl, (x3f BK224.out 5).trans rfl, (x3f BK224.out 6).trans rfl⟩ (fun hHeld => ?_)
    clear hK K
    refine norm_ (a' := ?_) ?_ ?_
    rotate_left
    ·show Act.put _ (some 3) _ = _
     simp only [Act.put, s1f_, s2f_, s3f_, i64_w, i32_w]
     rfl
    refine one_ (i := 12) (N := some 18) (bsf_ 17 40959) rfl rfl (one_of HT_.out (by kernel_rfl)) (by decide) (fun K hK => ?_)
    refine goes_ Tryz.func51 (by kernel_rfl) rfl #[.slice A0_5 l0_5.length c0_5] (by rfl) rfl rfl (by (try simp only [List.map_toArray, List.map_cons, List.map_nil]); first | done | rfl | (simp only [List.length_drop, List.length_take]; rfl)) ?_
    with_reducible refine (slices_Clone_int_int.calls _ _ l0_5 t231 _ ?side1 ?side2 A3.out).mono ?_
    (case side1 => repeat (first | exact HR0_5.out | exact (Kd.C_below HR0_5.out HB.out) | (with_reducible refine Kd.C_alloc ?_ _) | (with_reducible refine Kd.C_drewN ?_ _) | (with_reducible refine Kd.C_drew ?_)))
    (case side2 => exact HC0_5.out)
    rintro e w9 ⟨v232, rfl, ho0, hb⟩
    refine ⟨_, rfl, ?_⟩
    have n_ := a6 (Kd.R_elder' (rV HO230.out) (Kd.R_base ho0) hb) (Kd.R_lower (Kd.R_new' ho0 (Kd.R_lt (rV HO230.out))) (below_size (dV HB.out))) (bU BK224.out hb) (bU BK225.out hb) (bU BK234.out hb) (dU HB.out hb); clear HO230 BK224 BK225 BK234 HB; obtain ⟨HO230, HO233, BK224, BK225, BK234, HB⟩ := n_
    (try clear hb)
    (try clear ho0)
    obtain ⟨Ao10, co10, eo10⟩ := Kd.R_slice HO233.out
    (first | subst eo10 | (injection eo10 with f1_ f2_ f3_; have f4_ := f1_.symm; have f5_ := f3_.symm; clear f1_ f2_ f3_; subst f4_; subst f5_))
    obtain ⟨Ao11, co11, eo11⟩ := Kd.R_slice HO230.out
    (first | subst eo11 | (injection eo11 with f1_ f2_ f3_; have f4_ := f1_.symm; have f5_ := f3_.symm; clear f1_ f2_ f3_; subst f4_; subst f5_))
    refine hK.out _ _ ⟨(x3f BK224.out 0).trans rfl, (x3f BK224.out 1).trans rfl, (x3f BK224.out 2).trans rfl, (x3f BK224.out 3).trans rfl, (x3f BK224.out 4).trans rfl, (x3f BK224.out 5).trans rfl, (x3f BK224.out 6).trans rfl⟩ (fun hHeld => ?_)
    clear hK K
    refine norm_ (a' := ?_) ?_ ?_
    rotate_left
    ·show Act.put _ (some 18) _ = _
     simp only [Act.put, s1f_, s2f_, s3f_, i64_w, i32_w]
     rfl
    refine pz 13 (some 19) ?_ (bsf_ 17 49151) rfl rfl HT_.out (by kernel_rfl) (fun _ _ _ h => h) (Or.inl ⟨by rfl, ?_⟩) ?_ ?_ ?_
    rotate_left
    ·intro w'
     go_simp
     with_reducible rfl
    rotate_left
    ·simp only [Act.put, s1f_, s2f_, s3f_, i64_w, i32_w]
     rfl
    refine pz 14 (some 20) ?_ (bsf_ 17 65535) rfl rfl HT_.out (by kernel_rfl) (fun _ _ _ h => h) (Or.inl ⟨by rfl, ?_⟩) ?_ ?_ ?_
    rotate_left
    ·intro w'
     go_simp
     with_reducible rfl
    rotate_left
    ·simp only [Act.put, s1f_, s2f_, s3f_, i64_w, i32_w]
     rfl
    exact norm_ (by simp only [putAll, Act.put, s1f_, s2f_, s3f_]) (hCont (.slice Ao11 t228.length co11, .slice Ao10 t231.length co10, gb234) _ ⟨hHeld, (by (with_reducible repeat (first | apply z8f | apply z9f | apply y1f)); exact x6f HO230.out (fun _ hk => hk.2)), (by (with_reducible repeat (first | apply z8f | apply z9f | apply y1f)); exact x6f HO233.out (fun _ hk => hk.2)), (bV BK224.out), (bV BK225.out), (bV BK234.out), GW234.out, GE234.out, NB224_234.out, NB234_224.out, NB225_234.out, NB234_225.out, (dV HB.out)⟩)
  ·skip
   refine box_step ?hg (N := 3) ?hd (cs := #[.int .i64 0, .int .i64 0, .slice none 0 0, .int .i64 0, .int .i64 0, .slice none 0 0, .slice none 0 0]) (t := 55) ?hr ?_; (case hd => rfl); (case hg => rfl); (case hr => first | (go_simp; done) | (go_simp; rfl))
   intro gb234 hg w7 hbox hb
   have n_ := a10 (bU BK224.out hb) (bU BK225.out hb) (dU HB.out hb) (hbox) (gE hg HB.out) (gE hg HB.out) (nL hg BK224.out) (nG hg BK224.out) (nL hg BK225.out) (nG hg BK225.out); clear BK224 BK225 HB; obtain ⟨BK224, BK225, HB, BK234, GW234, GE234, NB224_234, NB234_224, NB225_234, NB234_225⟩ := n_; have gi_234 := GEc.mk GE234.out
   clear hb hbox hg
   refine hK.out _ _ ⟨(x3f BK224.out 0).trans rfl, (x3f BK224.out 1).trans rfl, (x3f BK224.out 2).trans rfl, (x3f BK224.out 3).trans rfl, (x3f BK224.out 4).trans rfl, (x3f BK224.out 5).trans rfl, (x3f BK224.out 6).trans rfl⟩ (fun hHeld => ?_)
   clear hK K
   refine norm_ (a' := ?_) ?_ ?_
   rotate_left
   ·show Act.put _ (some 3) _ = _
    simp only [Act.put, s1f_, s2f_, s3f_, i64_w, i32_w]
    rfl
   refine one_ (i := 2) (N := some 8) (bsf_ 17 36863) rfl rfl (one_of HT_.out (by kernel_rfl)) (by decide) (fun K hK => ?_)
   refine goes_ Tryz.func50 (by kernel_rfl) rfl #[.agg #[.int .i64 a0_0, .int .i64 a0_1, .slice A0_2 l0_2.length c0_2]] (by rfl) rfl rfl (by (try simp only [List.map_toArray, List.map_cons, List.map_nil]); first | done | rfl | (simp only [List.length_drop, List.length_take]; rfl)) ?_
   with_reducible refine (impl_copied.calls a0_0 a0_1 _ _ l0_2 t226 t227 t228 _ ?side1 ?side2 A2.out).mono ?_
   (case side1 => repeat (first | exact HR0_2.out | exact (Kd.C_below HR0_2.out HB.out) | (with_reducible refine Kd.C_alloc ?_ _) | (with_reducible refine Kd.C_drewN ?_ _) | (with_reducible refine Kd.C_drew ?_)))
   (case side2 => exact HC0_2.out)
   rintro e w8 ⟨v229, rfl, ho0, hb⟩
   refine ⟨_, rfl, ?_⟩
   have n_ := a5 (Kd.R_lower ho0 (below_size (dV HB.out))) (bU BK224.out hb) (bU BK225.out hb) (bU BK234.out hb) (dU HB.out hb); clear BK224 BK225 BK234 HB; obtain ⟨HO230, BK224, BK225, BK234, HB⟩ := n_
   (try clear hb)
   (try clear ho0)
   refine hK.out _ _ ⟨(x3f BK224.out 0).trans rfl, (x3f BK224.out 1).trans rfl, (x3f BK224.out 2).trans rfl, (x3f BK224.out 3).trans rfl, (x3f BK224.out 4).trans rfl, (x3f BK224.out 5).trans rfl, (x3f BK224.out 6).trans rfl⟩ (fun hHeld => ?_)
   clear hK K
   refine norm_ (a' := ?_) ?_ ?_
   rotate_left
   ·show Act.put _ (some 8) _ = _
    simp only [Act.put, s1f_, s2f_, s3f_, i64_w, i32_w]
    rfl
   refine one_ (i := 12) (N := some 18) (bsf_ 17 40959) rfl rfl (one_of HT_.out (by kernel_rfl)) (by decide) (fun K hK => ?_)
   refine goes_ Tryz.func51 (by kernel_rfl) rfl #[.slice A0_5 l0_5.length c0_5] (by rfl) rfl rfl (by (try simp only [List.map_toArray, List.map_cons, List.map_nil]); first | done | rfl | (simp only [List.length_drop, List.length_take]; rfl)) ?_
   with_reducible refine (slices_Clone_int_int.calls _ _ l0_5 t231 _ ?side1 ?side2 A3.out).mono ?_
   (case side1 => repeat (first | exact HR0_5.out | exact (Kd.C_below HR0_5.out HB.out) | (with_reducible refine Kd.C_alloc ?_ _) | (with_reducible refine Kd.C_drewN ?_ _) | (with_reducible refine Kd.C_drew ?_)))
   (case side2 => exact HC0_5.out)
   rintro e w9 ⟨v232, rfl, ho0, hb⟩
   refine ⟨_, rfl, ?_⟩
   have n_ := a6 (Kd.R_elder' (rV HO230.out) (Kd.R_base ho0) hb) (Kd.R_lower (Kd.R_new' ho0 (Kd.R_lt (rV HO230.out))) (below_size (dV HB.out))) (bU BK224.out hb) (bU BK225.out hb) (bU BK234.out hb) (dU HB.out hb); clear HO230 BK224 BK225 BK234 HB; obtain ⟨HO230, HO233, BK224, BK225, BK234, HB⟩ := n_
   (try clear hb)
   (try clear ho0)
   obtain ⟨Ao10, co10, eo10⟩ := Kd.R_slice HO233.out
   (first | subst eo10 | (injection eo10 with f1_ f2_ f3_; have f4_ := f1_.symm; have f5_ := f3_.symm; clear f1_ f2_ f3_; subst f4_; subst f5_))
   obtain ⟨Ao11, co11, eo11⟩ := Kd.R_slice HO230.out
   (first | subst eo11 | (injection eo11 with f1_ f2_ f3_; have f4_ := f1_.symm; have f5_ := f3_.symm; clear f1_ f2_ f3_; subst f4_; subst f5_))
   refine hK.out _ _ ⟨(x3f BK224.out 0).trans rfl, (x3f BK224.out 1).trans rfl, (x3f BK224.out 2).trans rfl, (x3f BK224.out 3).trans rfl, (x3f BK224.out 4).trans rfl, (x3f BK224.out 5).trans rfl, (x3f BK224.out 6).trans rfl⟩ (fun hHeld => ?_)
   clear hK K
   refine norm_ (a' := ?_) ?_ ?_
   rotate_left
   ·show Act.put _ (some 18) _ = _
    simp only [Act.put, s1f_, s2f_, s3f_, i64_w, i32_w]
    rfl
   refine pz 13 (some 19) ?_ (bsf_ 17 49151) rfl rfl HT_.out (by kernel_rfl) (fun _ _ _ h => h) (Or.inl ⟨by rfl, ?_⟩) ?_ ?_ ?_
   rotate_left
   ·intro w'
    go_simp
    with_reducible rfl
   rotate_left
   ·simp only [Act.put, s1f_, s2f_, s3f_, i64_w, i32_w]
    rfl
   refine pz 14 (some 20) ?_ (bsf_ 17 65535) rfl rfl HT_.out (by kernel_rfl) (fun _ _ _ h => h) (Or.inl ⟨by rfl, ?_⟩) ?_ ?_ ?_
   rotate_left
   ·intro w'
    go_simp
    with_reducible rfl
   rotate_left
   ·simp only [Act.put, s1f_, s2f_, s3f_, i64_w, i32_w]
    rfl
   exact norm_ (by simp only [putAll, Act.put, s1f_, s2f_, s3f_]) (hCont (.slice Ao11 t228.length co11, .slice Ao10 t231.length co10, gb234) _ ⟨hHeld, (by (with_reducible repeat (first | apply z8f | apply z9f | apply y1f)); exact x6f HO230.out (fun _ hk => hk.2)), (by (with_reducible repeat (first | apply z8f | apply z9f | apply y1f)); exact x6f HO233.out (fun _ hk => hk.2)), (bV BK224.out), (bV BK225.out), (bV BK234.out), GW234.out, GE234.out, NB224_234.out, NB234_224.out, NB225_234.out, NB234_225.out, (dV HB.out)⟩)
 rintro ⟨v229, v232, gb234⟩ w12 ⟨hS_, h0_, h1_, h2_, h3_, h4_, h5_, h6_, h7_, h8_, h9_, h10_, h11_⟩
 have n0_ : Aside0 (Kd.R (Kd.int .i64) 3 w12 w.heap.size (fun k_ => some k_ ≠ (v232 : Value).ownBlock) v229 t228) := ⟨h0_⟩
 have n1_ : Aside0 (Kd.R (Kd.int .i64) 3 w12 w.heap.size (fun k_ => some k_ ≠ (v229 : Value).ownBlock) v232 t231) := ⟨h1_⟩
 have n2_ : Aside0 (w12.heap[gb224]? = some (.cells #[.int .i64 a0_0, .int .i64 a0_1, .slice A0_2 l0_2.length c0_2, .int .i64 a0_3, .int .i64 a0_4, .slice A0_5 l0_5.length c0_5, .slice A0_6 l0_6.length c0_6] 55 (0, 0))) := ⟨h2_⟩
 have n3_ : Aside0 (w12.heap[gb225]? = some (.cells #[.int .i64 0, .int .i64 0, .slice none 0 0, .int .i64 0, .int .i64 0, .slice none 0 0, .slice none 0 0] 55 (0, 0))) := ⟨h3_⟩
 have n4_ : Aside0 (w12.heap[gb234]? = some (.cells #[.int .i64 0, .int .i64 0, .slice none 0 0, .int .i64 0, .int .i64 0, .slice none 0 0, .slice none 0 0] 55 (0, 0))) := ⟨h4_⟩
 have n5_ : Aside0 (w.heap.size ≤ gb234) := ⟨h5_⟩
 have n6_ : Aside0 (w.heap.size ≤ gb234) := ⟨h6_⟩
 have n7_ : Aside0 (gb224 ≠ gb234) := ⟨h7_⟩
 have n8_ : Aside0 (gb234 ≠ gb224) := ⟨h8_⟩
 have n9_ : Aside0 (gb225 ≠ gb234) := ⟨h9_⟩
 have n10_ : Aside0 (gb234 ≠ gb225) := ⟨h10_⟩
 have n11_ : Aside0 (Below w.heap.size w w12) := ⟨h11_⟩
 clear BK224
 clear BK225
 clear HB
 clear h0_ h1_ h2_ h3_ h4_ h5_ h6_ h7_ h8_ h9_ h10_ h11_
 have HO230 := n0_
 have HO233 := n1_
 have BK224 := n2_
 have BK225 := n3_
 have BK234 := n4_
 have GW234 := n5_
 have GE234 := n6_; have gi_234 := GEc.mk GE234.out
 have NB224_234 := n7_
 have NB234_224 := n8_
 have NB225_234 := n9_
 have NB234_225 := n10_
 have HB := n11_
 clear n0_ n1_ n2_ n3_ n4_ n5_ n6_ n7_ n8_ n9_ n10_ n11_
 have hHeld : w12.cell? ⟨gb224, 0, none⟩ = some (.int .i64 a0_0) ∧ w12.cell? ⟨gb224, 1, none⟩ = some (.int .i64 a0_1) ∧ w12.cell? ⟨gb224, 2, none⟩ = some (.slice A0_2 l0_2.length c0_2) ∧ w12.cell? ⟨gb224, 3, none⟩ = some (.int .i64 a0_3) ∧ w12.cell? ⟨gb224, 4, none⟩ = some (.int .i64 a0_4) ∧ w12.cell? ⟨gb224, 5, none⟩ = some (.slice A0_5 l0_5.length c0_5) ∧ w12.cell? ⟨gb224, 6, none⟩ = some (.slice A0_6 l0_6.length c0_6) := hS_
 obtain ⟨Ao13, co13, eo13⟩ := Kd.R_slice HO233.out
 (first | subst eo13 | (injection eo13 with f1_ f2_ f3_; have f4_ := f1_.symm; have f5_ := f3_.symm; clear f1_ f2_ f3_; subst f4_; subst f5_))
 obtain ⟨Ao14, co14, eo14⟩ := Kd.R_slice HO230.out
 (first | subst eo14 | (injection eo14 with f1_ f2_ f3_; have f4_ := f1_.symm; have f5_ := f3_.symm; clear f1_ f2_ f3_; subst f4_; subst f5_))
 refine norm_ (a' := ?_) ?_ ?_
 rotate_left
 ·simp only [putAll, Act.put, s1f_, s2f_, s3f_]
  rfl
 refine one_ (i := 16) (N := none) (bsf_ 17 131071) rfl rfl (one_of HT_.out (by kernel_rfl)) (by decide) (fun K hK => ?_)
 have hs15 : w12.cell? ⟨gb234, 0, none⟩ = some (.int .i64 0) := (x3f BK234.out 0).trans rfl
 have hfs15 := x2f BK234.out 0
 have hns15_0 := NB224_234.out
 have hns15_1 := NB225_234.out
 have hms15_0 := NB234_224.out
 have hms15_1 := NB234_225.out
 have hs16 : w12.cell? ⟨gb234, 1, none⟩ = some (.int .i64 0) := (x3f BK234.out 1).trans rfl
 have hfs16 := x2f BK234.out 1
 have hns16_0 := NB224_234.out
 have hns16_1 := NB225_234.out
 have hms16_0 := NB234_224.out
 have hms16_1 := NB234_225.out
 have hs17 : w12.cell? ⟨gb234, 2, none⟩ = some (.slice none 0 0) := (x3f BK234.out 2).trans rfl
 have hfs17 := x2f BK234.out 2
 have hns17_0 := NB224_234.out
 have hns17_1 := NB225_234.out
 have hms17_0 := NB234_224.out
 have hms17_1 := NB234_225.out
 have hs18 : w12.cell? ⟨gb234, 3, none⟩ = some (.int .i64 0) := (x3f BK234.out 3).trans rfl
 have hfs18 := x2f BK234.out 3
 have hns18_0 := NB224_234.out
 have hns18_1 := NB225_234.out
 have hms18_0 := NB234_224.out
 have hms18_1 := NB234_225.out
 have hs19 : w12.cell? ⟨gb234, 4, none⟩ = some (.int .i64 0) := (x3f BK234.out 4).trans rfl
 have hfs19 := x2f BK234.out 4
 have hns19_0 := NB224_234.out
 have hns19_1 := NB225_234.out
 have hms19_0 := NB234_224.out
 have hms19_1 := NB234_225.out
 have hs20 : w12.cell? ⟨gb234, 5, none⟩ = some (.slice none 0 0) := (x3f BK234.out 5).trans rfl
 have hfs20 := x2f BK234.out 5
 have hns20_0 := NB224_234.out
 have hns20_1 := NB225_234.out
 have hms20_0 := NB234_224.out
 have hms20_1 := NB234_225.out
 have hs21 : w12.cell? ⟨gb234, 6, none⟩ = some (.slice none 0 0) := (x3f BK234.out 6).trans rfl
 have hfs21 := x2f BK234.out 6
 have hns21_0 := NB224_234.out
 have hns21_1 := NB225_234.out
 have hms21_0 := NB234_224.out
 have hms21_1 := NB234_225.out
 refine skip_ (w1 := ?_) (by rfl) rfl ?_ ?_
 rotate_left
 ·go_simp
  rfl
 refine hK.out _ _ ⟨((cell_far (p := ⟨gb234, _, none⟩) NB224_234.out _).trans (((cell_far (p := ⟨gb234, _, none⟩) NB224_234.out _).trans (((cell_far (p := ⟨gb234, _, none⟩) NB224_234.out _).trans (((cell_far (p := ⟨gb234, _, none⟩) NB224_234.out _).trans (((cell_far (p := ⟨gb234, _, none⟩) NB224_234.out _).trans (((cell_far (p := ⟨gb234, _, none⟩) NB224_234.out _).trans (((cell_far (p := ⟨gb234, _, none⟩) NB224_234.out _).trans (hHeld.1)))))))))))))), ((cell_far (p := ⟨gb234, _, none⟩) NB224_234.out _).trans (((cell_far (p := ⟨gb234, _, none⟩) NB224_234.out _).trans (((cell_far (p := ⟨gb234, _, none⟩) NB224_234.out _).trans (((cell_far (p := ⟨gb234, _, none⟩) NB224_234.out _).trans (((cell_far (p := ⟨gb234, _, none⟩) NB224_234.out _).trans (((cell_far (p := ⟨gb234, _, none⟩) NB224_234.out _).trans (((cell_far (p := ⟨gb234, _, none⟩) NB224_234.out _).trans (hHeld.2.1)))))))))))))), ((cell_far (p := ⟨gb234, _, none⟩) NB224_234.out _).trans (((cell_far (p := ⟨gb234, _, none⟩) NB224_234.out _).trans (((cell_far (p := ⟨gb234, _, none⟩) NB224_234.out _).trans (((cell_far (p := ⟨gb234, _, none⟩) NB224_234.out _).trans (((cell_far (p := ⟨gb234, _, none⟩) NB224_234.out _).trans (((cell_far (p := ⟨gb234, _, none⟩) NB224_234.out _).trans (((cell_far (p := ⟨gb234, _, none⟩) NB224_234.out _).trans (hHeld.2.2.1)))))))))))))), ((cell_far (p := ⟨gb234, _, none⟩) NB224_234.out _).trans (((cell_far (p := ⟨gb234, _, none⟩) NB224_234.out _).trans (((cell_far (p := ⟨gb234, _, none⟩) NB224_234.out _).trans (((cell_far (p := ⟨gb234, _, none⟩) NB224_234.out _).trans (((cell_far (p := ⟨gb234, _, none⟩) NB224_234.out _).trans (((cell_far (p := ⟨gb234, _, none⟩) NB224_234.out _).trans (((cell_far (p := ⟨gb234, _, none⟩) NB224_234.out _).trans (hHeld.2.2.2.1)))))))))))))), ((cell_far (p := ⟨gb234, _, none⟩) NB224_234.out _).trans (((cell_far (p := ⟨gb234, _, none⟩) NB224_234.out _).trans (((cell_far (p := ⟨gb234, _, none⟩) NB224_234.out _).trans (((cell_far (p := ⟨gb234, _, none⟩) NB224_234.out _).trans (((cell_far (p := ⟨gb234, _, none⟩) NB224_234.out _).trans (((cell_far (p := ⟨gb234, _, none⟩) NB224_234.out _).trans (((cell_far (p := ⟨gb234, _, none⟩) NB224_234.out _).trans (hHeld.2.2.2.2.1)))))))))))))), ((cell_far (p := ⟨gb234, _, none⟩) NB224_234.out _).trans (((cell_far (p := ⟨gb234, _, none⟩) NB224_234.out _).trans (((cell_far (p := ⟨gb234, _, none⟩) NB224_234.out _).trans (((cell_far (p := ⟨gb234, _, none⟩) NB224_234.out _).trans (((cell_far (p := ⟨gb234, _, none⟩) NB224_234.out _).trans (((cell_far (p := ⟨gb234, _, none⟩) NB224_234.out _).trans (((cell_far (p := ⟨gb234, _, none⟩) NB224_234.out _).trans (hHeld.2.2.2.2.2.1)))))))))))))), ((cell_far (p := ⟨gb234, _, none⟩) NB224_234.out _).trans (((cell_far (p := ⟨gb234, _, none⟩) NB224_234.out _).trans (((cell_far (p := ⟨gb234, _, none⟩) NB224_234.out _).trans (((cell_far (p := ⟨gb234, _, none⟩) NB224_234.out _).trans (((cell_far (p := ⟨gb234, _, none⟩) NB224_234.out _).trans (((cell_far (p := ⟨gb234, _, none⟩) NB224_234.out _).trans (((cell_far (p := ⟨gb234, _, none⟩) NB224_234.out _).trans (hHeld.2.2.2.2.2.2))))))))))))))⟩ (fun hHeld => ?_)
 clear hK K
 refine done_ (done_of HT_.out (by kernel_rfl)) ?_
 have hnb22 := NB224_225.out
 have hnc22 := NB225_224.out
 have hnb23 := NB224_234.out
 have hnc23 := NB234_224.out
 have hcz24_0 : w12.cell? ⟨gb224, 0, none⟩ = some (.int .i64 a0_0) := (x3f BK224.out 0).trans rfl
 have hcz24_1 : w12.cell? ⟨gb224, 1, none⟩ = some (.int .i64 a0_1) := (x3f BK224.out 1).trans rfl
 have hcz24_2 : w12.cell? ⟨gb224, 2, none⟩ = some (.slice A0_2 l0_2.length c0_2) := (x3f BK224.out 2).trans rfl
 have hcz24_3 : w12.cell? ⟨gb224, 3, none⟩ = some (.int .i64 a0_3) := (x3f BK224.out 3).trans rfl
 have hcz24_4 : w12.cell? ⟨gb224, 4, none⟩ = some (.int .i64 a0_4) := (x3f BK224.out 4).trans rfl
 have hcz24_5 : w12.cell? ⟨gb224, 5, none⟩ = some (.slice A0_5 l0_5.length c0_5) := (x3f BK224.out 5).trans rfl
 have hcz24_6 : w12.cell? ⟨gb224, 6, none⟩ = some (.slice A0_6 l0_6.length c0_6) := (x3f BK224.out 6).trans rfl
 have hfz24_0 := x2f BK224.out 0
 have hfz24_1 := x2f BK224.out 1
 have hfz24_2 := x2f BK224.out 2
 have hfz24_3 := x2f BK224.out 3
 have hfz24_4 := x2f BK224.out 4
 have hfz24_5 := x2f BK224.out 5
 have hfz24_6 := x2f BK224.out 6
 try go_wp2
 go_loopg [24] k (fun kq v24 w' => ∃ (x24_1 : Int) (x235006_1 : List (S27)) (u235006 : Value), v24 = .int .i64 x24_1 ∧ Aside0 (impl_deskCopy.l0 kq l0_6 (l0_6.length : Int) x24_1 t226 t227 t228 a0_3 a0_4 t231 x235006_1 = some (r1, r2, r3, r4, r5, r6, r7)) ∧ Aside0 (kq ≤ k) ∧ Aside0 (Kd.R (Kd.int .i64) 3 w' w.heap.size (fun k_ => some k_ ≠ ((.slice Ao13 t231.length co13) : Value).ownBlock) (.slice Ao14 t228.length co14) t228) ∧ Aside0 (Kd.R (Kd.int .i64) 3 w' w.heap.size (fun k_ => some k_ ≠ ((.slice Ao14 t228.length co14) : Value).ownBlock) (.slice Ao13 t231.length co13) t231) ∧ Aside0 (Kd.S k27 27 w' w.heap.size (fun k_ => some k_ ≠ ((.slice Ao14 t228.length co14) : Value).ownBlock ∧ some k_ ≠ ((.slice Ao13 t231.length co13) : Value).ownBlock) u235006 x235006_1) ∧ Aside0 (w'.heap[gb224]? = some (.cells #[.int .i64 a0_0, .int .i64 a0_1, (.slice A0_2 l0_2.length c0_2), .int .i64 a0_3, .int .i64 a0_4, (.slice A0_5 l0_5.length c0_5), (.slice A0_6 l0_6.length c0_6)] 55 (0, 0))) ∧ Aside0 (w'.heap[gb225]? = some (.cells #[.int .i64 0, .int .i64 0, (.slice none 0 0), .int .i64 0, .int .i64 0, (.slice none 0 0), (.slice none 0 0)] 55 (0, 0))) ∧ Aside0 (w'.heap[gb234]? = some (.cells #[.int .i64 t226, .int .i64 t227, (.slice Ao14 t228.length co14), .int .i64 a0_3, .int .i64 a0_4, (.slice Ao13 t231.length co13), u235006] 55 (0, 0))) ∧ Aside0 (Below w.heap.size w w'))
 case atStart => exact ⟨(0), (([] : List (S27))), (.slice none 0 0), (by first | rfl | (simp; done) | (simp [*]; done)), H', ⟨Nat.le_refl _⟩, ⟨by (with_reducible repeat (first | apply z8f | apply z9f | apply y1f)); exact x6f (x1f (p := ⟨gb234, 6, none⟩) (x1f (p := ⟨gb234, 5, none⟩) (x1f (p := ⟨gb234, 4, none⟩) (x1f (p := ⟨gb234, 3, none⟩) (x1f (p := ⟨gb234, 2, none⟩) (x1f (p := ⟨gb234, 1, none⟩) (x1f (p := ⟨gb234, 0, none⟩) (x7f HO230.out BK234.out (by decide)) (fun _ hk => hk.2) (.int .i64 t226)) (fun _ hk => hk.2) (.int .i64 t227)) (fun _ hk => hk.2) (.slice Ao14 t228.length co14)) (fun _ hk => hk.2) (.int .i64 a0_3)) (fun _ hk => hk.2) (.int .i64 a0_4)) (fun _ hk => hk.2) (.slice Ao13 t231.length co13)) (fun _ hk => hk.2) (.slice none 0 0)) (fun _ hk => hk.1)⟩, ⟨by (with_reducible repeat (first | apply z8f | apply z9f | apply y1f)); exact x6f (x1f (p := ⟨gb234, 6, none⟩) (x1f (p := ⟨gb234, 5, none⟩) (x1f (p := ⟨gb234, 4, none⟩) (x1f (p := ⟨gb234, 3, none⟩) (x1f (p := ⟨gb234, 2, none⟩) (x1f (p := ⟨gb234, 1, none⟩) (x1f (p := ⟨gb234, 0, none⟩) (x7f HO233.out BK234.out (by decide)) (fun _ hk => hk.2) (.int .i64 t226)) (fun _ hk => hk.2) (.int .i64 t227)) (fun _ hk => hk.2) (.slice Ao14 t228.length co14)) (fun _ hk => hk.2) (.int .i64 a0_3)) (fun _ hk => hk.2) (.int .i64 a0_4)) (fun _ hk => hk.2) (.slice Ao13 t231.length co13)) (fun _ hk => hk.2) (.slice none 0 0)) (fun _ hk => hk.1)⟩, ⟨by first | exact Kd.S_nil _ _ _ _ _ | exact Kd.N_nil _ _ _ _ _ | exact Kd.V_nil _ _ _ _ _ | exact Kd.Q_nil _ _ _ _ _ | exact Kd.R_nil _ _ _ _ _⟩, ⟨by (with_reducible repeat (first | refine z1f ?_ _ | refine z3f ?_ | refine z2f ?_ _)); refine x8f ?_ NB224_234.out _; (with_reducible repeat (first | refine z1f ?_ _ | refine z3f ?_ | refine z2f ?_ _)); refine x8f ?_ NB224_234.out _; (with_reducible repeat (first | refine z1f ?_ _ | refine z3f ?_ | refine z2f ?_ _)); refine x8f ?_ NB224_234.out _; (with_reducible repeat (first | refine z1f ?_ _ | refine z3f ?_ | refine z2f ?_ _)); refine x8f ?_ NB224_234.out _; (with_reducible repeat (first | refine z1f ?_ _ | refine z3f ?_ | refine z2f ?_ _)); refine x8f ?_ NB224_234.out _; (with_reducible repeat (first | refine z1f ?_ _ | refine z3f ?_ | refine z2f ?_ _)); refine x8f ?_ NB224_234.out _; (with_reducible repeat (first | refine z1f ?_ _ | refine z3f ?_ | refine z2f ?_ _)); refine x8f ?_ NB224_234.out _; (with_reducible repeat (first | refine z1f ?_ _ | refine z3f ?_ | refine z2f ?_ _)); exact BK224.out⟩, ⟨by (with_reducible repeat (first | refine z1f ?_ _ | refine z3f ?_ | refine z2f ?_ _)); refine x8f ?_ NB225_234.out _; (with_reducible repeat (first | refine z1f ?_ _ | refine z3f ?_ | refine z2f ?_ _)); refine x8f ?_ NB225_234.out _; (with_reducible repeat (first | refine z1f ?_ _ | refine z3f ?_ | refine z2f ?_ _)); refine x8f ?_ NB225_234.out _; (with_reducible repeat (first | refine z1f ?_ _ | refine z3f ?_ | refine z2f ?_ _)); refine x8f ?_ NB225_234.out _; (with_reducible repeat (first | refine z1f ?_ _ | refine z3f ?_ | refine z2f ?_ _)); refine x8f ?_ NB225_234.out _; (with_reducible repeat (first | refine z1f ?_ _ | refine z3f ?_ | refine z2f ?_ _)); refine x8f ?_ NB225_234.out _; (with_reducible repeat (first | refine z1f ?_ _ | refine z3f ?_ | refine z2f ?_ _)); refine x8f ?_ NB225_234.out _; (with_reducible repeat (first | refine z1f ?_ _ | refine z3f ?_ | refine z2f ?_ _)); exact BK225.out⟩, ⟨by (with_reducible repeat (first | refine z1f ?_ _ | refine z3f ?_ | refine z2f ?_ _)); refine blk_put (cs := #[.int .i64 t226, .int .i64 t227, .slice Ao14 t228.length co14, .int .i64 a0_3, .int .i64 a0_4, .slice Ao13 t231.length co13, .slice none 0 0]) ?_ 6 _ rfl; (with_reducible repeat (first | refine z1f ?_ _ | refine z3f ?_ | refine z2f ?_ _)); refine blk_put (cs := #[.int .i64 t226, .int .i64 t227, .slice Ao14 t228.length co14, .int .i64 a0_3, .int .i64 a0_4, .slice none 0 0, .slice none 0 0]) ?_ 5 _ rfl; (with_reducible repeat (first | refine z1f ?_ _ | refine z3f ?_ | refine z2f ?_ _)); refine blk_put (cs := #[.int .i64 t226, .int .i64 t227, .slice Ao14 t228.length co14, .int .i64 a0_3, .int .i64 0, .slice none 0 0, .slice none 0 0]) ?_ 4 _ rfl; (with_reducible repeat (first | refine z1f ?_ _ | refine z3f ?_ | refine z2f ?_ _)); refine blk_put (cs := #[.int .i64 t226, .int .i64 t227, .slice Ao14 t228.length co14, .int .i64 0, .int .i64 0, .slice none 0 0, .slice none 0 0]) ?_ 3 _ rfl; (with_reducible repeat (first | refine z1f ?_ _ | refine z3f ?_ | refine z2f ?_ _)); refine blk_put (cs := #[.int .i64 t226, .int .i64 t227, .slice none 0 0, .int .i64 0, .int .i64 0, .slice none 0 0, .slice none 0 0]) ?_ 2 _ rfl; (with_reducible repeat (first | refine z1f ?_ _ | refine z3f ?_ | refine z2f ?_ _)); refine blk_put (cs := #[.int .i64 t226, .int .i64 0, .slice none 0 0, .int .i64 0, .int .i64 0, .slice none 0 0, .slice none 0 0]) ?_ 1 _ rfl; (with_reducible repeat (first | refine z1f ?_ _ | refine z3f ?_ | refine z2f ?_ _)); refine blk_put (cs := #[.int .i64 0, .int .i64 0, .slice none 0 0, .int .i64 0, .int .i64 0, .slice none 0 0, .slice none 0 0]) ?_ 0 _ rfl; (with_reducible repeat (first | refine z1f ?_ _ | refine z3f ?_ | refine z2f ?_ _)); exact BK234.out⟩, ⟨dV HB.out⟩⟩
 case round =>
  clear H'
  try clear c2
  try clear p2
  try clear c3
  try clear c5
  try clear c22
  try clear c23
  try clear hcz24_0
  try clear hcz24_1
  try clear hcz24_2
  try clear hcz24_3
  try clear hcz24_4
  try clear hcz24_5
  try clear hcz24_6
  try clear hfz24_0
  try clear hfz24_1
  try clear hfz24_2
  try clear hfz24_3
  try clear hfz24_4
  try clear hfz24_5
  try clear hfz24_6
  obtain ⟨x24_1, x235006_1, u235006, rfl, HA, HK1, Ha_, Hb_, Hc_, BK224, BK225, BK234, HB⟩ := hrel
  cases gk with
  | zero => exact absurd HA.out (by simp [impl_deskCopy.l0])
  | succ k1 =>
   have H := HA.out
   clear HA
   simp only [impl_deskCopy.l0] at H
   by_cases c25 : x24_1 < (l0_6.length : Int)
   ·rw [if_pos c25] at H
    have c25b0 : decide (x24_1 < (l0_6.length : Int)) = true := decide_eq_true c25
    clear c25
    by_cases c26 : 0 ≤ x24_1
    ·rw [if_pos c26] at H
     have c26b0 : decide (0 ≤ x24_1) = true := decide_eq_true c26
     clear c26
     by_cases c27 : x24_1 < (l0_6.length : Int)
     ·rw [if_pos c27] at H
      have c27b0 : decide (x24_1 < (l0_6.length : Int)) = true := decide_eq_true c27
      clear c27
      replace H := Option.bind_eq_some_iff.mp H
      obtain ⟨⟨t237, t238, t239⟩, A280, H⟩ := H
      (try dsimp only at H)
      have A28 := z0f A280
      clear A280
      by_cases c29 : x235006_1.length < 3518437208883
      ·rw [if_pos c29] at H
       have LMc29 := z0f c29
       clear c29
       obtain ⟨y242, hy242⟩ : ∃ y_ : List (S27), y_ = (x235006_1 ++ [(⟨t237, t238, t239⟩ : S27)]) := ⟨_, rfl⟩
       replace H : (impl_deskCopy.l0 k1 l0_6 (l0_6.length : Int) (wrap64 (x24_1 + 1)) t226 t227 t228 a0_3 a0_4 t231 y242) = some (r1, r2, r3, r4, r5, r6, r7) := by first | (rw [hy242]; with_reducible exact H) | (have H2_ := (Option.bind_some _ _).symm.trans H; rw [hy242]; with_reducible exact H2_) | (have H2_ := (Option.bind_some _ _).symm.trans H; with_reducible exact H2_) | with_reducible exact H | (rw [hy242]; exact H) | exact H
       have Ny242 := z0f hy242
       clear hy242
       have H' := z0f H
       clear H
       have p235 : 0 ≤ (x24_1 : Int) := of_decide_eq_true (by first | (with_reducible assumption) | assumption)
       have q235 : x24_1 < (l0_6.length : Int) := of_decide_eq_true (by first | (with_reducible assumption) | assumption)
       obtain ⟨ad235, A235_2, c235_2, e235, hx235_0, hx235_1, hx235_2, hl235_2, hi235_2⟩ := at_T27 HR0_6.out x24_1 p235 q235
       cases e235
       try replace hx235_0 := (HB.out.cell (World.block_lt_of_cell? w _ hx235_0)).trans hx235_0
       try replace hx235_1 := (HB.out.cell (World.block_lt_of_cell? w _ hx235_1)).trans hx235_1
       try replace hx235_2 := (HB.out.cell (World.block_lt_of_cell? w _ hx235_2)).trans hx235_2
       have HR235_2 := z0f hi235_2
       have HC235_2 := z0f hl235_2
       clear hi235_2 hl235_2
       replace p235 := eq_true p235
       replace q235 := eq_true q235
       try go_wp2_with (first | ((with_reducible refine gate_dst (N := 5) rfl ?_); refine box_event rfl (N := 5) rfl (cs := #[.int .i64 0, .int .i64 0, .slice none 0 0]) (t := 27) (by first | (go_simp; done) | (go_simp; rfl)) ?_; intro gb236 hg w30 hbox hb; have n_ := a16 (Kd.R_below (rV Ha_.out) hb) (Kd.R_below (rV Hb_.out) hb) (Kd.S_below (Kd.S_elderB (sV Hc_.out) gb236 (Nat.le_of_eq hg.symm)) hb) (bU BK224.out hb) (bU BK225.out hb) (bU BK234.out hb) (dU HB.out hb) (hbox) (gE hg HB.out) (gE hg HB.out) (nL hg BK224.out) (nG hg BK224.out) (nL hg BK225.out) (nG hg BK225.out) (nL hg BK234.out) (nG hg BK234.out); clear Ha_ Hb_ Hc_ BK224 BK225 BK234 HB; obtain ⟨Ha_, Hb_, Hc_, BK224, BK225, BK234, HB, BK236, GW236, GE236, NB224_236, NB236_224, NB225_236, NB236_225, NB234_236, NB236_234⟩ := n_; have gi_236 := GEc.mk GE236.out; clear hb hbox hg; have hnb31 := NB236_224.out; have hnc31 := NB224_236.out; have hnb32 := NB236_225.out; have hnc32 := NB225_236.out; have hnb33 := NB236_234.out; have hnc33 := NB234_236.out; have hcz34_0 : w30.cell? ⟨gb236, 0, none⟩ = some (.int .i64 0) := (x3f BK236.out 0).trans rfl; have hcz34_1 : w30.cell? ⟨gb236, 1, none⟩ = some (.int .i64 0) := (x3f BK236.out 1).trans rfl; have hcz34_2 : w30.cell? ⟨gb236, 2, none⟩ = some (.slice none 0 0) := (x3f BK236.out 2).trans rfl; have hfz34_0 := x2f BK236.out 0; have hfz34_1 := x2f BK236.out 1; have hfz34_2 := x2f BK236.out 2))
       have n0_ : Aside0 (Kd.R (Kd.int .i64) 3 (((w30.setCell ⟨gb236, 0, none⟩ (.int .i64 ((rd_T27 l0_6 x24_1).f0))).setCell ⟨gb236, 1, none⟩ (.int .i64 ((rd_T27 l0_6 x24_1).f1))).setCell ⟨gb236, 2, none⟩ (.slice A235_2 ((rd_T27 l0_6 x24_1).f2).length c235_2)) w.heap.size (fun k_ => some k_ ≠ (.slice Ao13 t231.length co13 : Value).ownBlock) (.slice Ao14 t228.length co14) t228) := ⟨by (with_reducible repeat (first | apply z8f | apply z9f | apply y1f)); exact x6f (x1f (p := ⟨gb236, 2, none⟩) (x1f (p := ⟨gb236, 1, none⟩) (x1f (p := ⟨gb236, 0, none⟩) (x7f Ha_.out BK236.out (by decide)) (fun _ hk => hk.2) (.int .i64 ((rd_T27 l0_6 x24_1).f0))) (fun _ hk => hk.2) (.int .i64 ((rd_T27 l0_6 x24_1).f1))) (fun _ hk => hk.2) (.slice A235_2 ((rd_T27 l0_6 x24_1).f2).length c235_2)) (fun _ hk => hk.1)⟩
       have n1_ : Aside0 (Kd.R (Kd.int .i64) 3 (((w30.setCell ⟨gb236, 0, none⟩ (.int .i64 ((rd_T27 l0_6 x24_1).f0))).setCell ⟨gb236, 1, none⟩ (.int .i64 ((rd_T27 l0_6 x24_1).f1))).setCell ⟨gb236, 2, none⟩ (.slice A235_2 ((rd_T27 l0_6 x24_1).f2).length c235_2)) w.heap.size (fun k_ => some k_ ≠ (.slice Ao14 t228.length co14 : Value).ownBlock) (.slice Ao13 t231.length co13) t231) := ⟨by (with_reducible repeat (first | apply z8f | apply z9f | apply y1f)); exact x6f (x1f (p := ⟨gb236, 2, none⟩) (x1f (p := ⟨gb236, 1, none⟩) (x1f (p := ⟨gb236, 0, none⟩) (x7f Hb_.out BK236.out (by decide)) (fun _ hk => hk.2) (.int .i64 ((rd_T27 l0_6 x24_1).f0))) (fun _ hk => hk.2) (.int .i64 ((rd_T27 l0_6 x24_1).f1))) (fun _ hk => hk.2) (.slice A235_2 ((rd_T27 l0_6 x24_1).f2).length c235_2)) (fun _ hk => hk.1)⟩
       have n2_ : Aside0 (Kd.S k27 27 (((w30.setCell ⟨gb236, 0, none⟩ (.int .i64 ((rd_T27 l0_6 x24_1).f0))).setCell ⟨gb236, 1, none⟩ (.int .i64 ((rd_T27 l0_6 x24_1).f1))).setCell ⟨gb236, 2, none⟩ (.slice A235_2 ((rd_T27 l0_6 x24_1).f2).length c235_2)) w.heap.size (fun k_ => some k_ ≠ (.slice Ao14 t228.length co14 : Value).ownBlock ∧ some k_ ≠ (.slice Ao13 t231.length co13 : Value).ownBlock ∧ k_ ≠ gb236) u235006 x235006_1) := ⟨by (with_reducible repeat (first | apply Kd.S_alloc | apply Kd.S_drewN | apply Kd.S_drew)); exact Kd.S_mono (Kd.S_far (p := ⟨gb236, 2, none⟩) (Kd.S_far (p := ⟨gb236, 1, none⟩) (Kd.S_far (p := ⟨gb236, 0, none⟩) (Kd.S_mono Hc_.out (fun k_ hk => (⟨hk, hk.2⟩ : _ ∧ k_ ≠ gb236))) (fun _ hk => hk.2) (.int .i64 ((rd_T27 l0_6 x24_1).f0))) (fun _ hk => hk.2) (.int .i64 ((rd_T27 l0_6 x24_1).f1))) (fun _ hk => hk.2) (.slice A235_2 ((rd_T27 l0_6 x24_1).f2).length c235_2)) (fun _ hk => ⟨hk.1.1.1, ⟨hk.1.1.2, hk.1.2⟩⟩)⟩
       have n3_ : Aside0 ((((w30.setCell ⟨gb236, 0, none⟩ (.int .i64 ((rd_T27 l0_6 x24_1).f0))).setCell ⟨gb236, 1, none⟩ (.int .i64 ((rd_T27 l0_6 x24_1).f1))).setCell ⟨gb236, 2, none⟩ (.slice A235_2 ((rd_T27 l0_6 x24_1).f2).length c235_2)).heap[gb224]? = some (.cells #[.int .i64 a0_0, .int .i64 a0_1, .slice A0_2 l0_2.length c0_2, .int .i64 a0_3, .int .i64 a0_4, .slice A0_5 l0_5.length c0_5, .slice (some ad235) l0_6.length c0_6] 55 (0, 0))) := ⟨by (with_reducible repeat (first | refine z1f ?_ _ | refine z3f ?_ | refine z2f ?_ _)); refine x8f ?_ NB224_236.out _; (with_reducible repeat (first | refine z1f ?_ _ | refine z3f ?_ | refine z2f ?_ _)); refine x8f ?_ NB224_236.out _; (with_reducible repeat (first | refine z1f ?_ _ | refine z3f ?_ | refine z2f ?_ _)); refine x8f ?_ NB224_236.out _; (with_reducible repeat (first | refine z1f ?_ _ | refine z3f ?_ | refine z2f ?_ _)); exact BK224.out⟩
       have n4_ : Aside0 ((((w30.setCell ⟨gb236, 0, none⟩ (.int .i64 ((rd_T27 l0_6 x24_1).f0))).setCell ⟨gb236, 1, none⟩ (.int .i64 ((rd_T27 l0_6 x24_1).f1))).setCell ⟨gb236, 2, none⟩ (.slice A235_2 ((rd_T27 l0_6 x24_1).f2).length c235_2)).heap[gb225]? = some (.cells #[.int .i64 0, .int .i64 0, .slice none 0 0, .int .i64 0, .int .i64 0, .slice none 0 0, .slice none 0 0] 55 (0, 0))) := ⟨by (with_reducible repeat (first | refine z1f ?_ _ | refine z3f ?_ | refine z2f ?_ _)); refine x8f ?_ NB225_236.out _; (with_reducible repeat (first | refine z1f ?_ _ | refine z3f ?_ | refine z2f ?_ _)); refine x8f ?_ NB225_236.out _; (with_reducible repeat (first | refine z1f ?_ _ | refine z3f ?_ | refine z2f ?_ _)); refine x8f ?_ NB225_236.out _; (with_reducible repeat (first | refine z1f ?_ _ | refine z3f ?_ | refine z2f ?_ _)); exact BK225.out⟩
       have n5_ : Aside0 ((((w30.setCell ⟨gb236, 0, none⟩ (.int .i64 ((rd_T27 l0_6 x24_1).f0))).setCell ⟨gb236, 1, none⟩ (.int .i64 ((rd_T27 l0_6 x24_1).f1))).setCell ⟨gb236, 2, none⟩ (.slice A235_2 ((rd_T27 l0_6 x24_1).f2).length c235_2)).heap[gb234]? = some (.cells #[.int .i64 t226, .int .i64 t227, .slice Ao14 t228.length co14, .int .i64 a0_3, .int .i64 a0_4, .slice Ao13 t231.length co13, u235006] 55 (0, 0))) := ⟨by (with_reducible repeat (first | refine z1f ?_ _ | refine z3f ?_ | refine z2f ?_ _)); refine x8f ?_ NB234_236.out _; (with_reducible repeat (first | refine z1f ?_ _ | refine z3f ?_ | refine z2f ?_ _)); refine x8f ?_ NB234_236.out _; (with_reducible repeat (first | refine z1f ?_ _ | refine z3f ?_ | refine z2f ?_ _)); refine x8f ?_ NB234_236.out _; (with_reducible repeat (first | refine z1f ?_ _ | refine z3f ?_ | refine z2f ?_ _)); exact BK234.out⟩
       have n6_ : Aside0 ((((w30.setCell ⟨gb236, 0, none⟩ (.int .i64 ((rd_T27 l0_6 x24_1).f0))).setCell ⟨gb236, 1, none⟩ (.int .i64 ((rd_T27 l0_6 x24_1).f1))).setCell ⟨gb236, 2, none⟩ (.slice A235_2 ((rd_T27 l0_6 x24_1).f2).length c235_2)).heap[gb236]? = some (.cells #[.int .i64 ((rd_T27 l0_6 x24_1).f0), .int .i64 ((rd_T27 l0_6 x24_1).f1), .slice A235_2 ((rd_T27 l0_6 x24_1).f2).length c235_2] 27 (0, 0))) := ⟨by (with_reducible repeat (first | refine z1f ?_ _ | refine z3f ?_ | refine z2f ?_ _)); refine blk_put (cs := #[.int .i64 ((rd_T27 l0_6 x24_1).f0), .int .i64 ((rd_T27 l0_6 x24_1).f1), .slice none 0 0]) ?_ 2 _ rfl; (with_reducible repeat (first | refine z1f ?_ _ | refine z3f ?_ | refine z2f ?_ _)); refine blk_put (cs := #[.int .i64 ((rd_T27 l0_6 x24_1).f0), .int .i64 0, .slice none 0 0]) ?_ 1 _ rfl; (with_reducible repeat (first | refine z1f ?_ _ | refine z3f ?_ | refine z2f ?_ _)); refine blk_put (cs := #[.int .i64 0, .int .i64 0, .slice none 0 0]) ?_ 0 _ rfl; (with_reducible repeat (first | refine z1f ?_ _ | refine z3f ?_ | refine z2f ?_ _)); exact BK236.out⟩
       have n7_ : Aside0 (Below w.heap.size w (((w30.setCell ⟨gb236, 0, none⟩ (.int .i64 ((rd_T27 l0_6 x24_1).f0))).setCell ⟨gb236, 1, none⟩ (.int .i64 ((rd_T27 l0_6 x24_1).f1))).setCell ⟨gb236, 2, none⟩ (.slice A235_2 ((rd_T27 l0_6 x24_1).f2).length c235_2))) := ⟨dV HB.out⟩
       (try clear Ha_)
       (try clear Hb_)
       (try clear Hc_)
       (try clear BK224)
       (try clear BK225)
       (try clear BK234)
       (try clear BK236)
       (try clear HB)
       generalize (((w30.setCell ⟨gb236, 0, none⟩ (.int .i64 ((rd_T27 l0_6 x24_1).f0))).setCell ⟨gb236, 1, none⟩ (.int .i64 ((rd_T27 l0_6 x24_1).f1))).setCell ⟨gb236, 2, none⟩ (.slice A235_2 ((rd_T27 l0_6 x24_1).f2).length c235_2)) = w35 at n0_ n1_ n2_ n3_ n4_ n5_ n6_ n7_ ⊢
       have Ha_ := n0_
       have Hb_ := n1_
       have Hc_ := n2_
       have BK224 := n3_
       have BK225 := n4_
       have BK234 := n5_
       have BK236 := n6_
       have HB := n7_
       clear n0_ n1_ n2_ n3_ n4_ n5_ n6_ n7_
       have n_ := a8 (y1f Ha_.out) (y1f Hb_.out) (Kd.S_drew Hc_.out) (z3f BK224.out) (z3f BK225.out) (z3f BK234.out) (z3f BK236.out) (below_drew1 HB.out); clear Ha_ Hb_ Hc_ BK224 BK225 BK234 BK236 HB; obtain ⟨Ha_, Hb_, Hc_, BK224, BK225, BK234, BK236, HB⟩ := n_
       refine start_ (n := 8) (S := fun w' => w'.cell? ⟨gb234, 0, none⟩ = some (.int .i64 t226) ∧ w'.cell? ⟨gb234, 1, none⟩ = some (.int .i64 t227) ∧ w'.cell? ⟨gb234, 2, none⟩ = some (.slice Ao14 t228.length co14) ∧ w'.cell? ⟨gb234, 3, none⟩ = some (.int .i64 a0_3) ∧ w'.cell? ⟨gb234, 4, none⟩ = some (.int .i64 a0_4) ∧ w'.cell? ⟨gb234, 5, none⟩ = some (.slice Ao13 t231.length co13) ∧ w'.cell? ⟨gb234, 6, none⟩ = some (u235006) ∧ w'.cell? ⟨gb236, 0, none⟩ = some (.int .i64 ((rd_T27 l0_6 x24_1).f0)) ∧ w'.cell? ⟨gb236, 1, none⟩ = some (.int .i64 ((rd_T27 l0_6 x24_1).f1)) ∧ w'.cell? ⟨gb236, 2, none⟩ = some (.slice A235_2 ((rd_T27 l0_6 x24_1).f2).length c235_2)) (ds := [7]) (bsf_ 8 0) (by kernel_rfl) rfl rfl ⟨(x3f BK234.out 0).trans rfl, (x3f BK234.out 1).trans rfl, (x3f BK234.out 2).trans rfl, (x3f BK234.out 3).trans rfl, (x3f BK234.out 4).trans rfl, (x3f BK234.out 5).trans rfl, (x3f BK234.out 6).trans rfl, (x3f BK236.out 0).trans rfl, (x3f BK236.out 1).trans rfl, (x3f BK236.out 2).trans rfl⟩ (fun hHeld => ?_); refine with_tabW impl_deskCopy.tab5 impl_deskCopy.bits5 (fun HT_ HW_ => ?_)
       generalize w35.drew = w36 at Ha_ Hb_ Hc_ BK224 BK225 BK234 BK236 HB hHeld ⊢
       refine pz 0 (some 28) ?_ (bsf_ 8 1) rfl rfl HT_.out (by kernel_rfl) (fun _ _ _ h => h) (Or.inl ⟨by rfl, ?_⟩) ?_ ?_ ?_
       rotate_left
       ·intro w'
        go_simp
        with_reducible rfl
       rotate_left
       ·simp only [Act.put, s1f_, s2f_, s3f_, i64_w, i32_w]
        rfl
       refine take_ (i := 1) (N := some 29) (v := ?_) (a' := ?_) (bsf_ 8 3) rfl rfl (take_ofW HT_.out HW_.out (by kernel_rfl)) (fun _ _ _ h => h) (Or.inl ⟨by rfl, ?_⟩) hHeld ?_ ?_
       rotate_left
       ·rintro w' ⟨s0, s1, s2, s3, s4, s5, s6, s7, s8, s9⟩
        go_simp
        with_reducible rfl
       rotate_left
       ·simp only [Act.put, s1f_, s2f_, s3f_, i64_w, i32_w]
        rfl
       refine take_ (i := 2) (N := some 30) (v := ?_) (a' := ?_) (bsf_ 8 7) rfl rfl (take_ofW HT_.out HW_.out (by kernel_rfl)) (fun _ _ _ h => h) (Or.inl ⟨by rfl, ?_⟩) hHeld ?_ ?_
       rotate_left
       ·rintro w' ⟨s0, s1, s2, s3, s4, s5, s6, s7, s8, s9⟩
        go_simp
        with_reducible rfl
       rotate_left
       ·simp only [Act.put, s1f_, s2f_, s3f_, i64_w, i32_w]
        rfl
       refine one_ (i := 3) (N := some 31) (bsf_ 8 15) rfl rfl (one_of HT_.out (by kernel_rfl)) (by decide) (fun K hK => ?_)
       refine goes_ Tryz.func50 (by kernel_rfl) rfl #[.agg #[.int .i64 ((rd_T27 l0_6 x24_1).f0), .int .i64 ((rd_T27 l0_6 x24_1).f1), .slice A235_2 ((rd_T27 l0_6 x24_1).f2).length c235_2]] (by rfl) rfl rfl (by (try simp only [List.map_toArray, List.map_cons, List.map_nil]); first | done | rfl | (simp only [List.length_drop, List.length_take]; rfl)) ?_
       with_reducible refine (impl_copied.calls ((rd_T27 l0_6 x24_1).f0) ((rd_T27 l0_6 x24_1).f1) _ _ ((rd_T27 l0_6 x24_1).f2) t237 t238 t239 _ ?side1 ?side2 A28.out).mono ?_
       (case side1 => repeat (first | exact HR235_2.out | exact (Kd.C_below HR235_2.out HB.out) | (with_reducible refine Kd.C_alloc ?_ _) | (with_reducible refine Kd.C_drewN ?_ _) | (with_reducible refine Kd.C_drew ?_)))
       (case side2 => exact HC235_2.out)
       rintro e w37 ⟨v240, rfl, ho0, hb⟩
       refine ⟨_, rfl, ?_⟩
       have n_ := a9 (Kd.R_elder' (rV Ha_.out) (Kd.R_base ho0) hb) (Kd.R_elder' (rV Hb_.out) (Kd.R_base ho0) hb) (Kd.S_elder' (sV Hc_.out) (Kd.R_base ho0) hb) (Kd.R_lower (Kd.R_new' (Kd.R_new' ho0 (Kd.R_lt (rV Ha_.out))) (Kd.R_lt (rV Hb_.out))) (below_size (dV HB.out))) (bU BK224.out hb) (bU BK225.out hb) (bU BK234.out hb) (bU BK236.out hb) (dU HB.out hb); clear Ha_ Hb_ Hc_ BK224 BK225 BK234 BK236 HB; obtain ⟨Ha_, Hb_, Hc_, HO241, BK224, BK225, BK234, BK236, HB⟩ := n_
       (try clear hb)
       (try clear ho0)
       obtain ⟨Ao39, co39, eo39⟩ := Kd.R_slice HO241.out
       (first | subst eo39 | (injection eo39 with f1_ f2_ f3_; have f4_ := f1_.symm; have f5_ := f3_.symm; clear f1_ f2_ f3_; subst f4_; subst f5_))
       refine hK.out _ _ ⟨(x3f BK234.out 0).trans rfl, (x3f BK234.out 1).trans rfl, (x3f BK234.out 2).trans rfl, (x3f BK234.out 3).trans rfl, (x3f BK234.out 4).trans rfl, (x3f BK234.out 5).trans rfl, (x3f BK234.out 6).trans rfl, (x3f BK236.out 0).trans rfl, (x3f BK236.out 1).trans rfl, (x3f BK236.out 2).trans rfl⟩ (fun hHeld => ?_)
       clear hK K
       refine norm_ (a' := ?_) ?_ ?_
       rotate_left
       ·show Act.put _ (some 31) _ = _
        simp only [Act.put, s1f_, s2f_, s3f_, i64_w, i32_w]
        rfl
       refine one_ (i := 4) (N := some 32) (bsf_ 8 31) rfl rfl (one_of HT_.out (by kernel_rfl)) (by decide) (fun K hK => ?_)
       refine value_ (w1 := ?_) (v := ?_) (by rfl) rfl ?_ ?_
       rotate_left 2
       ·go_simp
        constructor
        ·rfl
        ·rfl
       refine hK.out _ _ ⟨(x3f (z2f BK234.out _) 0).trans rfl, (x3f (z2f BK234.out _) 1).trans rfl, (x3f (z2f BK234.out _) 2).trans rfl, (x3f (z2f BK234.out _) 3).trans rfl, (x3f (z2f BK234.out _) 4).trans rfl, (x3f (z2f BK234.out _) 5).trans rfl, (x3f (z2f BK234.out _) 6).trans rfl, (x3f (z2f BK236.out _) 0).trans rfl, (x3f (z2f BK236.out _) 1).trans rfl, (x3f (z2f BK236.out _) 2).trans rfl⟩ (fun hHeld => ?_)
       clear hK K
       refine norm_ (a' := ?_) ?_ ?_
       rotate_left
       ·show Act.put _ (some 32) _ = _
        simp only [Act.put, s1f_, s2f_, s3f_, i64_w, i32_w]
        rfl
       refine one_ (i := 5) (N := some 33) (bsf_ 8 63) rfl rfl (one_of HT_.out (by kernel_rfl)) (by decide) (fun K hK => ?_)
       refine Kd.S_append_step k27 (w0 := w) w.heap.size (by rfl) (.tmp 29) (.tmp 32) 53 27 (.agg #[(.int .i64 0), (.int .i64 0), (.slice none 0 0)]) 40 rfl Tryz.underlying53 info27 rfl (by decide) (by omega) u235006 x235006_1 (⟨t237, t238, t239⟩ : S27) [.int .i64 t237, .int .i64 t238, .slice Ao39 t239.length co39] (fun k_ => some k_ ≠ (.slice Ao14 t228.length co14 : Value).ownBlock ∧ some k_ ≠ (.slice Ao13 t231.length co13 : Value).ownBlock ∧ k_ ≠ gb236) (fun k_ => some k_ = (.slice Ao39 t239.length co39 : Value).ownBlock) rfl rfl ?aP (fun k_ hk_ => ((x6f (ok' := fun k_ => ((fun k_ => some k_ ≠ (.slice Ao14 t228.length co14 : Value).ownBlock ∧ some k_ ≠ (.slice Ao13 t231.length co13 : Value).ownBlock ∧ k_ ≠ gb236)) k_ ∧ some k_ ≠ (u235006 : Value).ownBlock) (x7f (Kd.R_apart' (HO241.out) (Kd.S_typed Hc_.out) (by decide)) BK236.out (by decide)) (fun k_ hk => ⟨⟨hk.1.1.1.2, ⟨hk.1.1.2, hk.2⟩⟩, hk.1.2⟩))).1 k_ hk_.symm) ?aF ?aO ?aB ?aS ?aL ?_
       (case aP => exact k27_mkM _ _ _ (⟨t237, t238, t239⟩ : S27) (x6f (Kd.R_tight rfl (x6f (ok' := fun k_ => ((fun k_ => some k_ ≠ (.slice Ao14 t228.length co14 : Value).ownBlock ∧ some k_ ≠ (.slice Ao13 t231.length co13 : Value).ownBlock ∧ k_ ≠ gb236)) k_ ∧ some k_ ≠ (u235006 : Value).ownBlock) (x7f (Kd.R_apart' (HO241.out) (Kd.S_typed Hc_.out) (by decide)) BK236.out (by decide)) (fun k_ hk => ⟨⟨hk.1.1.1.2, ⟨hk.1.1.2, hk.2⟩⟩, hk.1.2⟩))) (fun _ h_ => h_)))
       (case aB => exact (dV HB.out))
       (case aF => exact (fun k_ hk => ⟨Kd.fresh' (Kd.R_lt (rV Ha_.out)) k_ hk, Kd.fresh' (Kd.R_lt (rV Hb_.out)) k_ hk, Kd.freshB (bV BK236.out) k_ hk⟩))
       (case aO => exact (by (with_reducible repeat (first | apply Kd.S_alloc | apply Kd.S_drewN | apply Kd.S_drew)); exact Kd.S_mono Hc_.out (fun k_ hk => ⟨⟨hk.1.1, ⟨hk.1.2.1, hk.1.2.2⟩⟩, fun e_ => hk.2 e_⟩)))
       (case aS => exact (below_size (dV HB.out)))
       (case aL => have := LMc29.out; omega)
       intro v243 w38 ho hb hg hat
       rw [← Ny242.out] at ho
       have n_ := a8 (Kd.R_over' (rV Ha_.out) (Kd.S_typed (sV Hc_.out)) (by decide) hg) (Kd.R_over' (rV Hb_.out) (Kd.S_typed (sV Hc_.out)) (by decide) hg) (blk_grown (bV BK224.out) hg (Kd.S_ne Hc_.out BK224.out (by decide))) (blk_grown (bV BK225.out) hg (Kd.S_ne Hc_.out BK225.out (by decide))) (blk_grown (bV BK234.out) hg (Kd.S_ne Hc_.out BK234.out (by decide))) (blk_grown (bV BK236.out) hg (Kd.S_away Hc_.out (fun _ hk => hk.1.2.2))) (hb) (ho); clear Ha_ Hb_ BK224 BK225 BK234 BK236 HB Hc_ HO241; obtain ⟨Ha_, Hb_, BK224, BK225, BK234, BK236, HB, HO244⟩ := n_
       clear ho hb hg hat
       obtain ⟨Ao40, co40, eo40⟩ := Kd.S_slice HO244.out
       (first | subst eo40 | (injection eo40 with f1_ f2_ f3_; have f4_ := f1_.symm; have f5_ := f3_.symm; clear f1_ f2_ f3_; subst f4_; subst f5_))
       refine hK.out _ _ ⟨(x3f BK234.out 0).trans rfl, (x3f BK234.out 1).trans rfl, (x3f BK234.out 2).trans rfl, (x3f BK234.out 3).trans rfl, (x3f BK234.out 4).trans rfl, (x3f BK234.out 5).trans rfl, (x3f BK234.out 6).trans rfl, (x3f BK236.out 0).trans rfl, (x3f BK236.out 1).trans rfl, (x3f BK236.out 2).trans rfl⟩ (fun hHeld => ?_)
       clear hK K
       refine norm_ (a' := ?_) ?_ ?_
       rotate_left
       ·show Act.put _ (some 33) _ = _
        simp only [Act.put, s1f_, s2f_, s3f_, i64_w, i32_w]
        rfl
       refine pz 6 (some 34) ?_ (bsf_ 8 127) rfl rfl HT_.out (by kernel_rfl) (fun _ _ _ h => h) (Or.inl ⟨by rfl, ?_⟩) ?_ ?_ ?_
       rotate_left
       ·intro w'
        go_simp
        with_reducible rfl
       rotate_left
       ·simp only [Act.put, s1f_, s2f_, s3f_, i64_w, i32_w]
        rfl
       refine last_ (i := 7) (N := none) (bsf_ 8 255) rfl rfl (one_of HT_.out (by kernel_rfl)) (by decide) (fun K hK => ?_)
       have hs41 : w38.cell? ⟨gb234, 6, none⟩ = some (u235006) := (x3f BK234.out 6).trans rfl
       have hfs41 := x2f BK234.out 6
       have hns41_0 := NB224_234.out
       have hns41_1 := NB225_234.out
       have hns41_3 := NB236_234.out
       have hms41_0 := NB234_224.out
       have hms41_1 := NB234_225.out
       have hms41_3 := NB234_236.out
       refine skip_ (w1 := ?_) (by rfl) rfl ?_ ?_
       rotate_left
       ·go_simp
        rfl
       refine hK.out _ _ ?_
       clear hK K
       refine done_ (done_of HT_.out (by kernel_rfl)) ?_
       try go_wp2
       go_roundg k1
       case measure => have := HK1.out; omega
       case rel => exact ⟨(wrap64 (x24_1 + 1)), (y242), (.slice Ao40 y242.length co40), (by first | rfl | (simp; done) | (simp [*]; done)), H', ⟨by have := HK1.out; omega⟩, ⟨by (with_reducible repeat (first | apply z8f | apply z9f | apply y1f)); exact x6f (x1f (p := ⟨gb234, 6, none⟩) (x7f Ha_.out BK234.out (by decide)) (fun _ hk => hk.2) (.slice Ao40 y242.length co40)) (fun _ hk => hk.1.1)⟩, ⟨by (with_reducible repeat (first | apply z8f | apply z9f | apply y1f)); exact x6f (x1f (p := ⟨gb234, 6, none⟩) (x7f Hb_.out BK234.out (by decide)) (fun _ hk => hk.2) (.slice Ao40 y242.length co40)) (fun _ hk => hk.1.1)⟩, ⟨by (with_reducible repeat (first | apply Kd.S_alloc | apply Kd.S_drewN | apply Kd.S_drew)); exact Kd.S_mono (Kd.S_far (p := ⟨gb234, 6, none⟩) (Kd.S_types HO244.out BK234.out (by decide)) (fun _ hk => hk.2) (.slice Ao40 y242.length co40)) (fun _ hk => ⟨hk.1.1, hk.1.2.1⟩)⟩, ⟨by (with_reducible repeat (first | refine z1f ?_ _ | refine z3f ?_ | refine z2f ?_ _)); refine x8f ?_ NB224_234.out _; (with_reducible repeat (first | refine z1f ?_ _ | refine z3f ?_ | refine z2f ?_ _)); exact BK224.out⟩, ⟨by (with_reducible repeat (first | refine z1f ?_ _ | refine z3f ?_ | refine z2f ?_ _)); refine x8f ?_ NB225_234.out _; (with_reducible repeat (first | refine z1f ?_ _ | refine z3f ?_ | refine z2f ?_ _)); exact BK225.out⟩, ⟨by (with_reducible repeat (first | refine z1f ?_ _ | refine z3f ?_ | refine z2f ?_ _)); refine blk_put (cs := #[.int .i64 t226, .int .i64 t227, .slice Ao14 t228.length co14, .int .i64 a0_3, .int .i64 a0_4, .slice Ao13 t231.length co13, u235006]) ?_ 6 _ rfl; (with_reducible repeat (first | refine z1f ?_ _ | refine z3f ?_ | refine z2f ?_ _)); exact BK234.out⟩, ⟨dV HB.out⟩⟩
      ·rw [if_neg c29] at H
       exact absurd H (by simp)
     ·rw [if_neg c27] at H
      exact absurd H (by simp)
    ·rw [if_neg c26] at H
     exact absurd H (by simp)
   ·rw [if_neg c25] at H
    have c25b0 : decide (x24_1 < (l0_6.length : Int)) = false := decide_eq_false c25
    clear c25
    simp only [Option.some.injEq, Prod.mk.injEq] at H
    obtain ⟨rfl, rfl, rfl, rfl, rfl, rfl, rfl⟩ := H
    have hnb42 := NB234_224.out
    have hnc42 := NB224_234.out
    have hnb43 := NB234_225.out
    have hnc43 := NB225_234.out
    have hcz44_0 : wr.cell? ⟨gb234, 0, none⟩ = some (.int .i64 t226) := (x3f BK234.out 0).trans rfl
    have hcz44_1 : wr.cell? ⟨gb234, 1, none⟩ = some (.int .i64 t227) := (x3f BK234.out 1).trans rfl
    have hcz44_2 : wr.cell? ⟨gb234, 2, none⟩ = some (.slice Ao14 t228.length co14) := (x3f BK234.out 2).trans rfl
    have hcz44_3 : wr.cell? ⟨gb234, 3, none⟩ = some (.int .i64 a0_3) := (x3f BK234.out 3).trans rfl
    have hcz44_4 : wr.cell? ⟨gb234, 4, none⟩ = some (.int .i64 a0_4) := (x3f BK234.out 4).trans rfl
    have hcz44_5 : wr.cell? ⟨gb234, 5, none⟩ = some (.slice Ao13 t231.length co13) := (x3f BK234.out 5).trans rfl
    have hcz44_6 : wr.cell? ⟨gb234, 6, none⟩ = some (u235006) := (x3f BK234.out 6).trans rfl
    have hfz44_0 := x2f BK234.out 0
    have hfz44_1 := x2f BK234.out 1
    have hfz44_2 := x2f BK234.out 2
    have hfz44_3 := x2f BK234.out 3
    have hfz44_4 := x2f BK234.out 4
    have hfz44_5 := x2f BK234.out 5
    have hfz44_6 := x2f BK234.out 6
    have hnb45 := NB225_224.out
    have hnc45 := NB224_225.out
    have hcz46_0 : wr.cell? ⟨gb225, 0, none⟩ = some (.int .i64 0) := (x3f BK225.out 0).trans rfl
    have hcz46_1 : wr.cell? ⟨gb225, 1, none⟩ = some (.int .i64 0) := (x3f BK225.out 1).trans rfl
    have hcz46_2 : wr.cell? ⟨gb225, 2, none⟩ = some (.slice none 0 0) := (x3f BK225.out 2).trans rfl
    have hcz46_3 : wr.cell? ⟨gb225, 3, none⟩ = some (.int .i64 0) := (x3f BK225.out 3).trans rfl
    have hcz46_4 : wr.cell? ⟨gb225, 4, none⟩ = some (.int .i64 0) := (x3f BK225.out 4).trans rfl
    have hcz46_5 : wr.cell? ⟨gb225, 5, none⟩ = some (.slice none 0 0) := (x3f BK225.out 5).trans rfl
    have hcz46_6 : wr.cell? ⟨gb225, 6, none⟩ = some (.slice none 0 0) := (x3f BK225.out 6).trans rfl
    have hfz46_0 := x2f BK225.out 0
    have hfz46_1 := x2f BK225.out 1
    have hfz46_2 := x2f BK225.out 2
    have hfz46_3 := x2f BK225.out 3
    have hfz46_4 := x2f BK225.out 4
    have hfz46_5 := x2f BK225.out 5
    have hfz46_6 := x2f BK225.out 6
    obtain ⟨Ao47, co47, eo47⟩ := Kd.S_slice Hc_.out
    subst eo47
    go_wp2
    refine bodyPost_ret (results_cell_row rfl _ _ gb225 55 #[.int .i64 t226, .int .i64 t227, .slice Ao14 t228.length co14, .int .i64 a0_3, .int .i64 a0_4, .slice Ao13 t231.length co13, .slice Ao47 x235006_1.length co47] (0, 0) _ rfl (by (with_reducible repeat (first | refine z1f ?_ _ | refine z3f ?_ | refine z2f ?_ _)); refine blk_put (cs := #[.int .i64 t226, .int .i64 t227, .slice Ao14 t228.length co14, .int .i64 a0_3, .int .i64 a0_4, .slice Ao13 t231.length co13, .slice none 0 0]) ?_ 6 _ rfl; (with_reducible repeat (first | refine z1f ?_ _ | refine z3f ?_ | refine z2f ?_ _)); refine blk_put (cs := #[.int .i64 t226, .int .i64 t227, .slice Ao14 t228.length co14, .int .i64 a0_3, .int .i64 a0_4, .slice none 0 0, .slice none 0 0]) ?_ 5 _ rfl; (with_reducible repeat (first | refine z1f ?_ _ | refine z3f ?_ | refine z2f ?_ _)); refine blk_put (cs := #[.int .i64 t226, .int .i64 t227, .slice Ao14 t228.length co14, .int .i64 a0_3, .int .i64 0, .slice none 0 0, .slice none 0 0]) ?_ 4 _ rfl; (with_reducible repeat (first | refine z1f ?_ _ | refine z3f ?_ | refine z2f ?_ _)); refine blk_put (cs := #[.int .i64 t226, .int .i64 t227, .slice Ao14 t228.length co14, .int .i64 0, .int .i64 0, .slice none 0 0, .slice none 0 0]) ?_ 3 _ rfl; (with_reducible repeat (first | refine z1f ?_ _ | refine z3f ?_ | refine z2f ?_ _)); refine blk_put (cs := #[.int .i64 t226, .int .i64 t227, .slice none 0 0, .int .i64 0, .int .i64 0, .slice none 0 0, .slice none 0 0]) ?_ 2 _ rfl; (with_reducible repeat (first | refine z1f ?_ _ | refine z3f ?_ | refine z2f ?_ _)); refine blk_put (cs := #[.int .i64 t226, .int .i64 0, .slice none 0 0, .int .i64 0, .int .i64 0, .slice none 0 0, .slice none 0 0]) ?_ 1 _ rfl; (with_reducible repeat (first | refine z1f ?_ _ | refine z3f ?_ | refine z2f ?_ _)); refine blk_put (cs := #[.int .i64 0, .int .i64 0, .slice none 0 0, .int .i64 0, .int .i64 0, .slice none 0 0, .slice none 0 0]) ?_ 0 _ rfl; (with_reducible repeat (first | refine z1f ?_ _ | refine z3f ?_ | refine z2f ?_ _)); exact BK225.out) Tryz.underlying55 rfl (by kernel_rfl)) rfl ?_
    exact ⟨_, _, _, by first | rfl | (simp [errW_none, errW_some] <;> rfl) | (simp [*, errW_none, errW_some] <;> rfl), by (with_reducible repeat (first | apply z8f | apply z9f | apply y1f)); exact x6f (x1f (p := ⟨gb225, 6, none⟩) (x1f (p := ⟨gb225, 5, none⟩) (x1f (p := ⟨gb225, 4, none⟩) (x1f (p := ⟨gb225, 3, none⟩) (x1f (p := ⟨gb225, 2, none⟩) (x1f (p := ⟨gb225, 1, none⟩) (x1f (p := ⟨gb225, 0, none⟩) (x7f Ha_.out BK225.out (by decide)) (fun _ hk => hk.2) (.int .i64 t226)) (fun _ hk => hk.2) (.int .i64 t227)) (fun _ hk => hk.2) (.slice Ao14 t228.length co14)) (fun _ hk => hk.2) (.int .i64 a0_3)) (fun _ hk => hk.2) (.int .i64 a0_4)) (fun _ hk => hk.2) (.slice Ao13 t231.length co13)) (fun _ hk => hk.2) (.slice Ao47 x235006_1.length co47)) (fun _ hk => hk.1), by (with_reducible repeat (first | apply z8f | apply z9f | apply y1f)); exact x6f (x1f (p := ⟨gb225, 6, none⟩) (x1f (p := ⟨gb225, 5, none⟩) (x1f (p := ⟨gb225, 4, none⟩) (x1f (p := ⟨gb225, 3, none⟩) (x1f (p := ⟨gb225, 2, none⟩) (x1f (p := ⟨gb225, 1, none⟩) (x1f (p := ⟨gb225, 0, none⟩) (x7f Hb_.out BK225.out (by decide)) (fun _ hk => hk.2) (.int .i64 t226)) (fun _ hk => hk.2) (.int .i64 t227)) (fun _ hk => hk.2) (.slice Ao14 t228.length co14)) (fun _ hk => hk.2) (.int .i64 a0_3)) (fun _ hk => hk.2) (.int .i64 a0_4)) (fun _ hk => hk.2) (.slice Ao13 t231.length co13)) (fun _ hk => hk.2) (.slice Ao47 x235006_1.length co47)) (fun _ hk => hk.1), by (with_reducible repeat (first | apply Kd.S_alloc | apply Kd.S_drewN | apply Kd.S_drew)); exact Kd.S_mono (Kd.S_far (p := ⟨gb225, 6, none⟩) (Kd.S_far (p := ⟨gb225, 5, none⟩) (Kd.S_far (p := ⟨gb225, 4, none⟩) (Kd.S_far (p := ⟨gb225, 3, none⟩) (Kd.S_far (p := ⟨gb225, 2, none⟩) (Kd.S_far (p := ⟨gb225, 1, none⟩) (Kd.S_far (p := ⟨gb225, 0, none⟩) (Kd.S_types Hc_.out BK225.out (by decide)) (fun _ hk => hk.2) (.int .i64 t226)) (fun _ hk => hk.2) (.int .i64 t227)) (fun _ hk => hk.2) (.slice Ao14 t228.length co14)) (fun _ hk => hk.2) (.int .i64 a0_3)) (fun _ hk => hk.2) (.int .i64 a0_4)) (fun _ hk => hk.2) (.slice Ao13 t231.length co13)) (fun _ hk => hk.2) (.slice Ao47 x235006_1.length co47)) (fun _ hk => ⟨hk.1.1, hk.1.2⟩), dV HB.out⟩

end Go.Proofs.YtkcgnnepgebekaaGreatDoor.PFnDesk
