/- Machine side of laws FnDesk: written for this claim by the kit's print program under this session's wip/tools/mp_setup.py (with contracts of the session's own, wip/ext). -/
import Derived.Test.YtkcgnnepgebekaaGreatDoorPFnDeskx0
import Derived.Test.YtkcgnnepgebekaaGreatDoorPFnDeskx1
import Derived.Test.YtkcgnnepgebekaaGreatDoorPFnDeskx3
import Derived.Test.YtkcgnnepgebekaaGreatDoorPFnDeskx6
namespace Go.Proofs.YtkcgnnepgebekaaGreatDoor.PFnDesk
open Go.RowKit Go.Proofs.YtkcgnnepgebekaaGreatDoorW.PrintWords Go.Proofs.YtkcgnnepgebekaaGreatDoorW.PrintLast Go.Proofs.YtkcgnnepgebekaaGreatDoorW.PrintMore
attribute [local go_sem] max2_int min2_int max_two min_two max_three min_three max_four min_four   -- for this text's walks alone
set_option linter.unusedVariables false
set_option linter.unusedSimpArgs false
-- squeezed: words under short names
set_option linter.defProp false in
def z0h := @Aside0.mk
set_option linter.defProp false in
def z1h := @blk_drewN
set_option linter.defProp false in
def z2h := @blk_alloc
set_option linter.defProp false in
def z3h := @blk_drew
set_option linter.defProp false in
def x1h := @Kd.R_far
set_option linter.defProp false in
def x2h := @blk_frozen
set_option linter.defProp false in
def x3h := @blk_cell
set_option linter.defProp false in
def x4h := @Kd.R_below
def bsh_ (n m : Nat) : Array Bool := ((List.range n).map fun i => m.testBit i).toArray
theorem s1h_ {α : Type} (l : List α) (i : Nat) (a : α) : l.toArray.setIfInBounds i a = (l.set i a).toArray := List.setIfInBounds_toArray l i a
theorem s2h_ {α : Type} (a b : α) (l : List α) : (a :: l).set 0 b = b :: l := rfl
theorem s3h_ {α : Type} (a b : α) (n : Nat) (l : List α) : (a :: l).set (n + 1) b = a :: l.set n b := rfl

def impl_DeskOk.f (k : Nat) (a0_0 : Int) (a0_1 : Int) (l0_2 : List Int) (a0_3 : Int) (a0_4 : Int) (l0_5 : List Int) (l0_6 : List (S27)) : Option (Bool) := (impl_IsPicture.f a0_0 a0_1 l0_2).bind fun t255 => (if t255 = true then ((impl_IsMatrix.f a0_3 a0_4 l0_5).bind fun t256 => (if t256 = true then (if (l0_6.length : Int) = 0 then (some true) else ((impl_IsStack.f k l0_6).bind fun t257 => (if t257 = true then (if 0 < (l0_6.length : Int) then ((impl_alike.f a0_0 a0_1 l0_2 ((rd_T27 l0_6 0).f0) ((rd_T27 l0_6 0).f1) ((rd_T27 l0_6 0).f2)).bind fun t259 => (some t259)) else (none)) else (none)))) else (none))) else (none))
def impl_DeskOk.T1 : Bool × List (List Nat × List Nat) := (true, [([], []), ([0], [0]), ([1], [1]), ([2, 2], [2]), ([3], [3]), ([4, 3], [3, 4]), ([5, 3, 3], [3, 5]), ([3, 6], [3, 6]), ([7, 6], [7]), ([8], [8]), ([9, 8], [8, 9]), ([10, 8], [8, 10]), ([11, 8], [8, 11]), ([12, 8, 8], [8, 12]), ([13], [13]), ([14, 13], [13, 14]), ([15, 13, 13], [13, 15]), ([16, 16, 13], [13, 16]), ([17], [17]), ([18, 17], [17, 18]), ([17], [17]), ([20, 17], [17, 20]), ([21, 17], [17, 21]), ([22, 17], [17, 22]), ([19, 23, 17, 17], [17, 19, 23]), ([17, 24, 13], [13, 17, 24]), ([13, 25, 8], [8, 13, 25]), ([8, 26], [8, 26]), ([27, 24, 0, 1, 2, 3, 4, 5, 6, 7, 8, 9, 10, 11, 12, 13, 14, 15, 16, 17, 18, 19, 20, 21, 22, 23, 24, 25, 26, 27], [27])])
def impl_DeskOk.B1 : List Nat := [0, 1, 3, 7, 15, 31, 63, 127, 255, 511, 1023, 2047, 4095, 8191, 16383, 32767, 65535, 131071, 262143, 524287, 262143, 1310719, 3407871, 7602175, 16777215, 33554431, 67108863, 134217727, 268435455]
theorem impl_DeskOk.tab1 : rtab .any (opsOf Tryz.f38 1) = impl_DeskOk.T1 := by kernel_rfl
theorem impl_DeskOk.bits1 : waitsOk impl_DeskOk.T1.2 impl_DeskOk.B1 = true := by kernel_rfl
set_option maxHeartbeats 8000000 in
set_option maxRecDepth 100000 in
theorem impl_DeskOk.calls (k : Nat) (a0_0 : Int) (a0_1 : Int) (A0_2 : Option Addr) (c0_2 : Nat) (l0_2 : List Int) (a0_3 : Int) (a0_4 : Int) (A0_5 : Option Addr) (c0_5 : Nat) (l0_5 : List Int) (A0_6 : Option Addr) (c0_6 : Nat) (l0_6 : List (S27)) (r : Bool) (w : World) (hr0_2 : Kd.C (Kd.int .i64) w A0_2 l0_2.length l0_2) (hc0_2 : l0_2.length ≤ c0_2) (hr0_5 : Kd.C (Kd.int .i64) w A0_5 l0_5.length l0_5) (hc0_5 : l0_5.length ≤ c0_5) (hr0_6 : Kd.C k27 w A0_6 l0_6.length l0_6) (hc0_6 : l0_6.length ≤ c0_6) (h : impl_DeskOk.f k a0_0 a0_1 l0_2 a0_3 a0_4 l0_5 l0_6 = some r) :
  Calls Tryz.prog 38 #[.agg #[.int .i64 a0_0, .int .i64 a0_1, .slice A0_2 l0_2.length c0_2, .int .i64 a0_3, .int .i64 a0_4, .slice A0_5 l0_5.length c0_5, .slice A0_6 l0_6.length c0_6]] w fun e w' => e = .returned (.bool r) ∧ Below w.heap.size w w' := by
 have hu55 := Tryz.underlying55
 have hu27 := Tryz.underlying27
 have hu31 := Tryz.underlying31
 have HR0_2 := z0h hr0_2
 have HC0_2 := z0h hc0_2
 clear hr0_2 hc0_2
 have HR0_5 := z0h hr0_5
 have HC0_5 := z0h hc0_5
 clear hr0_5 hc0_5
 have HR0_6 := z0h hr0_6
 have HC0_6 := z0h hc0_6
 clear hr0_6 hc0_6
 have HB := z0h (Below.refl w.heap.size w)
 have H := h
 unfold impl_DeskOk.f at H
 clear h
 replace H := Option.bind_eq_some_iff.mp H
 obtain ⟨t255, A20, H⟩ := H
 (try dsimp only at H)
 have A2 := z0h A20
 clear A20
 by_cases c3 : t255 = true
 ·subst c3
  rw [if_pos rfl] at H
  replace H := Option.bind_eq_some_iff.mp H
  obtain ⟨t256, A40, H⟩ := H
  (try dsimp only at H)
  have A4 := z0h A40
  clear A40
  by_cases c5 : t256 = true
  ·subst c5
   rw [if_pos rfl] at H
   by_cases c6 : (l0_6.length : Int) = 0
   ·rw [if_pos c6] at H
    have c6b0 : ((l0_6.length : Int) == 0) = true := beq_iff_eq.mpr c6
    have c6b1 : ((l0_6.length : Int) != 0) = false := bne_eq_false_iff_eq.mpr c6
    clear c6
    obtain rfl := Option.some.inj H
    go_enter Tryz.func38, Tryz.ntmps38
    try go_wp2_with (first | ((with_reducible refine gate_dst (N := 1) rfl ?_); (try (refine gate_guard (by rfl) ?_; dsimp only)); refine box_event rfl (N := 1) rfl (cs := #[.int .i64 a0_0, .int .i64 a0_1, .slice A0_2 l0_2.length c0_2, .int .i64 a0_3, .int .i64 a0_4, .slice A0_5 l0_5.length c0_5, .slice A0_6 l0_6.length c0_6]) (t := 55) (by first | (go_simp; done) | (go_simp; rfl)) ?_; intro gb254 hg w7 hbox hb; have n_ := a4 (dU HB.out hb) (hbox) (gE hg HB.out) (gE hg HB.out); clear HB; obtain ⟨HB, BK254, GW254, GE254⟩ := n_; have gi_254 := GEc.mk GE254.out; clear hb hbox hg))
    have n_ := a2 (z3h BK254.out) (below_drew1 HB.out); clear BK254 HB; obtain ⟨BK254, HB⟩ := n_
    refine start_ (n := 29) (S := fun w' => w'.cell? ⟨gb254, 0, none⟩ = some (.int .i64 a0_0) ∧ w'.cell? ⟨gb254, 1, none⟩ = some (.int .i64 a0_1) ∧ w'.cell? ⟨gb254, 2, none⟩ = some (.slice A0_2 l0_2.length c0_2) ∧ w'.cell? ⟨gb254, 3, none⟩ = some (.int .i64 a0_3) ∧ w'.cell? ⟨gb254, 4, none⟩ = some (.int .i64 a0_4) ∧ w'.cell? ⟨gb254, 5, none⟩ = some (.slice A0_5 l0_5.length c0_5) ∧ w'.cell? ⟨gb254, 6, none⟩ = some (.slice A0_6 l0_6.length c0_6)) (ds := []) (bsh_ 29 0) (by kernel_rfl) rfl rfl ⟨(x3h BK254.out 0).trans rfl, (x3h BK254.out 1).trans rfl, (x3h BK254.out 2).trans rfl, (x3h BK254.out 3).trans rfl, (x3h BK254.out 4).trans rfl, (x3h BK254.out 5).trans rfl, (x3h BK254.out 6).trans rfl⟩ (fun hHeld => ?_); refine with_tabW impl_DeskOk.tab1 impl_DeskOk.bits1 (fun HT_ HW_ => ?_)
    generalize w7.drew = w8 at BK254 HB hHeld ⊢
    refine pz 0 (some 3) ?_ (bsh_ 29 1) rfl rfl HT_.out (by kernel_rfl) (fun _ _ _ h => h) (Or.inl ⟨by rfl, ?_⟩) ?_ ?_ ?_
    rotate_left
    ·intro w'
     go_simp
     with_reducible rfl
    rotate_left
    ·simp only [Act.put, s1h_, s2h_, s3h_, i64_w, i32_w]
     rfl
    refine take_ (i := 1) (N := some 4) (v := ?_) (a' := ?_) (bsh_ 29 3) rfl rfl (take_ofW HT_.out HW_.out (by kernel_rfl)) (fun _ _ _ h => h) (Or.inl ⟨by rfl, ?_⟩) hHeld ?_ ?_
    rotate_left
    ·rintro w' ⟨s0, s1, s2, s3, s4, s5, s6⟩
     go_simp
     with_reducible rfl
    rotate_left
    ·simp only [Act.put, s1h_, s2h_, s3h_, i64_w, i32_w]
     rfl
    refine one_ (i := 2) (N := some 5) (bsh_ 29 7) rfl rfl (one_of HT_.out (by kernel_rfl)) (by decide) (fun K hK => ?_)
    refine goes_ Tryz.func17 (by kernel_rfl) rfl #[.agg #[.int .i64 a0_0, .int .i64 a0_1, .slice A0_2 l0_2.length c0_2]] (by rfl) rfl rfl (by (try simp only [List.map_toArray, List.map_cons, List.map_nil]); first | done | rfl | (simp only [List.length_drop, List.length_take]; rfl)) ?_
    with_reducible refine (impl_IsPicture.calls a0_0 a0_1 _ _ l0_2 true _ ?side1 ?side2 A2.out).mono ?_
    (case side1 => repeat (first | exact HR0_2.out | exact (Kd.C_below HR0_2.out HB.out) | (with_reducible refine Kd.C_alloc ?_ _) | (with_reducible refine Kd.C_drewN ?_ _) | (with_reducible refine Kd.C_drew ?_)))
    (case side2 => exact HC0_2.out)
    rintro e w9 ⟨rfl, hb⟩
    refine ⟨_, rfl, ?_⟩
    have n_ := a2 (bU BK254.out hb) (dU HB.out hb); clear BK254 HB; obtain ⟨BK254, HB⟩ := n_
    (try clear hb)
    refine hK.out _ _ ⟨(x3h BK254.out 0).trans rfl, (x3h BK254.out 1).trans rfl, (x3h BK254.out 2).trans rfl, (x3h BK254.out 3).trans rfl, (x3h BK254.out 4).trans rfl, (x3h BK254.out 5).trans rfl, (x3h BK254.out 6).trans rfl⟩ (fun hHeld => ?_)
    clear hK K
    refine norm_ (a' := ?_) ?_ ?_
    rotate_left
    ·show Act.put _ (some 5) _ = _
     simp only [Act.put, s1h_, s2h_, s3h_, i64_w, i32_w]
     rfl
    refine pz 3 (some 6) ?_ (bsh_ 29 15) rfl rfl HT_.out (by kernel_rfl) (fun _ _ _ h => h) (Or.inl ⟨by rfl, ?_⟩) ?_ ?_ ?_
    rotate_left
    ·intro w'
     go_simp
     with_reducible rfl
    rotate_left
    ·simp only [Act.put, s1h_, s2h_, s3h_, i64_w, i32_w]
     rfl
    refine pz 4 (some 7) ?_ (bsh_ 29 31) rfl rfl HT_.out (by kernel_rfl) (fun _ _ _ h => h) (Or.inl ⟨by rfl, ?_⟩) ?_ ?_ ?_
    rotate_left
    ·intro w'
     go_simp
     with_reducible rfl
    rotate_left
    ·simp only [Act.put, s1h_, s2h_, s3h_, i64_w, i32_w]
     rfl
    refine take_ (i := 5) (N := some 8) (v := ?_) (a' := ?_) (bsh_ 29 63) rfl rfl (take_ofW HT_.out HW_.out (by kernel_rfl)) (fun _ _ _ h => h) (Or.inl ⟨by rfl, ?_⟩) hHeld ?_ ?_
    rotate_left
    ·rintro w' ⟨s0, s1, s2, s3, s4, s5, s6⟩
     go_simp
     with_reducible rfl
    rotate_left
    ·simp only [Act.put, s1h_, s2h_, s3h_, i64_w, i32_w]
     rfl
    refine one_ (i := 6) (N := some 9) (bsh_ 29 127) rfl rfl (one_of HT_.out (by kernel_rfl)) (by decide) (fun K hK => ?_)
    refine goes_ Tryz.func16 (by kernel_rfl) rfl #[.agg #[.int .i64 a0_3, .int .i64 a0_4, .slice A0_5 l0_5.length c0_5]] (by rfl) rfl rfl (by (try simp only [List.map_toArray, List.map_cons, List.map_nil]); first | done | rfl | (simp only [List.length_drop, List.length_take]; rfl)) ?_
    with_reducible refine (impl_IsMatrix.calls a0_3 a0_4 _ _ l0_5 true _ ?side1 ?side2 A4.out).mono ?_
    (case side1 => repeat (first | exact HR0_5.out | exact (Kd.C_below HR0_5.out HB.out) | (with_reducible refine Kd.C_alloc ?_ _) | (with_reducible refine Kd.C_drewN ?_ _) | (with_reducible refine Kd.C_drew ?_)))
    (case side2 => exact HC0_5.out)
    rintro e w10 ⟨rfl, hb⟩
    refine ⟨_, rfl, ?_⟩
    have n_ := a2 (bU BK254.out hb) (dU HB.out hb); clear BK254 HB; obtain ⟨BK254, HB⟩ := n_
    (try clear hb)
    refine hK.out _ _ ⟨(x3h BK254.out 0).trans rfl, (x3h BK254.out 1).trans rfl, (x3h BK254.out 2).trans rfl, (x3h BK254.out 3).trans rfl, (x3h BK254.out 4).trans rfl, (x3h BK254.out 5).trans rfl, (x3h BK254.out 6).trans rfl⟩ (fun hHeld => ?_)
    clear hK K
    refine norm_ (a' := ?_) ?_ ?_
    rotate_left
    ·show Act.put _ (some 9) _ = _
     simp only [Act.put, s1h_, s2h_, s3h_, i64_w, i32_w]
     rfl
    refine pz 7 (some 10) ?_ (bsh_ 29 255) rfl rfl HT_.out (by kernel_rfl) (fun _ _ _ h => h) (Or.inl ⟨by rfl, ?_⟩) ?_ ?_ ?_
    rotate_left
    ·intro w'
     go_simp
     with_reducible rfl
    rotate_left
    ·simp only [Act.put, s1h_, s2h_, s3h_, i64_w, i32_w]
     rfl
    refine pz 8 (some 11) ?_ (bsh_ 29 511) rfl rfl HT_.out (by kernel_rfl) (fun _ _ _ h => h) (Or.inl ⟨by rfl, ?_⟩) ?_ ?_ ?_
    rotate_left
    ·intro w'
     go_simp
     with_reducible rfl
    rotate_left
    ·simp only [Act.put, s1h_, s2h_, s3h_, i64_w, i32_w]
     rfl
    refine pz 9 (some 12) ?_ (bsh_ 29 1023) rfl rfl HT_.out (by kernel_rfl) (fun _ _ _ h => h) (Or.inl ⟨by rfl, ?_⟩) ?_ ?_ ?_
    rotate_left
    ·intro w'
     go_simp
     with_reducible rfl
    rotate_left
    ·simp only [Act.put, s1h_, s2h_, s3h_, i64_w, i32_w]
     rfl
    refine take_ (i := 10) (N := some 13) (v := ?_) (a' := ?_) (bsh_ 29 2047) rfl rfl (take_ofW HT_.out HW_.out (by kernel_rfl)) (fun _ _ _ h => h) (Or.inl ⟨by rfl, ?_⟩) hHeld ?_ ?_
    rotate_left
    ·rintro w' ⟨s0, s1, s2, s3, s4, s5, s6⟩
     go_simp
     with_reducible rfl
    rotate_left
    ·simp only [Act.put, s1h_, s2h_, s3h_, i64_w, i32_w]
     rfl
    refine pz 11 (some 14) ?_ (bsh_ 29 4095) rfl rfl HT_.out (by kernel_rfl) (fun _ _ _ h => h) (Or.inl ⟨by rfl, ?_⟩) ?_ ?_ ?_
    rotate_left
    ·intro w'
     go_simp
     with_reducible rfl
    rotate_left
    ·simp only [Act.put, s1h_, s2h_, s3h_, i64_w, i32_w]
     rfl
    refine pz 12 (some 15) ?_ (bsh_ 29 8191) rfl rfl HT_.out (by kernel_rfl) (fun _ _ _ h => h) (Or.inl ⟨by rfl, ?_⟩) ?_ ?_ ?_
    rotate_left
    ·intro w'
     go_simp
     with_reducible rfl
    rotate_left
    ·simp only [Act.put, s1h_, s2h_, s3h_, i64_w, i32_w]
     rfl
    refine pz 13 (some 16) ?_ (bsh_ 29 16383) rfl rfl HT_.out (by kernel_rfl) (fun _ _ _ h => h) (Or.inl ⟨by rfl, ?_⟩) ?_ ?_ ?_
    rotate_left
    ·intro w'
     go_simp
     with_reducible rfl
    rotate_left
    ·simp only [Act.put, s1h_, s2h_, s3h_, i64_w, i32_w]
     rfl
    refine pure_ (i := 14) (N := some 17) (v := undef) (a' := ?_) (bsh_ 29 32767) rfl rfl (any_of HT_.out (by kernel_rfl)) (fun _ _ _ h => h) (Or.inr ⟨by rfl, rfl⟩) ?_ ?_
    rotate_left
    ·simp only [Act.put, s1h_, s2h_, s3h_, i64_w, i32_w]
     rfl
    refine pure_ (i := 15) (N := some 18) (v := undef) (a' := ?_) (bsh_ 29 65535) rfl rfl (any_of HT_.out (by kernel_rfl)) (fun _ _ _ h => h) (Or.inr ⟨by rfl, rfl⟩) ?_ ?_
    rotate_left
    ·simp only [Act.put, s1h_, s2h_, s3h_, i64_w, i32_w]
     rfl
    refine pure_ (i := 16) (N := some 19) (v := undef) (a' := ?_) (bsh_ 29 131071) rfl rfl (any_of HT_.out (by kernel_rfl)) (fun _ _ _ h => h) (Or.inr ⟨by rfl, rfl⟩) ?_ ?_
    rotate_left
    ·simp only [Act.put, s1h_, s2h_, s3h_, i64_w, i32_w]
     rfl
    refine pure_ (i := 17) (N := some 20) (v := undef) (a' := ?_) (bsh_ 29 262143) rfl rfl (any_of HT_.out (by kernel_rfl)) (fun _ _ _ h => h) (Or.inr ⟨by rfl, rfl⟩) ?_ ?_
    rotate_left
    ·simp only [Act.put, s1h_, s2h_, s3h_, i64_w, i32_w]
     rfl
    refine pure_ (i := 18) (N := some 21) (v := undef) (a' := ?_) (bsh_ 29 524287) rfl rfl (any_of HT_.out (by kernel_rfl)) (fun _ _ _ h => h) (Or.inr ⟨by rfl, rfl⟩) ?_ ?_
    rotate_left
    ·simp only [Act.put, s1h_, s2h_, s3h_, i64_w, i32_w]
     rfl
    refine pure_ (i := 19) (N := some 22) (v := undef) (a' := ?_) (bsh_ 29 1048575) rfl rfl (any_of HT_.out (by kernel_rfl)) (fun _ _ _ h => h) (Or.inr ⟨by rfl, rfl⟩) ?_ ?_
    rotate_left
    ·simp only [Act.put, s1h_, s2h_, s3h_, i64_w, i32_w]
     rfl
    refine pure_ (i := 20) (N := some 23) (v := undef) (a' := ?_) (bsh_ 29 2097151) rfl rfl (any_of HT_.out (by kernel_rfl)) (fun _ _ _ h => h) (Or.inr ⟨by rfl, rfl⟩) ?_ ?_
    rotate_left
    ·simp only [Act.put, s1h_, s2h_, s3h_, i64_w, i32_w]
     rfl
    refine pure_ (i := 21) (N := some 24) (v := undef) (a' := ?_) (bsh_ 29 4194303) rfl rfl (any_of HT_.out (by kernel_rfl)) (fun _ _ _ h => h) (Or.inr ⟨by rfl, rfl⟩) ?_ ?_
    rotate_left
    ·simp only [Act.put, s1h_, s2h_, s3h_, i64_w, i32_w]
     rfl
    refine pure_ (i := 22) (N := some 25) (v := undef) (a' := ?_) (bsh_ 29 8388607) rfl rfl (any_of HT_.out (by kernel_rfl)) (fun _ _ _ h => h) (Or.inr ⟨by rfl, rfl⟩) ?_ ?_
    rotate_left
    ·simp only [Act.put, s1h_, s2h_, s3h_, i64_w, i32_w]
     rfl
    refine pure_ (i := 23) (N := some 26) (v := undef) (a' := ?_) (bsh_ 29 16777215) rfl rfl (any_of HT_.out (by kernel_rfl)) (fun _ _ _ h => h) (Or.inr ⟨by rfl, rfl⟩) ?_ ?_
    rotate_left
    ·simp only [Act.put, s1h_, s2h_, s3h_, i64_w, i32_w]
     rfl
    refine pure_ (i := 24) (N := some 27) (v := undef) (a' := ?_) (bsh_ 29 33554431) rfl rfl (any_of HT_.out (by kernel_rfl)) (fun _ _ _ h => h) (Or.inr ⟨by rfl, rfl⟩) ?_ ?_
    rotate_left
    ·simp only [Act.put, s1h_, s2h_, s3h_, i64_w, i32_w]
     rfl
    refine pure_ (i := 25) (N := some 28) (v := undef) (a' := ?_) (bsh_ 29 67108863) rfl rfl (any_of HT_.out (by kernel_rfl)) (fun _ _ _ h => h) (Or.inr ⟨by rfl, rfl⟩) ?_ ?_
    rotate_left
    ·simp only [Act.put, s1h_, s2h_, s3h_, i64_w, i32_w]
     rfl
    refine pz 26 (some 29) ?_ (bsh_ 29 134217727) rfl rfl HT_.out (by kernel_rfl) (fun _ _ _ h => h) (Or.inl ⟨by rfl, ?_⟩) ?_ ?_ ?_
    rotate_left
    ·intro w'
     go_simp
     with_reducible rfl
    rotate_left
    ·simp only [Act.put, s1h_, s2h_, s3h_, i64_w, i32_w]
     rfl
    refine pz 27 (some 30) ?_ (bsh_ 29 268435455) rfl rfl HT_.out (by kernel_rfl) (fun _ _ _ h => h) (Or.inl ⟨by rfl, ?_⟩) ?_ ?_ ?_
    rotate_left
    ·intro w'
     go_simp
     with_reducible rfl
    rotate_left
    ·simp only [Act.put, s1h_, s2h_, s3h_, i64_w, i32_w]
     rfl
    refine pz 28 (some 2) ?_ (bsh_ 29 536870911) rfl rfl HT_.out (by kernel_rfl) (fun _ _ _ h => h) (Or.inl ⟨by rfl, ?_⟩) ?_ ?_ ?_
    rotate_left
    ·intro w'
     go_simp
     with_reducible rfl
    rotate_left
    ·simp only [Act.put, s1h_, s2h_, s3h_, i64_w, i32_w]
     rfl
    refine done_ (done_of HT_.out (by kernel_rfl)) ?_
    try go_wp2
    go_ret
    exact ⟨by first | rfl | (simp [errW_none, errW_some] <;> rfl) | (simp [*, errW_none, errW_some] <;> rfl), dV HB.out⟩
   ·rw [if_neg c6] at H
    have c6b0 : ((l0_6.length : Int) == 0) = false := beq_eq_false_iff_ne.mpr c6
    have c6b1 : ((l0_6.length : Int) != 0) = true := bne_iff_ne.mpr c6
    have c6b2 : ¬ (l0_6 = []) := fun h_ => c6 (by rw [h_]; rfl)
    replace H := Option.bind_eq_some_iff.mp H
    obtain ⟨t257, A110, H⟩ := H
    (try dsimp only at H)
    have A11 := z0h A110
    clear A110
    by_cases c12 : t257 = true
    ·subst c12
     rw [if_pos rfl] at H
     by_cases c13 : 0 < (l0_6.length : Int)
     ·rw [if_pos c13] at H
      have c13b0 : decide (0 < (l0_6.length : Int)) = true := decide_eq_true c13
      have c13b1 : decide (0 < l0_6.length) = true := decide_eq_true (by omega)
      clear c13
      replace H := Option.bind_eq_some_iff.mp H
      obtain ⟨t259, A140, H⟩ := H
      (try dsimp only at H)
      have A14 := z0h A140
      clear A140
      obtain rfl := Option.some.inj H
      go_enter Tryz.func38, Tryz.ntmps38
      try go_wp2_with (first | ((with_reducible refine gate_dst (N := 1) rfl ?_); (try (refine gate_guard (by rfl) ?_; dsimp only)); refine box_event rfl (N := 1) rfl (cs := #[.int .i64 a0_0, .int .i64 a0_1, .slice A0_2 l0_2.length c0_2, .int .i64 a0_3, .int .i64 a0_4, .slice A0_5 l0_5.length c0_5, .slice A0_6 l0_6.length c0_6]) (t := 55) (by first | (go_simp; done) | (go_simp; rfl)) ?_; intro gb254 hg w15 hbox hb; have n_ := a4 (dU HB.out hb) (hbox) (gE hg HB.out) (gE hg HB.out); clear HB; obtain ⟨HB, BK254, GW254, GE254⟩ := n_; have gi_254 := GEc.mk GE254.out; clear hb hbox hg))
      have n_ := a2 (z3h BK254.out) (below_drew1 HB.out); clear BK254 HB; obtain ⟨BK254, HB⟩ := n_
      have p258 : 0 ≤ (0 : Int) := (by omega)
      have q258 : 0 < (l0_6.length : Int) := of_decide_eq_true (by first | (with_reducible assumption) | assumption)
      obtain ⟨ad258, A258_2, c258_2, e258, hx258_0, hx258_1, hx258_2, hl258_2, hi258_2⟩ := at_T27 HR0_6.out 0 p258 q258
      have hw258_2 := hx258_2
      (try rw [show ((0 : Int)).toNat = 0 from rfl] at hw258_2)
      (try rw [show 0 * 3 = 0 from rfl] at hw258_2)
      (try rw [Addr.add_zero'] at hw258_2)
      have hw258_1 := hx258_1
      (try rw [show ((0 : Int)).toNat = 0 from rfl] at hw258_1)
      (try rw [show 0 * 3 = 0 from rfl] at hw258_1)
      (try rw [Addr.add_zero'] at hw258_1)
      have hw258_0 := hx258_0
      (try rw [show ((0 : Int)).toNat = 0 from rfl] at hw258_0)
      (try rw [show 0 * 3 = 0 from rfl] at hw258_0)
      (try rw [Addr.add_zero'] at hw258_0)
      cases e258
      have qi258 : (0 < l0_6.length) = True := eq_true (by omega)
      (try rw [show ((0 : Int)).toNat = 0 from rfl] at hx258_0)
      (try rw [show 0 * 3 = 0 from rfl] at hx258_0)
      (try rw [Addr.add_zero'] at hx258_0)
      (try rw [show ((0 : Int)).toNat = 0 from rfl] at hx258_1)
      (try rw [show 0 * 3 = 0 from rfl] at hx258_1)
      (try rw [Addr.add_zero'] at hx258_1)
      (try rw [show ((0 : Int)).toNat = 0 from rfl] at hx258_2)
      (try rw [show 0 * 3 = 0 from rfl] at hx258_2)
      (try rw [Addr.add_zero'] at hx258_2)
      try replace hx258_0 := (HB.out.cell (World.block_lt_of_cell? w _ hx258_0)).trans hx258_0
      try replace hx258_1 := (HB.out.cell (World.block_lt_of_cell? w _ hx258_1)).trans hx258_1
      try replace hx258_2 := (HB.out.cell (World.block_lt_of_cell? w _ hx258_2)).trans hx258_2
      have HR258_2 := z0h hi258_2
      have HC258_2 := z0h hl258_2
      clear hi258_2 hl258_2
      replace p258 := eq_true p258
      replace q258 := eq_true q258
      refine start_ (n := 29) (S := fun w' => w'.cell? ⟨gb254, 0, none⟩ = some (.int .i64 a0_0) ∧ w'.cell? ⟨gb254, 1, none⟩ = some (.int .i64 a0_1) ∧ w'.cell? ⟨gb254, 2, none⟩ = some (.slice A0_2 l0_2.length c0_2) ∧ w'.cell? ⟨gb254, 3, none⟩ = some (.int .i64 a0_3) ∧ w'.cell? ⟨gb254, 4, none⟩ = some (.int .i64 a0_4) ∧ w'.cell? ⟨gb254, 5, none⟩ = some (.slice A0_5 l0_5.length c0_5) ∧ w'.cell? ⟨gb254, 6, none⟩ = some (.slice (some ad258) l0_6.length c0_6) ∧ w'.cell? ad258 = some (.int .i64 ((rd_T27 l0_6 0).f0)) ∧ w'.cell? ⟨ad258.block, ad258.off + 1, none⟩ = some (.int .i64 ((rd_T27 l0_6 0).f1)) ∧ w'.cell? ⟨ad258.block, ad258.off + 2, none⟩ = some (.slice A258_2 ((rd_T27 l0_6 0).f2).length c258_2)) (ds := []) (bsh_ 29 0) (by kernel_rfl) rfl rfl ⟨(x3h BK254.out 0).trans rfl, (x3h BK254.out 1).trans rfl, (x3h BK254.out 2).trans rfl, (x3h BK254.out 3).trans rfl, (x3h BK254.out 4).trans rfl, (x3h BK254.out 5).trans rfl, (x3h BK254.out 6).trans rfl, ((HB.out.cell (World.block_lt_of_cell? w _ hw258_0)).trans hw258_0), ((HB.out.cell (World.block_lt_of_cell? w _ hw258_1)).trans hw258_1), ((HB.out.cell (World.block_lt_of_cell? w _ hw258_2)).trans hw258_2)⟩ (fun hHeld => ?_); refine with_tabW impl_DeskOk.tab1 impl_DeskOk.bits1 (fun HT_ HW_ => ?_)
      generalize w15.drew = w16 at BK254 HB HR258_2 hx258_0 hx258_1 hx258_2 hHeld ⊢
      refine pz 0 (some 3) ?_ (bsh_ 29 1) rfl rfl HT_.out (by kernel_rfl) (fun _ _ _ h => h) (Or.inl ⟨by rfl, ?_⟩) ?_ ?_ ?_
      rotate_left
      ·intro w'
       go_simp
       with_reducible rfl
      rotate_left
      ·simp only [Act.put, s1h_, s2h_, s3h_, i64_w, i32_w]
       rfl
      refine take_ (i := 1) (N := some 4) (v := ?_) (a' := ?_) (bsh_ 29 3) rfl rfl (take_ofW HT_.out HW_.out (by kernel_rfl)) (fun _ _ _ h => h) (Or.inl ⟨by rfl, ?_⟩) hHeld ?_ ?_
      rotate_left
      ·rintro w' ⟨s0, s1, s2, s3, s4, s5, s6, s7, s8, s9⟩
       go_simp
       with_reducible rfl
      rotate_left
      ·simp only [Act.put, s1h_, s2h_, s3h_, i64_w, i32_w]
       rfl
      refine one_ (i := 2) (N := some 5) (bsh_ 29 7) rfl rfl (one_of HT_.out (by kernel_rfl)) (by decide) (fun K hK => ?_)
      refine goes_ Tryz.func17 (by kernel_rfl) rfl #[.agg #[.int .i64 a0_0, .int .i64 a0_1, .slice A0_2 l0_2.length c0_2]] (by rfl) rfl rfl (by (try simp only [List.map_toArray, List.map_cons, List.map_nil]); first | done | rfl | (simp only [List.length_drop, List.length_take]; rfl)) ?_
      with_reducible refine (impl_IsPicture.calls a0_0 a0_1 _ _ l0_2 true _ ?side1 ?side2 A2.out).mono ?_
      (case side1 => repeat (first | exact HR0_2.out | exact (Kd.C_below HR0_2.out HB.out) | (with_reducible refine Kd.C_alloc ?_ _) | (with_reducible refine Kd.C_drewN ?_ _) | (with_reducible refine Kd.C_drew ?_)))
      (case side2 => exact HC0_2.out)
      rintro e w17 ⟨rfl, hb⟩
      refine ⟨_, rfl, ?_⟩
      have n_ := a2 (bU BK254.out hb) (dU HB.out hb); clear BK254 HB; obtain ⟨BK254, HB⟩ := n_
      (try clear hb)
      refine hK.out _ _ ⟨(x3h BK254.out 0).trans rfl, (x3h BK254.out 1).trans rfl, (x3h BK254.out 2).trans rfl, (x3h BK254.out 3).trans rfl, (x3h BK254.out 4).trans rfl, (x3h BK254.out 5).trans rfl, (x3h BK254.out 6).trans rfl, ((HB.out.cell (World.block_lt_of_cell? w _ hw258_0)).trans hw258_0), ((HB.out.cell (World.block_lt_of_cell? w _ hw258_1)).trans hw258_1), ((HB.out.cell (World.block_lt_of_cell? w _ hw258_2)).trans hw258_2)⟩ (fun hHeld => ?_)
      clear hK K
      refine norm_ (a' := ?_) ?_ ?_
      rotate_left
      ·show Act.put _ (some 5) _ = _
       simp only [Act.put, s1h_, s2h_, s3h_, i64_w, i32_w]
       rfl
      refine pz 3 (some 6) ?_ (bsh_ 29 15) rfl rfl HT_.out (by kernel_rfl) (fun _ _ _ h => h) (Or.inl ⟨by rfl, ?_⟩) ?_ ?_ ?_
      rotate_left
      ·intro w'
       go_simp
       with_reducible rfl
      rotate_left
      ·simp only [Act.put, s1h_, s2h_, s3h_, i64_w, i32_w]
       rfl
      refine pz 4 (some 7) ?_ (bsh_ 29 31) rfl rfl HT_.out (by kernel_rfl) (fun _ _ _ h => h) (Or.inl ⟨by rfl, ?_⟩) ?_ ?_ ?_
      rotate_left
      ·intro w'
       go_simp
       with_reducible rfl
      rotate_left
      ·simp only [Act.put, s1h_, s2h_, s3h_, i64_w, i32_w]
       rfl
      refine take_ (i := 5) (N := some 8) (v := ?_) (a' := ?_) (bsh_ 29 63) rfl rfl (take_ofW HT_.out HW_.out (by kernel_rfl)) (fun _ _ _ h => h) (Or.inl ⟨by rfl, ?_⟩) hHeld ?_ ?_
      rotate_left
      ·rintro w' ⟨s0, s1, s2, s3, s4, s5, s6, s7, s8, s9⟩
       go_simp
       with_reducible rfl
      rotate_left
      ·simp only [Act.put, s1h_, s2h_, s3h_, i64_w, i32_w]
       rfl
      refine one_ (i := 6) (N := some 9) (bsh_ 29 127) rfl rfl (one_of HT_.out (by kernel_rfl)) (by decide) (fun K hK => ?_)
      refine goes_ Tryz.func16 (by kernel_rfl) rfl #[.agg #[.int .i64 a0_3, .int .i64 a0_4, .slice A0_5 l0_5.length c0_5]] (by rfl) rfl rfl (by (try simp only [List.map_toArray, List.map_cons, List.map_nil]); first | done | rfl | (simp only [List.length_drop, List.length_take]; rfl)) ?_
      with_reducible refine (impl_IsMatrix.calls a0_3 a0_4 _ _ l0_5 true _ ?side1 ?side2 A4.out).mono ?_
      (case side1 => repeat (first | exact HR0_5.out | exact (Kd.C_below HR0_5.out HB.out) | (with_reducible refine Kd.C_alloc ?_ _) | (with_reducible refine Kd.C_drewN ?_ _) | (with_reducible refine Kd.C_drew ?_)))
      (case side2 => exact HC0_5.out)
      rintro e w18 ⟨rfl, hb⟩
      refine ⟨_, rfl, ?_⟩
      have n_ := a2 (bU BK254.out hb) (dU HB.out hb); clear BK254 HB; obtain ⟨BK254, HB⟩ := n_
      (try clear hb)
      refine hK.out _ _ ⟨(x3h BK254.out 0).trans rfl, (x3h BK254.out 1).trans rfl, (x3h BK254.out 2).trans rfl, (x3h BK254.out 3).trans rfl, (x3h BK254.out 4).trans rfl, (x3h BK254.out 5).trans rfl, (x3h BK254.out 6).trans rfl, ((HB.out.cell (World.block_lt_of_cell? w _ hw258_0)).trans hw258_0), ((HB.out.cell (World.block_lt_of_cell? w _ hw258_1)).trans hw258_1), ((HB.out.cell (World.block_lt_of_cell? w _ hw258_2)).trans hw258_2)⟩ (fun hHeld => ?_)
      clear hK K
      refine norm_ (a' := ?_) ?_ ?_
      rotate_left
      ·show Act.put _ (some 9) _ = _
       simp only [Act.put, s1h_, s2h_, s3h_, i64_w, i32_w]
       rfl
      refine pz 7 (some 10) ?_ (bsh_ 29 255) rfl rfl HT_.out (by kernel_rfl) (fun _ _ _ h => h) (Or.inl ⟨by rfl, ?_⟩) ?_ ?_ ?_
      rotate_left
      ·intro w'
       go_simp
       with_reducible rfl
      rotate_left
      ·simp only [Act.put, s1h_, s2h_, s3h_, i64_w, i32_w]
       rfl
      refine pz 8 (some 11) ?_ (bsh_ 29 511) rfl rfl HT_.out (by kernel_rfl) (fun _ _ _ h => h) (Or.inl ⟨by rfl, ?_⟩) ?_ ?_ ?_
      rotate_left
      ·intro w'
       go_simp
       with_reducible rfl
      rotate_left
      ·simp only [Act.put, s1h_, s2h_, s3h_, i64_w, i32_w]
       rfl
      refine pz 9 (some 12) ?_ (bsh_ 29 1023) rfl rfl HT_.out (by kernel_rfl) (fun _ _ _ h => h) (Or.inl ⟨by rfl, ?_⟩) ?_ ?_ ?_
      rotate_left
      ·intro w'
       go_simp
       with_reducible rfl
      rotate_left
      ·simp only [Act.put, s1h_, s2h_, s3h_, i64_w, i32_w]
       rfl
      refine take_ (i := 10) (N := some 13) (v := ?_) (a' := ?_) (bsh_ 29 2047) rfl rfl (take_ofW HT_.out HW_.out (by kernel_rfl)) (fun _ _ _ h => h) (Or.inl ⟨by rfl, ?_⟩) hHeld ?_ ?_
      rotate_left
      ·rintro w' ⟨s0, s1, s2, s3, s4, s5, s6, s7, s8, s9⟩
       go_simp
       with_reducible rfl
      rotate_left
      ·simp only [Act.put, s1h_, s2h_, s3h_, i64_w, i32_w]
       rfl
      refine pz 11 (some 14) ?_ (bsh_ 29 4095) rfl rfl HT_.out (by kernel_rfl) (fun _ _ _ h => h) (Or.inl ⟨by rfl, ?_⟩) ?_ ?_ ?_
      rotate_left
      ·intro w'
       go_simp
       with_reducible rfl
      rotate_left
      ·simp only [Act.put, s1h_, s2h_, s3h_, i64_w, i32_w]
       rfl
      refine pz 12 (some 15) ?_ (bsh_ 29 8191) rfl rfl HT_.out (by kernel_rfl) (fun _ _ _ h => h) (Or.inl ⟨by rfl, ?_⟩) ?_ ?_ ?_
      rotate_left
      ·intro w'
       go_simp
       with_reducible rfl
      rotate_left
      ·simp only [Act.put, s1h_, s2h_, s3h_, i64_w, i32_w]
       rfl
      refine pz 13 (some 16) ?_ (bsh_ 29 16383) rfl rfl HT_.out (by kernel_rfl) (fun _ _ _ h => h) (Or.inl ⟨by rfl, ?_⟩) ?_ ?_ ?_
      rotate_left
      ·intro w'
       go_simp
       with_reducible rfl
      rotate_left
      ·simp only [Act.put, s1h_, s2h_, s3h_, i64_w, i32_w]
       rfl
      refine pz 14 (some 17) ?_ (bsh_ 29 32767) rfl rfl HT_.out (by kernel_rfl) (fun _ _ _ h => h) (Or.inl ⟨by rfl, ?_⟩) ?_ ?_ ?_
      rotate_left
      ·intro w'
       go_simp
       with_reducible rfl
      rotate_left
      ·simp only [Act.put, s1h_, s2h_, s3h_, i64_w, i32_w]
       rfl
      refine take_ (i := 15) (N := some 18) (v := ?_) (a' := ?_) (bsh_ 29 65535) rfl rfl (take_ofW HT_.out HW_.out (by kernel_rfl)) (fun _ _ _ h => h) (Or.inl ⟨by rfl, ?_⟩) hHeld ?_ ?_
      rotate_left
      ·rintro w' ⟨s0, s1, s2, s3, s4, s5, s6, s7, s8, s9⟩
       go_simp
       with_reducible rfl
      rotate_left
      ·simp only [Act.put, s1h_, s2h_, s3h_, i64_w, i32_w]
       rfl
      refine one_ (i := 16) (N := some 19) (bsh_ 29 131071) rfl rfl (one_of HT_.out (by kernel_rfl)) (by decide) (fun K hK => ?_)
      refine goes_ Tryz.func52 (by kernel_rfl) rfl #[.slice (some ad258) l0_6.length c0_6] (by rfl) rfl rfl (by (try simp only [List.map_toArray, List.map_cons, List.map_nil]); first | done | rfl | (simp only [List.length_drop, List.length_take]; rfl)) ?_
      with_reducible refine (impl_IsStack.calls k _ _ l0_6 true _ ?side1 ?side2 A11.out).mono ?_
      (case side1 => repeat (first | exact HR0_6.out | exact (Kd.C_below HR0_6.out HB.out) | (with_reducible refine Kd.C_alloc ?_ _) | (with_reducible refine Kd.C_drewN ?_ _) | (with_reducible refine Kd.C_drew ?_)))
      (case side2 => exact HC0_6.out)
      rintro e w19 ⟨rfl, hb⟩
      refine ⟨_, rfl, ?_⟩
      have n_ := a2 (bU BK254.out hb) (dU HB.out hb); clear BK254 HB; obtain ⟨BK254, HB⟩ := n_
      (try clear hb)
      refine hK.out _ _ ⟨(x3h BK254.out 0).trans rfl, (x3h BK254.out 1).trans rfl, (x3h BK254.out 2).trans rfl, (x3h BK254.out 3).trans rfl, (x3h BK254.out 4).trans rfl, (x3h BK254.out 5).trans rfl, (x3h BK254.out 6).trans rfl, ((HB.out.cell (World.block_lt_of_cell? w _ hw258_0)).trans hw258_0), ((HB.out.cell (World.block_lt_of_cell? w _ hw258_1)).trans hw258_1), ((HB.out.cell (World.block_lt_of_cell? w _ hw258_2)).trans hw258_2)⟩ (fun hHeld => ?_)
      clear hK K
      refine norm_ (a' := ?_) ?_ ?_
      rotate_left
      ·show Act.put _ (some 19) _ = _
       simp only [Act.put, s1h_, s2h_, s3h_, i64_w, i32_w]
       rfl
      refine pz 17 (some 20) ?_ (bsh_ 29 262143) rfl rfl HT_.out (by kernel_rfl) (fun _ _ _ h => h) (Or.inl ⟨by rfl, ?_⟩) ?_ ?_ ?_
      rotate_left
      ·intro w'
       go_simp
       with_reducible rfl
      rotate_left
      ·simp only [Act.put, s1h_, s2h_, s3h_, i64_w, i32_w]
       rfl
      refine pz 18 (some 21) ?_ (bsh_ 29 524287) rfl rfl HT_.out (by kernel_rfl) (fun _ _ _ h => h) (Or.inl ⟨by rfl, ?_⟩) ?_ ?_ ?_
      rotate_left
      ·intro w'
       go_simp
       with_reducible rfl
      rotate_left
      ·simp only [Act.put, s1h_, s2h_, s3h_, i64_w, i32_w]
       rfl
      refine pz 20 (some 23) ?_ (bsh_ 29 1572863) rfl rfl HT_.out (by kernel_rfl) (fun _ _ _ h => h) (Or.inl ⟨by rfl, ?_⟩) ?_ ?_ ?_
      rotate_left
      ·intro w'
       go_simp
       with_reducible rfl
      rotate_left
      ·simp only [Act.put, s1h_, s2h_, s3h_, i64_w, i32_w]
       rfl
      refine take_ (i := 19) (N := some 22) (v := ?_) (a' := ?_) (bsh_ 29 2097151) rfl rfl (take_ofW HT_.out HW_.out (by kernel_rfl)) (fun _ _ _ h => h) (Or.inl ⟨by rfl, ?_⟩) hHeld ?_ ?_
      rotate_left
      ·rintro w' ⟨s0, s1, s2, s3, s4, s5, s6, s7, s8, s9⟩
       go_simp
       with_reducible rfl
      rotate_left
      ·simp only [Act.put, s1h_, s2h_, s3h_, i64_w, i32_w]
       rfl
      refine take_ (i := 21) (N := some 24) (v := ?_) (a' := ?_) (bsh_ 29 4194303) rfl rfl (take_ofW HT_.out HW_.out (by kernel_rfl)) (fun _ _ _ h => h) (Or.inl ⟨by rfl, ?_⟩) hHeld ?_ ?_
      rotate_left
      ·rintro w' ⟨s0, s1, s2, s3, s4, s5, s6, s7, s8, s9⟩
       go_simp
       with_reducible rfl
      rotate_left
      ·simp only [Act.put, s1h_, s2h_, s3h_, i64_w, i32_w]
       rfl
      refine pz 22 (some 25) ?_ (bsh_ 29 8388607) rfl rfl HT_.out (by kernel_rfl) (fun _ _ _ h => h) (Or.inl ⟨by rfl, ?_⟩) ?_ ?_ ?_
      rotate_left
      ·intro w'
       go_simp
       with_reducible rfl
      rotate_left
      ·simp only [Act.put, s1h_, s2h_, s3h_, i64_w, i32_w]
       rfl
      refine take_ (i := 23) (N := some 26) (v := ?_) (a' := ?_) (bsh_ 29 16777215) rfl rfl (take_ofW HT_.out HW_.out (by kernel_rfl)) (fun _ _ _ h => h) (Or.inl ⟨by rfl, ?_⟩) hHeld ?_ ?_
      rotate_left
      ·rintro w' ⟨s0, s1, s2, s3, s4, s5, s6, s7, s8, s9⟩
       go_simp
       with_reducible rfl
      rotate_left
      ·simp only [Act.put, s1h_, s2h_, s3h_, i64_w, i32_w]
       rfl
      refine one_ (i := 24) (N := some 27) (bsh_ 29 33554431) rfl rfl (one_of HT_.out (by kernel_rfl)) (by decide) (fun K hK => ?_)
      refine goes_ Tryz.func53 (by kernel_rfl) rfl #[.agg #[.int .i64 a0_0, .int .i64 a0_1, .slice A0_2 l0_2.length c0_2], .agg #[.int .i64 ((rd_T27 l0_6 0).f0), .int .i64 ((rd_T27 l0_6 0).f1), .slice A258_2 ((rd_T27 l0_6 0).f2).length c258_2]] (by rfl) rfl rfl (by (try simp only [List.map_toArray, List.map_cons, List.map_nil]); first | done | rfl | (simp only [List.length_drop, List.length_take]; rfl)) ?_
      with_reducible refine (impl_alike.calls a0_0 a0_1 _ _ l0_2 ((rd_T27 l0_6 0).f0) ((rd_T27 l0_6 0).f1) _ _ ((rd_T27 l0_6 0).f2) t259 _ ?side1 ?side2 ?side3 ?side4 A14.out).mono ?_
      (case side1 => repeat (first | exact HR0_2.out | exact (Kd.C_below HR0_2.out HB.out) | (with_reducible refine Kd.C_alloc ?_ _) | (with_reducible refine Kd.C_drewN ?_ _) | (with_reducible refine Kd.C_drew ?_)))
      (case side2 => exact HC0_2.out)
      (case side3 => repeat (first | exact HR258_2.out | exact (Kd.C_below HR258_2.out HB.out) | (with_reducible refine Kd.C_alloc ?_ _) | (with_reducible refine Kd.C_drewN ?_ _) | (with_reducible refine Kd.C_drew ?_)))
      (case side4 => exact HC258_2.out)
      rintro e w20 ⟨rfl, hb⟩
      refine ⟨_, rfl, ?_⟩
      have n_ := a2 (bU BK254.out hb) (dU HB.out hb); clear BK254 HB; obtain ⟨BK254, HB⟩ := n_
      (try clear hb)
      refine hK.out _ _ ⟨(x3h BK254.out 0).trans rfl, (x3h BK254.out 1).trans rfl, (x3h BK254.out 2).trans rfl, (x3h BK254.out 3).trans rfl, (x3h BK254.out 4).trans rfl, (x3h BK254.out 5).trans rfl, (x3h BK254.out 6).trans rfl, ((HB.out.cell (World.block_lt_of_cell? w _ hw258_0)).trans hw258_0), ((HB.out.cell (World.block_lt_of_cell? w _ hw258_1)).trans hw258_1), ((HB.out.cell (World.block_lt_of_cell? w _ hw258_2)).trans hw258_2)⟩ (fun hHeld => ?_)
      clear hK K
      refine norm_ (a' := ?_) ?_ ?_
      rotate_left
      ·show Act.put _ (some 27) _ = _
       simp only [Act.put, s1h_, s2h_, s3h_, i64_w, i32_w]
       rfl
      refine pz 25 (some 28) ?_ (bsh_ 29 67108863) rfl rfl HT_.out (by kernel_rfl) (fun _ _ _ h => h) (Or.inl ⟨by rfl, ?_⟩) ?_ ?_ ?_
      rotate_left
      ·intro w'
       go_simp
       with_reducible rfl
      rotate_left
      ·simp only [Act.put, s1h_, s2h_, s3h_, i64_w, i32_w]
       rfl
      refine pz 26 (some 29) ?_ (bsh_ 29 134217727) rfl rfl HT_.out (by kernel_rfl) (fun _ _ _ h => h) (Or.inl ⟨by rfl, ?_⟩) ?_ ?_ ?_
      rotate_left
      ·intro w'
       go_simp
       with_reducible rfl
      rotate_left
      ·simp only [Act.put, s1h_, s2h_, s3h_, i64_w, i32_w]
       rfl
      refine pz 27 (some 30) ?_ (bsh_ 29 268435455) rfl rfl HT_.out (by kernel_rfl) (fun _ _ _ h => h) (Or.inl ⟨by rfl, ?_⟩) ?_ ?_ ?_
      rotate_left
      ·intro w'
       go_simp
       with_reducible rfl
      rotate_left
      ·simp only [Act.put, s1h_, s2h_, s3h_, i64_w, i32_w]
       rfl
      refine pz 28 (some 2) ?_ (bsh_ 29 536870911) rfl rfl HT_.out (by kernel_rfl) (fun _ _ _ h => h) (Or.inl ⟨by rfl, ?_⟩) ?_ ?_ ?_
      rotate_left
      ·intro w'
       go_simp
       with_reducible rfl
      rotate_left
      ·simp only [Act.put, s1h_, s2h_, s3h_, i64_w, i32_w]
       rfl
      refine done_ (done_of HT_.out (by kernel_rfl)) ?_
      try go_wp2
      go_ret
      exact ⟨by first | rfl | (simp [errW_none, errW_some] <;> rfl) | (simp [*, errW_none, errW_some] <;> rfl), dV HB.out⟩
     ·rw [if_neg c13] at H
      exact absurd H (by simp)
    ·replace c12 := Bool.eq_false_iff.mpr c12
     subst c12
     rw [if_neg (show ¬ (false = true) by decide)] at H
     exact absurd H (by simp)
  ·replace c5 := Bool.eq_false_iff.mpr c5
   subst c5
   rw [if_neg (show ¬ (false = true) by decide)] at H
   exact absurd H (by simp)
 ·replace c3 := Bool.eq_false_iff.mpr c3
  subst c3
  rw [if_neg (show ¬ (false = true) by decide)] at H
  exact absurd H (by simp)

def strconv_Itoa.f (a0 : Int) : Option (ByteArray) := Ext.itoaF a0
theorem strconv_Itoa.calls (a0 : Int) (r : ByteArray) (w : World) (hG_ : Ext.Glob w) (h : strconv_Itoa.f a0 = some r) :
  Calls Tryz.prog 57 #[.int .i64 a0] w fun e w' => e = .returned (.string r) ∧ Below w.heap.size w w' := Ext.Itoa a0 r w hG_ h

def strconv_Atoi.f (a0 : ByteArray) : Option (Int × Option Int) := Ext.atoiF a0
theorem strconv_Atoi.calls (a0 : ByteArray) (r1 : Int) (r2 : Option Int) (w : World) (h : strconv_Atoi.f a0 = some (r1, r2)) :
  Calls Tryz.prog 58 #[.string a0] w fun e w' => e = .returned (.tuple #[.int .i64 r1, errW r2]) ∧ Below w.heap.size w w' := by
 refine (Ext.Atoi a0 r1 r2 w h).mono ?_
 rintro e w' ⟨rfl, rfl, hb⟩
 exact ⟨rfl, hb⟩

def impl_number.f (a0 : ByteArray) : Option (Int × Bool) := (strconv_Atoi.f a0).bind fun bt260 => (if bt260.2.isNone = true then ((strconv_Itoa.f bt260.1).bind fun t263 => (some (bt260.1, (t263.toList == a0.toList)))) else (some (bt260.1, false)))
set_option maxHeartbeats 8000000 in
set_option maxRecDepth 100000 in
theorem impl_number.calls (a0 : ByteArray) (r1 : Int) (r2 : Bool) (w : World) (hG_ : Ext.Glob w) (h : impl_number.f a0 = some (r1, r2)) :
  Calls Tryz.prog 40 #[.string a0] w fun e w' => e = .returned (.tuple #[.int .i64 r1, .bool r2]) ∧ Below w.heap.size w w' := by
 have HGB_ := z0h hG_
 clear hG_
 have hu87 := Tryz.underlying87
 have HB := z0h (Below.refl w.heap.size w)
 have H := h
 unfold impl_number.f at H
 clear h
 replace H := Option.bind_eq_some_iff.mp H
 obtain ⟨⟨t260, t261⟩, A20, H⟩ := H
 (try dsimp only at H)
 have A2 := z0h A20
 clear A20
 rcases t261 with _ | q262
 ·have H1 : ((strconv_Itoa.f t260).bind fun t263 => (some (t260, (t263.toList == a0.toList)))) = some (r1, r2) := by rw [if_pos (show (none : Option Int).isNone = true by rfl)] at H; exact H
  clear H
  have H := H1
  clear H1
  try simp only [errW_none, errW_some]
  replace H := Option.bind_eq_some_iff.mp H
  obtain ⟨t263, A30, H⟩ := H
  (try dsimp only at H)
  have A3 := z0h A30
  clear A30
  simp only [Option.some.injEq, Prod.mk.injEq] at H
  obtain ⟨rfl, rfl⟩ := H
  go_enter Tryz.func40, Tryz.ntmps40
  go_wp2_with (first | ((with_reducible refine gate_callee (f := 58) rfl ?_); refine goesL_ (some 8) rfl rfl Tryz.func58 (by kernel_rfl) rfl #[.string a0] rfl (by (try simp only [List.map_toArray, List.map_cons, List.map_nil]); first | done | rfl | (simp only [List.length_drop, List.length_take]; rfl)) ?_; (with_reducible refine (strconv_Atoi.calls a0 t260 none _ A2.out).mono ?_); rintro e w4 ⟨rfl, hb⟩; refine ⟨_, rfl, ?_⟩; have n0_ := z0h (dU HB.out hb); clear HB; have HB := n0_; clear n0_; (try clear hb); (try simp only [errW_none, errW_some])) | (go_at_call 57; (with_reducible refine (strconv_Itoa.calls t260 t263 _ ?side1 A3.out).mono ?_); (case side1 => exact Ext.Glob.below HGB_.out (dV HB.out)); rintro e w5 ⟨rfl, hb⟩; have n0_ := z0h (dU HB.out hb); clear HB; have HB := n0_; clear n0_; (try clear hb)))
  go_ret2
  exact ⟨by first | rfl | (simp [errW_none, errW_some] <;> rfl) | (simp [*, errW_none, errW_some] <;> rfl), dV HB.out⟩
 ·have H1 : (some (t260, false)) = some (r1, r2) := by rw [if_neg (show ¬ (some q262).isNone = true by simp)] at H; exact H
  clear H
  have H := H1
  clear H1
  try simp only [errW_none, errW_some]
  simp only [Option.some.injEq, Prod.mk.injEq] at H
  obtain ⟨rfl, rfl⟩ := H
  go_enter Tryz.func40, Tryz.ntmps40
  go_wp2_with (first | ((with_reducible refine gate_callee (f := 58) rfl ?_); refine goesL_ (some 8) rfl rfl Tryz.func58 (by kernel_rfl) rfl #[.string a0] rfl (by (try simp only [List.map_toArray, List.map_cons, List.map_nil]); first | done | rfl | (simp only [List.length_drop, List.length_take]; rfl)) ?_; (with_reducible refine (strconv_Atoi.calls a0 t260 (some q262) _ A2.out).mono ?_); rintro e w6 ⟨rfl, hb⟩; refine ⟨_, rfl, ?_⟩; have n0_ := z0h (dU HB.out hb); clear HB; have HB := n0_; clear n0_; (try clear hb); (try simp only [errW_none, errW_some])))
  go_ret2
  exact ⟨by first | rfl | (simp [errW_none, errW_some] <;> rfl) | (simp [*, errW_none, errW_some] <;> rfl), dV HB.out⟩

def impl_Desk_pictured.f (a0_0 : Int) (a0_1 : Int) (l0_2 : List Int) (a0_3 : Int) (a0_4 : Int) (l0_5 : List Int) (l0_6 : List (S27)) (a1_0 : Int) (a1_1 : Int) (l1_2 : List Int) (a2 : Bool) : Option (Int × Int × List Int × Int × Int × List Int × (List (S27)) × ByteArray) := if a2 = true then (some (a1_0, a1_1, l1_2, a0_3, a0_4, l0_5, ([] : List (S27)), (⟨#[111, 107]⟩ : ByteArray))) else (none)
set_option maxHeartbeats 8000000 in
set_option maxRecDepth 100000 in
theorem impl_Desk_pictured.calls (a0_0 : Int) (a0_1 : Int) (A0_2 : Option Addr) (c0_2 : Nat) (l0_2 : List Int) (a0_3 : Int) (a0_4 : Int) (P0_5_ : Nat → Prop) (u9000_ : Value) (l0_5 : List Int) (A0_6 : Option Addr) (c0_6 : Nat) (l0_6 : List (S27)) (a1_0 : Int) (a1_1 : Int) (P1_2_ : Nat → Prop) (u9001_ : Value) (l1_2 : List Int) (a2 : Bool) (r1 : Int) (r2 : Int) (r3 : List Int) (r4 : Int) (r5 : Int) (r6 : List Int) (r7 : List (S27)) (r8 : ByteArray) (w0 w : World) (hB : Below w0.heap.size w0 w) (hr0_2 : ∀ W_, Kept w W_ (fun k_ => P0_5_ k_ ∨ P1_2_ k_) → Kd.C (Kd.int .i64) W_ A0_2 l0_2.length l0_2) (hc0_2 : l0_2.length ≤ c0_2) (ho0_5 : Kd.R (Kd.int .i64) 3 w w0.heap.size P0_5_ u9000_ l0_5) (hp0_5_1_2 : ∀ k_, P0_5_ k_ → ¬ P1_2_ k_) (hr0_6 : ∀ W_, Kept w W_ (fun k_ => P0_5_ k_ ∨ P1_2_ k_) → Kd.C k27 W_ A0_6 l0_6.length l0_6) (hc0_6 : l0_6.length ≤ c0_6) (ho1_2 : Kd.R (Kd.int .i64) 3 w w0.heap.size P1_2_ u9001_ l1_2) (hp1_2_0_5 : ∀ k_, P1_2_ k_ → ¬ P0_5_ k_) (h : impl_Desk_pictured.f a0_0 a0_1 l0_2 a0_3 a0_4 l0_5 l0_6 a1_0 a1_1 l1_2 a2 = some (r1, r2, r3, r4, r5, r6, r7, r8)) :
  Calls Tryz.prog 59 #[.agg #[.int .i64 a0_0, .int .i64 a0_1, .slice A0_2 l0_2.length c0_2, .int .i64 a0_3, .int .i64 a0_4, u9000_, .slice A0_6 l0_6.length c0_6], .agg #[.int .i64 a1_0, .int .i64 a1_1, u9001_], .bool a2] w fun e w' => ∃ v2_ v5_ v6_ : Value, e = .returned (.tuple #[.agg #[.int .i64 r1, .int .i64 r2, v2_, .int .i64 r4, .int .i64 r5, v5_, v6_], .string r8]) ∧ Kd.R (Kd.int .i64) 3 w' w0.heap.size (fun k_ => ((P0_5_ k_ ∨ P1_2_ k_) ∨ w.heap.size ≤ k_) ∧ some k_ ≠ (v5_ : Value).ownBlock) v2_ r3 ∧ Kd.R (Kd.int .i64) 3 w' w0.heap.size (fun k_ => ((P0_5_ k_ ∨ P1_2_ k_) ∨ w.heap.size ≤ k_) ∧ some k_ ≠ (v2_ : Value).ownBlock) v5_ r6 ∧ Kd.N k27 27 w' w.heap.size (fun k_ => ((P0_5_ k_ ∨ P1_2_ k_) ∨ w.heap.size ≤ k_) ∧ some k_ ≠ (v2_ : Value).ownBlock ∧ some k_ ≠ (v5_ : Value).ownBlock) v6_ r7 ∧ Below w0.heap.size w0 w' ∧ Kept w w' (fun k_ => P0_5_ k_ ∨ P1_2_ k_) := by
 have hu55 := Tryz.underlying55
 have hu27 := Tryz.underlying27
 have HR0_2 := z0h hr0_2
 have HC0_2 := z0h hc0_2
 clear hr0_2 hc0_2
 have HO0_5 := z0h (show Kd.R (Kd.int .i64) 3 w w0.heap.size (fun k_ => ((P0_5_ k_ ∨ P1_2_ k_) ∨ w.heap.size ≤ k_) ∧ some k_ ≠ (u9001_ : Value).ownBlock) u9000_ l0_5 from Kd.R_mono ho0_5 (fun k_ hk => ⟨(.inl (.inl hk)), fun e_ => hp0_5_1_2 k_ hk (ho1_2.1 k_ e_.symm)⟩))
 have HR0_6 := z0h hr0_6
 have HC0_6 := z0h hc0_6
 clear hr0_6 hc0_6
 have HO1_2 := z0h (show Kd.R (Kd.int .i64) 3 w w0.heap.size (fun k_ => ((P0_5_ k_ ∨ P1_2_ k_) ∨ w.heap.size ≤ k_) ∧ some k_ ≠ (u9000_ : Value).ownBlock) u9001_ l1_2 from Kd.R_mono ho1_2 (fun k_ hk => ⟨(.inl (.inr hk)), fun e_ => hp1_2_0_5 k_ hk (ho0_5.1 k_ e_.symm)⟩))
 have HK := z0h (Kept.refl w (fun k_ => P0_5_ k_ ∨ P1_2_ k_))
 have HW0 := z0h hB.size
 have HB := z0h hB
 clear hB
 have H := h
 unfold impl_Desk_pictured.f at H
 clear h
 by_cases c4 : a2 = true
 ·subst c4
  rw [if_pos rfl] at H
  simp only [Option.some.injEq, Prod.mk.injEq] at H
  obtain ⟨rfl, rfl, rfl, rfl, rfl, rfl, rfl, rfl⟩ := H
  obtain ⟨Ao5, co5, eo5⟩ := Kd.R_slice HO0_5.out
  subst eo5
  go_enter Tryz.func59, Tryz.ntmps59
  go_wp2_with (first | ((with_reducible refine gate_dst (N := 3) rfl ?_); refine box_event rfl (N := 3) rfl (cs := #[.int .i64 a0_0, .int .i64 a0_1, .slice A0_2 l0_2.length c0_2, .int .i64 a0_3, .int .i64 a0_4, .slice Ao5 l0_5.length co5, .slice A0_6 l0_6.length c0_6]) (t := 55) (by first | (go_simp; done) | (go_simp; rfl)) ?_; intro gb264 hg w6 hbox hb; have n_ := a7 (x4h (rV HO0_5.out) hb) (x4h (rV HO1_2.out) hb) (Kept.below (S := (fun k_ => P0_5_ k_ ∨ P1_2_ k_)) (by repeat (first | (with_reducible first | exact HK.out | apply Kept.alloc | apply Kept.drewN | apply Kept.drew) | exact HK.out)) hb) (dU HB.out hb) (hbox) ((by rw [hg]; exact (by first | exact HK.out.1 | exact (show Kept w _ (fun k_ => P0_5_ k_ ∨ P1_2_ k_) from by repeat (first | (with_reducible first | exact HK.out | apply Kept.alloc | apply Kept.drewN | apply Kept.drew) | exact HK.out)).1) : w.heap.size ≤ gb264)) (gE hg HB.out); clear HO0_5 HO1_2 HK HB; obtain ⟨HO0_5, HO1_2, HK, HB, BK264, GW264, GE264⟩ := n_; have gi_264 := GEc.mk GE264.out; clear hb hbox hg; obtain ⟨Ao7, co7, eo7⟩ := Kd.R_slice HO1_2.out; subst eo7) | ((with_reducible refine gate_dst (N := 4) rfl ?_); refine box_event rfl (N := 4) rfl (cs := #[.int .i64 a1_0, .int .i64 a1_1, .slice Ao7 l1_2.length co7]) (t := 27) (by first | (go_simp; done) | (go_simp; rfl)) ?_; intro gb265 hg w8 hbox hb; have n_ := a10 (x4h (rV HO0_5.out) hb) (x4h (rV HO1_2.out) hb) (bU BK264.out hb) (Kept.below (S := (fun k_ => P0_5_ k_ ∨ P1_2_ k_)) (by repeat (first | (with_reducible first | exact HK.out | apply Kept.alloc | apply Kept.drewN | apply Kept.drew | refine Kept.setCell ?_ (.inr GW264.out) _) | exact HK.out)) hb) (dU HB.out hb) (hbox) ((by rw [hg]; exact (by first | exact HK.out.1 | exact (show Kept w _ (fun k_ => P0_5_ k_ ∨ P1_2_ k_) from by repeat (first | (with_reducible first | exact HK.out | apply Kept.alloc | apply Kept.drewN | apply Kept.drew | refine Kept.setCell ?_ (.inr GW264.out) _) | exact HK.out)).1) : w.heap.size ≤ gb265)) (gE hg HB.out) (nL hg BK264.out) (nG hg BK264.out); clear HO0_5 HO1_2 BK264 HK HB; obtain ⟨HO0_5, HO1_2, BK264, HK, HB, BK265, GW265, GE265, NB264_265, NB265_264⟩ := n_; have gi_265 := GEc.mk GE265.out; clear hb hbox hg) | ((with_reducible refine gate_dst (N := 6) rfl ?_); refine box_event rfl (N := 6) rfl (cs := #[.int .i64 0, .int .i64 0, .slice none 0 0, .int .i64 0, .int .i64 0, .slice none 0 0, .slice none 0 0]) (t := 55) (by first | (go_simp; done) | (go_simp; rfl)) ?_; intro gb266 hg w9 hbox hb; have n_ := a13 (x4h (rV HO0_5.out) hb) (x4h (rV HO1_2.out) hb) (bU BK264.out hb) (bU BK265.out hb) (Kept.below (S := (fun k_ => P0_5_ k_ ∨ P1_2_ k_)) (by repeat (first | (with_reducible first | exact HK.out | apply Kept.alloc | apply Kept.drewN | apply Kept.drew | refine Kept.setCell ?_ (.inr GW264.out) _ | refine Kept.setCell ?_ (.inr GW265.out) _) | exact HK.out)) hb) (dU HB.out hb) (hbox) ((by rw [hg]; exact (by first | exact HK.out.1 | exact (show Kept w _ (fun k_ => P0_5_ k_ ∨ P1_2_ k_) from by repeat (first | (with_reducible first | exact HK.out | apply Kept.alloc | apply Kept.drewN | apply Kept.drew | refine Kept.setCell ?_ (.inr GW264.out) _ | refine Kept.setCell ?_ (.inr GW265.out) _) | exact HK.out)).1) : w.heap.size ≤ gb266)) (gE hg HB.out) (nL hg BK264.out) (nG hg BK264.out) (nL hg BK265.out) (nG hg BK265.out); clear HO0_5 HO1_2 BK264 BK265 HK HB; obtain ⟨HO0_5, HO1_2, BK264, BK265, HK, HB, BK266, GW266, GE266, NB264_266, NB266_264, NB265_266, NB266_265⟩ := n_; have gi_266 := GEc.mk GE266.out; clear hb hbox hg; have hnb10 := NB265_264.out; have hnc10 := NB264_265.out; have hnb11 := NB265_266.out; have hnc11 := NB266_265.out; have hcz12_0 : w9.cell? ⟨gb265, 0, none⟩ = some (.int .i64 a1_0) := (x3h BK265.out 0).trans rfl; have hcz12_1 : w9.cell? ⟨gb265, 1, none⟩ = some (.int .i64 a1_1) := (x3h BK265.out 1).trans rfl; have hcz12_2 : w9.cell? ⟨gb265, 2, none⟩ = some (.slice Ao7 l1_2.length co7) := (x3h BK265.out 2).trans rfl; have hfz12_0 := x2h BK265.out 0; have hfz12_1 := x2h BK265.out 1; have hfz12_2 := x2h BK265.out 2; have hnb13 := NB264_266.out; have hnc13 := NB266_264.out; have hcz14_0 : w9.cell? ⟨gb264, 0, none⟩ = some (.int .i64 a0_0) := (x3h BK264.out 0).trans rfl; have hcz14_1 : w9.cell? ⟨gb264, 1, none⟩ = some (.int .i64 a0_1) := (x3h BK264.out 1).trans rfl; have hcz14_2 : w9.cell? ⟨gb264, 2, none⟩ = some (.slice A0_2 l0_2.length c0_2) := (x3h BK264.out 2).trans rfl; have hcz14_3 : w9.cell? ⟨gb264, 3, none⟩ = some (.int .i64 a0_3) := (x3h BK264.out 3).trans rfl; have hcz14_4 : w9.cell? ⟨gb264, 4, none⟩ = some (.int .i64 a0_4) := (x3h BK264.out 4).trans rfl; have hcz14_5 : w9.cell? ⟨gb264, 5, none⟩ = some (.slice Ao5 l0_5.length co5) := (x3h BK264.out 5).trans rfl; have hcz14_6 : w9.cell? ⟨gb264, 6, none⟩ = some (.slice A0_6 l0_6.length c0_6) := (x3h BK264.out 6).trans rfl; have hfz14_0 := x2h BK264.out 0; have hfz14_1 := x2h BK264.out 1; have hfz14_2 := x2h BK264.out 2; have hfz14_3 := x2h BK264.out 3; have hfz14_4 := x2h BK264.out 4; have hfz14_5 := x2h BK264.out 5; have hfz14_6 := x2h BK264.out 6; have hcz15_0 : w9.cell? ⟨gb266, 0, none⟩ = some (.int .i64 0) := (x3h BK266.out 0).trans rfl; have hcz15_1 : w9.cell? ⟨gb266, 1, none⟩ = some (.int .i64 0) := (x3h BK266.out 1).trans rfl; have hcz15_2 : w9.cell? ⟨gb266, 2, none⟩ = some (.slice none 0 0) := (x3h BK266.out 2).trans rfl; have hcz15_3 : w9.cell? ⟨gb266, 3, none⟩ = some (.int .i64 0) := (x3h BK266.out 3).trans rfl; have hcz15_4 : w9.cell? ⟨gb266, 4, none⟩ = some (.int .i64 0) := (x3h BK266.out 4).trans rfl; have hcz15_5 : w9.cell? ⟨gb266, 5, none⟩ = some (.slice none 0 0) := (x3h BK266.out 5).trans rfl; have hcz15_6 : w9.cell? ⟨gb266, 6, none⟩ = some (.slice none 0 0) := (x3h BK266.out 6).trans rfl; have hfz15_0 := x2h BK266.out 0; have hfz15_1 := x2h BK266.out 1; have hfz15_2 := x2h BK266.out 2; have hfz15_3 := x2h BK266.out 3; have hfz15_4 := x2h BK266.out 4; have hfz15_5 := x2h BK266.out 5; have hfz15_6 := x2h BK266.out 6))
  refine bodyPost_ret (results_ct rfl _ _ gb266 55 #[.int .i64 a1_0, .int .i64 a1_1, .slice Ao7 l1_2.length co7, .int .i64 a0_3, .int .i64 a0_4, .slice Ao5 l0_5.length co5, .slice none 0 0] (0, 0) _ rfl (by (with_reducible repeat (first | refine z1h ?_ _ | refine z3h ?_ | refine z2h ?_ _)); refine blk_put (cs := #[.int .i64 a1_0, .int .i64 a1_1, .slice Ao7 l1_2.length co7, .int .i64 a0_3, .int .i64 a0_4, .slice Ao5 l0_5.length co5, .slice none 0 0]) ?_ 6 _ rfl; (with_reducible repeat (first | refine z1h ?_ _ | refine z3h ?_ | refine z2h ?_ _)); refine blk_put (cs := #[.int .i64 a1_0, .int .i64 a1_1, .slice Ao7 l1_2.length co7, .int .i64 a0_3, .int .i64 a0_4, .slice none 0 0, .slice none 0 0]) ?_ 5 _ rfl; (with_reducible repeat (first | refine z1h ?_ _ | refine z3h ?_ | refine z2h ?_ _)); refine blk_put (cs := #[.int .i64 a1_0, .int .i64 a1_1, .slice Ao7 l1_2.length co7, .int .i64 a0_3, .int .i64 0, .slice none 0 0, .slice none 0 0]) ?_ 4 _ rfl; (with_reducible repeat (first | refine z1h ?_ _ | refine z3h ?_ | refine z2h ?_ _)); refine blk_put (cs := #[.int .i64 a1_0, .int .i64 a1_1, .slice Ao7 l1_2.length co7, .int .i64 0, .int .i64 0, .slice none 0 0, .slice none 0 0]) ?_ 3 _ rfl; (with_reducible repeat (first | refine z1h ?_ _ | refine z3h ?_ | refine z2h ?_ _)); refine blk_put (cs := #[.int .i64 a1_0, .int .i64 a1_1, .slice none 0 0, .int .i64 0, .int .i64 0, .slice none 0 0, .slice none 0 0]) ?_ 2 _ rfl; (with_reducible repeat (first | refine z1h ?_ _ | refine z3h ?_ | refine z2h ?_ _)); refine blk_put (cs := #[.int .i64 a1_0, .int .i64 0, .slice none 0 0, .int .i64 0, .int .i64 0, .slice none 0 0, .slice none 0 0]) ?_ 1 _ rfl; (with_reducible repeat (first | refine z1h ?_ _ | refine z3h ?_ | refine z2h ?_ _)); refine blk_put (cs := #[.int .i64 0, .int .i64 0, .slice none 0 0, .int .i64 0, .int .i64 0, .slice none 0 0, .slice none 0 0]) ?_ 0 _ rfl; (with_reducible repeat (first | refine z1h ?_ _ | refine z3h ?_ | refine z2h ?_ _)); refine blk_far ?_ NB266_264.out _; (with_reducible repeat (first | refine z1h ?_ _ | refine z3h ?_ | refine z2h ?_ _)); refine blk_far ?_ NB266_264.out _; (with_reducible repeat (first | refine z1h ?_ _ | refine z3h ?_ | refine z2h ?_ _)); refine blk_far ?_ NB266_264.out _; (with_reducible repeat (first | refine z1h ?_ _ | refine z3h ?_ | refine z2h ?_ _)); refine blk_far ?_ NB266_264.out _; (with_reducible repeat (first | refine z1h ?_ _ | refine z3h ?_ | refine z2h ?_ _)); exact BK266.out) Tryz.underlying55 rfl (by kernel_rfl)) rfl ?_
  exact ⟨_, _, _, by first | rfl | (simp [errW_none, errW_some] <;> rfl) | (simp [*, errW_none, errW_some] <;> rfl), by (with_reducible repeat (first | apply Kd.R_alloc | apply Kd.R_drewN | apply Kd.R_drew)); exact Kd.R_mono (x1h (p := ⟨gb266, 6, none⟩) (x1h (p := ⟨gb266, 5, none⟩) (x1h (p := ⟨gb266, 4, none⟩) (x1h (p := ⟨gb266, 3, none⟩) (x1h (p := ⟨gb266, 2, none⟩) (x1h (p := ⟨gb266, 1, none⟩) (x1h (p := ⟨gb266, 0, none⟩) (x1h (p := ⟨gb264, 6, none⟩) (x1h (p := ⟨gb264, 2, none⟩) (x1h (p := ⟨gb264, 1, none⟩) (x1h (p := ⟨gb264, 0, none⟩) (Kd.R_types (Kd.R_types HO1_2.out BK264.out (by decide)) BK266.out (by decide)) (fun _ hk => hk.1.2) (.int .i64 a1_0)) (fun _ hk => hk.1.2) (.int .i64 a1_1)) (fun _ hk => hk.1.2) (.slice Ao7 l1_2.length co7)) (fun _ hk => hk.1.2) (.slice none 0 0)) (fun _ hk => hk.2) (.int .i64 a1_0)) (fun _ hk => hk.2) (.int .i64 a1_1)) (fun _ hk => hk.2) (.slice Ao7 l1_2.length co7)) (fun _ hk => hk.2) (.int .i64 a0_3)) (fun _ hk => hk.2) (.int .i64 a0_4)) (fun _ hk => hk.2) (.slice Ao5 l0_5.length co5)) (fun _ hk => hk.2) (.slice none 0 0)) (fun _ hk => ⟨hk.1.1.1, hk.1.1.2⟩), by (with_reducible repeat (first | apply Kd.R_alloc | apply Kd.R_drewN | apply Kd.R_drew)); exact Kd.R_mono (x1h (p := ⟨gb266, 6, none⟩) (x1h (p := ⟨gb266, 5, none⟩) (x1h (p := ⟨gb266, 4, none⟩) (x1h (p := ⟨gb266, 3, none⟩) (x1h (p := ⟨gb266, 2, none⟩) (x1h (p := ⟨gb266, 1, none⟩) (x1h (p := ⟨gb266, 0, none⟩) (x1h (p := ⟨gb264, 6, none⟩) (x1h (p := ⟨gb264, 2, none⟩) (x1h (p := ⟨gb264, 1, none⟩) (x1h (p := ⟨gb264, 0, none⟩) (Kd.R_types (Kd.R_types HO0_5.out BK264.out (by decide)) BK266.out (by decide)) (fun _ hk => hk.1.2) (.int .i64 a1_0)) (fun _ hk => hk.1.2) (.int .i64 a1_1)) (fun _ hk => hk.1.2) (.slice Ao7 l1_2.length co7)) (fun _ hk => hk.1.2) (.slice none 0 0)) (fun _ hk => hk.2) (.int .i64 a1_0)) (fun _ hk => hk.2) (.int .i64 a1_1)) (fun _ hk => hk.2) (.slice Ao7 l1_2.length co7)) (fun _ hk => hk.2) (.int .i64 a0_3)) (fun _ hk => hk.2) (.int .i64 a0_4)) (fun _ hk => hk.2) (.slice Ao5 l0_5.length co5)) (fun _ hk => hk.2) (.slice none 0 0)) (fun _ hk => ⟨hk.1.1.1, hk.1.1.2⟩), by first | exact Kd.S_nil _ _ _ _ _ | exact Kd.N_nil _ _ _ _ _ | exact Kd.V_nil _ _ _ _ _ | exact Kd.Q_nil _ _ _ _ _ | exact Kd.R_nil _ _ _ _ _, dV HB.out, by repeat (first | (with_reducible first | exact HK.out | apply Kept.alloc | apply Kept.drewN | apply Kept.drew | refine Kept.setCell ?_ (.inr GW264.out) _ | refine Kept.setCell ?_ (.inr GW265.out) _ | refine Kept.setCell ?_ (.inr GW266.out) _) | exact HK.out)⟩
 ·replace c4 := Bool.eq_false_iff.mpr c4
  subst c4
  rw [if_neg (show ¬ (false = true) by decide)] at H
  exact absurd H (by simp)

def impl_Desk_screened.f (a0_0 : Int) (a0_1 : Int) (l0_2 : List Int) (a0_3 : Int) (a0_4 : Int) (l0_5 : List Int) (l0_6 : List (S27)) (a1_0 : Int) (a1_1 : Int) (l1_2 : List Int) (a2 : Bool) : Option (Int × Int × List Int × Int × Int × List Int × (List (S27)) × ByteArray) := if a2 = true then (some (a0_0, a0_1, l0_2, a1_0, a1_1, l1_2, l0_6, (⟨#[111, 107]⟩ : ByteArray))) else (none)
set_option maxHeartbeats 8000000 in
set_option maxRecDepth 100000 in
theorem impl_Desk_screened.calls (a0_0 : Int) (a0_1 : Int) (P0_2_ : Nat → Prop) (u9000_ : Value) (l0_2 : List Int) (a0_3 : Int) (a0_4 : Int) (A0_5 : Option Addr) (c0_5 : Nat) (l0_5 : List Int) (P0_6_ : Nat → Prop) (A0_6 : Option Addr) (c0_6 : Nat) (l0_6 : List (S27)) (a1_0 : Int) (a1_1 : Int) (P1_2_ : Nat → Prop) (u9001_ : Value) (l1_2 : List Int) (a2 : Bool) (r1 : Int) (r2 : Int) (r3 : List Int) (r4 : Int) (r5 : Int) (r6 : List Int) (r7 : List (S27)) (r8 : ByteArray) (w0 w : World) (hB : Below w0.heap.size w0 w) (ho0_2 : Kd.R (Kd.int .i64) 3 w w0.heap.size P0_2_ u9000_ l0_2) (hp0_2_1_2 : ∀ k_, P0_2_ k_ → ¬ P1_2_ k_) (hr0_5 : ∀ W_, Kept w W_ (fun k_ => P0_2_ k_ ∨ P1_2_ k_) → Kd.C (Kd.int .i64) W_ A0_5 l0_5.length l0_5) (hc0_5 : l0_5.length ≤ c0_5) (hs0_6 : Kd.V k27 27 w w0.heap.size (fun k_ => P0_6_ k_ ∧ some k_ ≠ (u9000_ : Value).ownBlock ∧ some k_ ≠ (u9001_ : Value).ownBlock) (.slice A0_6 l0_6.length c0_6) l0_6) (ho1_2 : Kd.R (Kd.int .i64) 3 w w0.heap.size P1_2_ u9001_ l1_2) (hp1_2_0_2 : ∀ k_, P1_2_ k_ → ¬ P0_2_ k_) (h : impl_Desk_screened.f a0_0 a0_1 l0_2 a0_3 a0_4 l0_5 l0_6 a1_0 a1_1 l1_2 a2 = some (r1, r2, r3, r4, r5, r6, r7, r8)) :
  Calls Tryz.prog 60 #[.agg #[.int .i64 a0_0, .int .i64 a0_1, u9000_, .int .i64 a0_3, .int .i64 a0_4, .slice A0_5 l0_5.length c0_5, .slice A0_6 l0_6.length c0_6], .agg #[.int .i64 a1_0, .int .i64 a1_1, u9001_], .bool a2] w fun e w' => ∃ v2_ v5_ v6_ : Value, e = .returned (.tuple #[.agg #[.int .i64 r1, .int .i64 r2, v2_, .int .i64 r4, .int .i64 r5, v5_, v6_], .string r8]) ∧ Kd.R (Kd.int .i64) 3 w' w0.heap.size (fun k_ => ((P0_2_ k_ ∨ P1_2_ k_) ∨ w.heap.size ≤ k_) ∧ some k_ ≠ (v5_ : Value).ownBlock) v2_ r3 ∧ Kd.R (Kd.int .i64) 3 w' w0.heap.size (fun k_ => ((P0_2_ k_ ∨ P1_2_ k_) ∨ w.heap.size ≤ k_) ∧ some k_ ≠ (v2_ : Value).ownBlock) v5_ r6 ∧ Kd.V k27 27 w' w0.heap.size (fun k_ => ((P0_2_ k_ ∨ P1_2_ k_ ∨ P0_6_ k_) ∨ w.heap.size ≤ k_) ∧ some k_ ≠ (v2_ : Value).ownBlock ∧ some k_ ≠ (v5_ : Value).ownBlock) v6_ r7 ∧ Below w0.heap.size w0 w' ∧ Kept w w' (fun k_ => P0_2_ k_ ∨ P1_2_ k_) := by
 have hu55 := Tryz.underlying55
 have hu31 := Tryz.underlying31
 have HO0_2 := z0h (show Kd.R (Kd.int .i64) 3 w w0.heap.size (fun k_ => ((P0_2_ k_ ∨ P1_2_ k_) ∨ w.heap.size ≤ k_) ∧ some k_ ≠ (u9001_ : Value).ownBlock) u9000_ l0_2 from Kd.R_mono ho0_2 (fun k_ hk => ⟨(.inl (.inl hk)), fun e_ => hp0_2_1_2 k_ hk (ho1_2.1 k_ e_.symm)⟩))
 have HR0_5 := z0h hr0_5
 have HC0_5 := z0h hc0_5
 clear hr0_5 hc0_5
 have HO0_6 := z0h (show Kd.V k27 27 w w0.heap.size (fun k_ => ((P0_2_ k_ ∨ P1_2_ k_ ∨ P0_6_ k_) ∨ w.heap.size ≤ k_) ∧ some k_ ≠ (u9000_ : Value).ownBlock ∧ some k_ ≠ (u9001_ : Value).ownBlock) (.slice A0_6 l0_6.length c0_6) l0_6 from Kd.V_mono hs0_6 (fun k_ hk => ⟨.inl (.inr (.inr hk.1)), hk.2⟩))
 have HO1_2 := z0h (show Kd.R (Kd.int .i64) 3 w w0.heap.size (fun k_ => ((P0_2_ k_ ∨ P1_2_ k_) ∨ w.heap.size ≤ k_) ∧ some k_ ≠ (u9000_ : Value).ownBlock) u9001_ l1_2 from Kd.R_mono ho1_2 (fun k_ hk => ⟨(.inl (.inr hk)), fun e_ => hp1_2_0_2 k_ hk (ho0_2.1 k_ e_.symm)⟩))
 have HK := z0h (Kept.refl w (fun k_ => P0_2_ k_ ∨ P1_2_ k_))
 have HW0 := z0h hB.size
 have HB := z0h hB
 clear hB
 have H := h
 unfold impl_Desk_screened.f at H
 clear h
 by_cases c4 : a2 = true
 ·subst c4
  rw [if_pos rfl] at H
  simp only [Option.some.injEq, Prod.mk.injEq] at H
  obtain ⟨rfl, rfl, rfl, rfl, rfl, rfl, rfl, rfl⟩ := H
  obtain ⟨Ao5, co5, eo5⟩ := Kd.R_slice HO0_2.out
  subst eo5
  go_enter Tryz.func60, Tryz.ntmps60
  go_wp2_with (first | ((with_reducible refine gate_dst (N := 3) rfl ?_); refine box_event rfl (N := 3) rfl (cs := #[.int .i64 a0_0, .int .i64 a0_1, .slice Ao5 l0_2.length co5, .int .i64 a0_3, .int .i64 a0_4, .slice A0_5 l0_5.length c0_5, .slice A0_6 l0_6.length c0_6]) (t := 55) (by first | (go_simp; done) | (go_simp; rfl)) ?_; intro gb267 hg w6 hbox hb; have n_ := a8 (x4h (rV HO0_2.out) hb) (x4h (rV HO1_2.out) hb) (Kd.V_below (Kd.V_elderB (vV HO0_6.out) gb267 (Nat.le_of_eq hg.symm)) hb) (Kept.below (S := (fun k_ => P0_2_ k_ ∨ P1_2_ k_)) (by repeat (first | (with_reducible first | exact HK.out | apply Kept.alloc | apply Kept.drewN | apply Kept.drew) | exact HK.out)) hb) (dU HB.out hb) (hbox) ((by rw [hg]; exact (by first | exact HK.out.1 | exact (show Kept w _ (fun k_ => P0_2_ k_ ∨ P1_2_ k_) from by repeat (first | (with_reducible first | exact HK.out | apply Kept.alloc | apply Kept.drewN | apply Kept.drew) | exact HK.out)).1) : w.heap.size ≤ gb267)) (gE hg HB.out); clear HO0_2 HO1_2 HO0_6 HK HB; obtain ⟨HO0_2, HO1_2, HO0_6, HK, HB, BK267, GW267, GE267⟩ := n_; have gi_267 := GEc.mk GE267.out; clear hb hbox hg; obtain ⟨Ao7, co7, eo7⟩ := Kd.R_slice HO1_2.out; subst eo7) | ((with_reducible refine gate_dst (N := 4) rfl ?_); refine box_event rfl (N := 4) rfl (cs := #[.int .i64 a1_0, .int .i64 a1_1, .slice Ao7 l1_2.length co7]) (t := 31) (by first | (go_simp; done) | (go_simp; rfl)) ?_; intro gb268 hg w8 hbox hb; have n_ := a11 (x4h (rV HO0_2.out) hb) (x4h (rV HO1_2.out) hb) (Kd.V_below (Kd.V_elderB (vV HO0_6.out) gb268 (Nat.le_of_eq hg.symm)) hb) (bU BK267.out hb) (Kept.below (S := (fun k_ => P0_2_ k_ ∨ P1_2_ k_)) (by repeat (first | (with_reducible first | exact HK.out | apply Kept.alloc | apply Kept.drewN | apply Kept.drew | refine Kept.setCell ?_ (.inr GW267.out) _) | exact HK.out)) hb) (dU HB.out hb) (hbox) ((by rw [hg]; exact (by first | exact HK.out.1 | exact (show Kept w _ (fun k_ => P0_2_ k_ ∨ P1_2_ k_) from by repeat (first | (with_reducible first | exact HK.out | apply Kept.alloc | apply Kept.drewN | apply Kept.drew | refine Kept.setCell ?_ (.inr GW267.out) _) | exact HK.out)).1) : w.heap.size ≤ gb268)) (gE hg HB.out) (nL hg BK267.out) (nG hg BK267.out); clear HO0_2 HO1_2 HO0_6 BK267 HK HB; obtain ⟨HO0_2, HO1_2, HO0_6, BK267, HK, HB, BK268, GW268, GE268, NB267_268, NB268_267⟩ := n_; have gi_268 := GEc.mk GE268.out; clear hb hbox hg) | ((with_reducible refine gate_dst (N := 6) rfl ?_); refine box_event rfl (N := 6) rfl (cs := #[.int .i64 0, .int .i64 0, .slice none 0 0, .int .i64 0, .int .i64 0, .slice none 0 0, .slice none 0 0]) (t := 55) (by first | (go_simp; done) | (go_simp; rfl)) ?_; intro gb269 hg w9 hbox hb; have n_ := a14 (x4h (rV HO0_2.out) hb) (x4h (rV HO1_2.out) hb) (Kd.V_below (Kd.V_elderB (vV HO0_6.out) gb269 (Nat.le_of_eq hg.symm)) hb) (bU BK267.out hb) (bU BK268.out hb) (Kept.below (S := (fun k_ => P0_2_ k_ ∨ P1_2_ k_)) (by repeat (first | (with_reducible first | exact HK.out | apply Kept.alloc | apply Kept.drewN | apply Kept.drew | refine Kept.setCell ?_ (.inr GW267.out) _ | refine Kept.setCell ?_ (.inr GW268.out) _) | exact HK.out)) hb) (dU HB.out hb) (hbox) ((by rw [hg]; exact (by first | exact HK.out.1 | exact (show Kept w _ (fun k_ => P0_2_ k_ ∨ P1_2_ k_) from by repeat (first | (with_reducible first | exact HK.out | apply Kept.alloc | apply Kept.drewN | apply Kept.drew | refine Kept.setCell ?_ (.inr GW267.out) _ | refine Kept.setCell ?_ (.inr GW268.out) _) | exact HK.out)).1) : w.heap.size ≤ gb269)) (gE hg HB.out) (nL hg BK267.out) (nG hg BK267.out) (nL hg BK268.out) (nG hg BK268.out); clear HO0_2 HO1_2 HO0_6 BK267 BK268 HK HB; obtain ⟨HO0_2, HO1_2, HO0_6, BK267, BK268, HK, HB, BK269, GW269, GE269, NB267_269, NB269_267, NB268_269, NB269_268⟩ := n_; have gi_269 := GEc.mk GE269.out; clear hb hbox hg; have hnb10 := NB268_267.out; have hnc10 := NB267_268.out; have hnb11 := NB268_269.out; have hnc11 := NB269_268.out; have hcz12_0 : w9.cell? ⟨gb268, 0, none⟩ = some (.int .i64 a1_0) := (x3h BK268.out 0).trans rfl; have hcz12_1 : w9.cell? ⟨gb268, 1, none⟩ = some (.int .i64 a1_1) := (x3h BK268.out 1).trans rfl; have hcz12_2 : w9.cell? ⟨gb268, 2, none⟩ = some (.slice Ao7 l1_2.length co7) := (x3h BK268.out 2).trans rfl; have hfz12_0 := x2h BK268.out 0; have hfz12_1 := x2h BK268.out 1; have hfz12_2 := x2h BK268.out 2; have hnb13 := NB267_269.out; have hnc13 := NB269_267.out; have hcz14_0 : w9.cell? ⟨gb267, 0, none⟩ = some (.int .i64 a0_0) := (x3h BK267.out 0).trans rfl; have hcz14_1 : w9.cell? ⟨gb267, 1, none⟩ = some (.int .i64 a0_1) := (x3h BK267.out 1).trans rfl; have hcz14_2 : w9.cell? ⟨gb267, 2, none⟩ = some (.slice Ao5 l0_2.length co5) := (x3h BK267.out 2).trans rfl; have hcz14_3 : w9.cell? ⟨gb267, 3, none⟩ = some (.int .i64 a0_3) := (x3h BK267.out 3).trans rfl; have hcz14_4 : w9.cell? ⟨gb267, 4, none⟩ = some (.int .i64 a0_4) := (x3h BK267.out 4).trans rfl; have hcz14_5 : w9.cell? ⟨gb267, 5, none⟩ = some (.slice A0_5 l0_5.length c0_5) := (x3h BK267.out 5).trans rfl; have hcz14_6 : w9.cell? ⟨gb267, 6, none⟩ = some (.slice A0_6 l0_6.length c0_6) := (x3h BK267.out 6).trans rfl; have hfz14_0 := x2h BK267.out 0; have hfz14_1 := x2h BK267.out 1; have hfz14_2 := x2h BK267.out 2; have hfz14_3 := x2h BK267.out 3; have hfz14_4 := x2h BK267.out 4; have hfz14_5 := x2h BK267.out 5; have hfz14_6 := x2h BK267.out 6; have hcz15_0 : w9.cell? ⟨gb269, 0, none⟩ = some (.int .i64 0) := (x3h BK269.out 0).trans rfl; have hcz15_1 : w9.cell? ⟨gb269, 1, none⟩ = some (.int .i64 0) := (x3h BK269.out 1).trans rfl; have hcz15_2 : w9.cell? ⟨gb269, 2, none⟩ = some (.slice none 0 0) := (x3h BK269.out 2).trans rfl; have hcz15_3 : w9.cell? ⟨gb269, 3, none⟩ = some (.int .i64 0) := (x3h BK269.out 3).trans rfl; have hcz15_4 : w9.cell? ⟨gb269, 4, none⟩ = some (.int .i64 0) := (x3h BK269.out 4).trans rfl; have hcz15_5 : w9.cell? ⟨gb269, 5, none⟩ = some (.slice none 0 0) := (x3h BK269.out 5).trans rfl; have hcz15_6 : w9.cell? ⟨gb269, 6, none⟩ = some (.slice none 0 0) := (x3h BK269.out 6).trans rfl; have hfz15_0 := x2h BK269.out 0; have hfz15_1 := x2h BK269.out 1; have hfz15_2 := x2h BK269.out 2; have hfz15_3 := x2h BK269.out 3; have hfz15_4 := x2h BK269.out 4; have hfz15_5 := x2h BK269.out 5; have hfz15_6 := x2h BK269.out 6))
  refine bodyPost_ret (results_ct rfl _ _ gb269 55 #[.int .i64 a0_0, .int .i64 a0_1, .slice Ao5 l0_2.length co5, .int .i64 a1_0, .int .i64 a1_1, .slice Ao7 l1_2.length co7, .slice A0_6 l0_6.length c0_6] (0, 0) _ rfl (by (with_reducible repeat (first | refine z1h ?_ _ | refine z3h ?_ | refine z2h ?_ _)); refine blk_put (cs := #[.int .i64 a0_0, .int .i64 a0_1, .slice Ao5 l0_2.length co5, .int .i64 a1_0, .int .i64 a1_1, .slice Ao7 l1_2.length co7, .slice none 0 0]) ?_ 6 _ rfl; (with_reducible repeat (first | refine z1h ?_ _ | refine z3h ?_ | refine z2h ?_ _)); refine blk_put (cs := #[.int .i64 a0_0, .int .i64 a0_1, .slice Ao5 l0_2.length co5, .int .i64 a1_0, .int .i64 a1_1, .slice none 0 0, .slice none 0 0]) ?_ 5 _ rfl; (with_reducible repeat (first | refine z1h ?_ _ | refine z3h ?_ | refine z2h ?_ _)); refine blk_put (cs := #[.int .i64 a0_0, .int .i64 a0_1, .slice Ao5 l0_2.length co5, .int .i64 a1_0, .int .i64 0, .slice none 0 0, .slice none 0 0]) ?_ 4 _ rfl; (with_reducible repeat (first | refine z1h ?_ _ | refine z3h ?_ | refine z2h ?_ _)); refine blk_put (cs := #[.int .i64 a0_0, .int .i64 a0_1, .slice Ao5 l0_2.length co5, .int .i64 0, .int .i64 0, .slice none 0 0, .slice none 0 0]) ?_ 3 _ rfl; (with_reducible repeat (first | refine z1h ?_ _ | refine z3h ?_ | refine z2h ?_ _)); refine blk_put (cs := #[.int .i64 a0_0, .int .i64 a0_1, .slice none 0 0, .int .i64 0, .int .i64 0, .slice none 0 0, .slice none 0 0]) ?_ 2 _ rfl; (with_reducible repeat (first | refine z1h ?_ _ | refine z3h ?_ | refine z2h ?_ _)); refine blk_put (cs := #[.int .i64 a0_0, .int .i64 0, .slice none 0 0, .int .i64 0, .int .i64 0, .slice none 0 0, .slice none 0 0]) ?_ 1 _ rfl; (with_reducible repeat (first | refine z1h ?_ _ | refine z3h ?_ | refine z2h ?_ _)); refine blk_put (cs := #[.int .i64 0, .int .i64 0, .slice none 0 0, .int .i64 0, .int .i64 0, .slice none 0 0, .slice none 0 0]) ?_ 0 _ rfl; (with_reducible repeat (first | refine z1h ?_ _ | refine z3h ?_ | refine z2h ?_ _)); refine blk_far ?_ NB269_267.out _; (with_reducible repeat (first | refine z1h ?_ _ | refine z3h ?_ | refine z2h ?_ _)); refine blk_far ?_ NB269_267.out _; (with_reducible repeat (first | refine z1h ?_ _ | refine z3h ?_ | refine z2h ?_ _)); refine blk_far ?_ NB269_267.out _; (with_reducible repeat (first | refine z1h ?_ _ | refine z3h ?_ | refine z2h ?_ _)); exact BK269.out) Tryz.underlying55 rfl (by kernel_rfl)) rfl ?_
  exact ⟨_, _, _, by first | rfl | (simp [errW_none, errW_some] <;> rfl) | (simp [*, errW_none, errW_some] <;> rfl), by (with_reducible repeat (first | apply Kd.R_alloc | apply Kd.R_drewN | apply Kd.R_drew)); exact Kd.R_mono (x1h (p := ⟨gb269, 6, none⟩) (x1h (p := ⟨gb269, 5, none⟩) (x1h (p := ⟨gb269, 4, none⟩) (x1h (p := ⟨gb269, 3, none⟩) (x1h (p := ⟨gb269, 2, none⟩) (x1h (p := ⟨gb269, 1, none⟩) (x1h (p := ⟨gb269, 0, none⟩) (x1h (p := ⟨gb267, 5, none⟩) (x1h (p := ⟨gb267, 4, none⟩) (x1h (p := ⟨gb267, 3, none⟩) (Kd.R_types (Kd.R_types HO0_2.out BK267.out (by decide)) BK269.out (by decide)) (fun _ hk => hk.1.2) (.int .i64 a1_0)) (fun _ hk => hk.1.2) (.int .i64 a1_1)) (fun _ hk => hk.1.2) (.slice Ao7 l1_2.length co7)) (fun _ hk => hk.2) (.int .i64 a0_0)) (fun _ hk => hk.2) (.int .i64 a0_1)) (fun _ hk => hk.2) (.slice Ao5 l0_2.length co5)) (fun _ hk => hk.2) (.int .i64 a1_0)) (fun _ hk => hk.2) (.int .i64 a1_1)) (fun _ hk => hk.2) (.slice Ao7 l1_2.length co7)) (fun _ hk => hk.2) (.slice A0_6 l0_6.length c0_6)) (fun _ hk => ⟨hk.1.1.1, hk.1.1.2⟩), by (with_reducible repeat (first | apply Kd.R_alloc | apply Kd.R_drewN | apply Kd.R_drew)); exact Kd.R_mono (x1h (p := ⟨gb269, 6, none⟩) (x1h (p := ⟨gb269, 5, none⟩) (x1h (p := ⟨gb269, 4, none⟩) (x1h (p := ⟨gb269, 3, none⟩) (x1h (p := ⟨gb269, 2, none⟩) (x1h (p := ⟨gb269, 1, none⟩) (x1h (p := ⟨gb269, 0, none⟩) (x1h (p := ⟨gb267, 5, none⟩) (x1h (p := ⟨gb267, 4, none⟩) (x1h (p := ⟨gb267, 3, none⟩) (Kd.R_types (Kd.R_types HO1_2.out BK267.out (by decide)) BK269.out (by decide)) (fun _ hk => hk.1.2) (.int .i64 a1_0)) (fun _ hk => hk.1.2) (.int .i64 a1_1)) (fun _ hk => hk.1.2) (.slice Ao7 l1_2.length co7)) (fun _ hk => hk.2) (.int .i64 a0_0)) (fun _ hk => hk.2) (.int .i64 a0_1)) (fun _ hk => hk.2) (.slice Ao5 l0_2.length co5)) (fun _ hk => hk.2) (.int .i64 a1_0)) (fun _ hk => hk.2) (.int .i64 a1_1)) (fun _ hk => hk.2) (.slice Ao7 l1_2.length co7)) (fun _ hk => hk.2) (.slice A0_6 l0_6.length c0_6)) (fun _ hk => ⟨hk.1.1.1, hk.1.1.2⟩), by (with_reducible repeat (first | apply Kd.V_alloc | apply Kd.V_drewN | apply Kd.V_drew)); exact Kd.V_mono (Kd.V_far (p := ⟨gb269, 6, none⟩) (Kd.V_far (p := ⟨gb269, 5, none⟩) (Kd.V_far (p := ⟨gb269, 4, none⟩) (Kd.V_far (p := ⟨gb269, 3, none⟩) (Kd.V_far (p := ⟨gb269, 2, none⟩) (Kd.V_far (p := ⟨gb269, 1, none⟩) (Kd.V_far (p := ⟨gb269, 0, none⟩) (Kd.V_far (p := ⟨gb267, 5, none⟩) (Kd.V_far (p := ⟨gb267, 4, none⟩) (Kd.V_far (p := ⟨gb267, 3, none⟩) (Kd.V_mono (Kd.V_mono HO0_6.out (fun k_ hk => (⟨hk, hk.1.1.2⟩ : _ ∧ k_ ≠ gb267))) (fun k_ hk => (⟨hk, hk.1.2⟩ : _ ∧ k_ ≠ gb269))) (fun _ hk => hk.1.2) (.int .i64 a1_0)) (fun _ hk => hk.1.2) (.int .i64 a1_1)) (fun _ hk => hk.1.2) (.slice Ao7 l1_2.length co7)) (fun _ hk => hk.2) (.int .i64 a0_0)) (fun _ hk => hk.2) (.int .i64 a0_1)) (fun _ hk => hk.2) (.slice Ao5 l0_2.length co5)) (fun _ hk => hk.2) (.int .i64 a1_0)) (fun _ hk => hk.2) (.int .i64 a1_1)) (fun _ hk => hk.2) (.slice Ao7 l1_2.length co7)) (fun _ hk => hk.2) (.slice A0_6 l0_6.length c0_6)) (fun _ hk => ⟨hk.1.1.1.1.1.1, ⟨hk.1.1.1.1.1.2.1, hk.1.1.1.1.1.2.2⟩⟩), dV HB.out, by repeat (first | (with_reducible first | exact HK.out | apply Kept.alloc | apply Kept.drewN | apply Kept.drew | refine Kept.setCell ?_ (.inr GW267.out) _ | refine Kept.setCell ?_ (.inr GW268.out) _ | refine Kept.setCell ?_ (.inr GW269.out) _) | exact HK.out)⟩
 ·replace c4 := Bool.eq_false_iff.mpr c4
  subst c4
  rw [if_neg (show ¬ (false = true) by decide)] at H
  exact absurd H (by simp)

end Go.Proofs.YtkcgnnepgebekaaGreatDoor.PFnDesk
