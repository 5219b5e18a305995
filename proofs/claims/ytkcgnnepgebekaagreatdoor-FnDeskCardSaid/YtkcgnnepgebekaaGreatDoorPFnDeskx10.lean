/- Machine side of laws FnDesk: written for this claim by the kit's print program under this session's wip/tools/mp_setup.py (with contracts of the session's own, wip/ext). -/
import Derived.Test.YtkcgnnepgebekaaGreatDoorPFnDeskx0
import Derived.Test.YtkcgnnepgebekaaGreatDoorPFnDeskx3
import Derived.Test.YtkcgnnepgebekaaGreatDoorPFnDeskx9
namespace Go.Proofs.YtkcgnnepgebekaaGreatDoor.PFnDesk
open Go.RowKit Go.Proofs.YtkcgnnepgebekaaGreatDoorW.PrintWords Go.Proofs.YtkcgnnepgebekaaGreatDoorW.PrintLast Go.Proofs.YtkcgnnepgebekaaGreatDoorW.PrintMore
attribute [local go_sem] max2_int min2_int max_two min_two max_three min_three max_four min_four   -- for this text's walks alone
set_option linter.unusedVariables false
set_option linter.unusedSimpArgs false
-- squeezed: words under short names
set_option linter.defProp false in
def z0k := @Aside0.mk
set_option linter.defProp false in
def z1k := @blk_drewN
set_option linter.defProp false in
def z2k := @blk_alloc
set_option linter.defProp false in
def z3k := @blk_drew
set_option linter.defProp false in
def z8k := @Kd.R_alloc
set_option linter.defProp false in
def z9k := @Kd.R_drewN
set_option linter.defProp false in
def y1k := @Kd.R_drew
set_option linter.defProp false in
def x1k := @Kd.R_far
set_option linter.defProp false in
def x2k := @blk_frozen
set_option linter.defProp false in
def x3k := @blk_cell
set_option linter.defProp false in
def x6k := @Kd.R_mono
set_option linter.defProp false in
def x7k := @Kd.R_types
def bsk_ (n m : Nat) : Array Bool := ((List.range n).map fun i => m.testBit i).toArray
theorem s1k_ {α : Type} (l : List α) (i : Nat) (a : α) : l.toArray.setIfInBounds i a = (l.set i a).toArray := List.setIfInBounds_toArray l i a
theorem s2k_ {α : Type} (a b : α) (l : List α) : (a :: l).set 0 b = b :: l := rfl
theorem s3k_ {α : Type} (a b : α) (n : Nat) (l : List α) : (a :: l).set (n + 1) b = a :: l.set n b := rfl

def impl_Desk_plain.j0 : Nat → ByteArray → Bool → Int → Int → List Int → Int → Int → List Int → List (S27) → Option (Int × Int × List Int × Int × Int × List Int × (List (S27)) × ByteArray)
 | 0, _, _, _, _, _, _, _, _, _ => none
 | k + 1, x1, x32, x342000, x342001, x342002, x342003, x342004, x342005, x342006 => if x32 = true then (if (x342006.length : Int) = 0 then (none) else ((impl_Desk_last.f k x342000 x342001 x342002 x342003 x342004 x342005 x342006 x1).bind fun bt351 => (some (bt351.1, bt351.2.1, bt351.2.2.1, bt351.2.2.2.1, bt351.2.2.2.2.1, bt351.2.2.2.2.2.1, bt351.2.2.2.2.2.2.1, bt351.2.2.2.2.2.2.2)))) else (none)
def impl_Desk_plain.f (k : Nat) (a0_0 : Int) (a0_1 : Int) (l0_2 : List Int) (a0_3 : Int) (a0_4 : Int) (l0_5 : List Int) (l0_6 : List (S27)) (a1 : ByteArray) : Option (Int × Int × List Int × Int × Int × List Int × (List (S27)) × ByteArray) := if a1.toList = ([114, 101, 118, 101, 114, 115, 101] : List UInt8) then (none) else (if a1.toList = ([115, 99, 114, 101, 101, 110] : List UInt8) then (if (l0_6.length : Int) = 4 then (none) else ((impl_ScreenPicture.f a0_3 a0_4 l0_5 a0_0 a0_1 l0_2).bind fun bt343 => (if l0_6.length < 3518437208883 then (some (a0_0, a0_1, l0_2, a0_3, a0_4, l0_5, (l0_6 ++ [(⟨bt343.1, bt343.2.1, bt343.2.2⟩ : S27)]), (⟨#[111, 107]⟩ : ByteArray))) else (none)))) else (if a1.toList = ([103, 114, 111, 119] : List UInt8) then (none) else (if a1.toList = ([115, 104, 114, 105, 110, 107] : List UInt8) then (none) else (if a1.toList = ([109, 105, 114, 114, 111, 114] : List UInt8) then (none) else (if a1.toList = ([100, 114, 111, 112] : List UInt8) then (none) else (if a1.toList = ([115, 104, 111, 119] : List UInt8) then (impl_Desk_plain.j0 k a1 (a1.toList == ([115, 104, 111, 119] : List UInt8)) a0_0 a0_1 l0_2 a0_3 a0_4 l0_5 l0_6) else (if a1.toList = ([114, 117, 110, 115] : List UInt8) then (none) else (if a1.toList = ([109, 101, 97, 110] : List UInt8) then (impl_Desk_plain.j0 k a1 (a1.toList == ([109, 101, 97, 110] : List UInt8)) a0_0 a0_1 l0_2 a0_3 a0_4 l0_5 l0_6) else (if a1.toList = ([99, 111, 117, 110, 116, 115] : List UInt8) then (none) else (impl_Desk_plain.j0 k a1 (a1.toList == ([101, 114, 114, 111, 114] : List UInt8)) a0_0 a0_1 l0_2 a0_3 a0_4 l0_5 l0_6))))))))))
def impl_Desk_plain.T8 : Bool × List (List Nat × List Nat) := (true, [([], []), ([0], [0]), ([], []), ([2], [2]), ([], []), ([4], [4]), ([3, 5], [3, 5]), ([6], [6]), ([1, 7, 6], [1, 7]), ([0, 1, 2, 3, 4, 5, 6, 7, 8], []), ([9, 8, 8, 0, 1, 2, 3, 4, 5, 6, 7, 8], [8, 9])])
def impl_Desk_plain.B8 : List Nat := [0, 1, 0, 4, 0, 16, 60, 124, 255, 511, 1023]
theorem impl_Desk_plain.tab8 : rtab .any (opsOf Tryz.f42 8) = impl_Desk_plain.T8 := by kernel_rfl
theorem impl_Desk_plain.bits8 : waitsOk impl_Desk_plain.T8.2 impl_Desk_plain.B8 = true := by kernel_rfl
set_option maxHeartbeats 8000000 in
set_option maxRecDepth 100000 in
theorem impl_Desk_plain.calls (k : Nat) (a0_0 : Int) (a0_1 : Int) (P0_2_ : Nat → Prop) (u9000_ : Value) (l0_2 : List Int) (a0_3 : Int) (a0_4 : Int) (P0_5_ : Nat → Prop) (u9001_ : Value) (l0_5 : List Int) (P0_6_ : Nat → Prop) (u9002_ : Value) (l0_6 : List (S27)) (a1 : ByteArray) (r1 : Int) (r2 : Int) (r3 : List Int) (r4 : Int) (r5 : Int) (r6 : List Int) (r7 : List (S27)) (r8 : ByteArray) (w0 w : World) (hB : Below w0.heap.size w0 w) (ho0_2 : Kd.R (Kd.int .i64) 3 w w0.heap.size P0_2_ u9000_ l0_2) (hp0_2_0_5 : ∀ k_, P0_2_ k_ → ¬ P0_5_ k_) (ho0_5 : Kd.R (Kd.int .i64) 3 w w0.heap.size P0_5_ u9001_ l0_5) (hp0_5_0_2 : ∀ k_, P0_5_ k_ → ¬ P0_2_ k_) (ho0_6 : Kd.N k27 27 w w0.heap.size P0_6_ u9002_ l0_6) (hp0_6_0_2 : ∀ k_, P0_6_ k_ → ¬ P0_2_ k_) (hp0_6_0_5 : ∀ k_, P0_6_ k_ → ¬ P0_5_ k_) (hG_ : Ext.Glob w0) (h : impl_Desk_plain.f k a0_0 a0_1 l0_2 a0_3 a0_4 l0_5 l0_6 a1 = some (r1, r2, r3, r4, r5, r6, r7, r8)) :
  Calls Tryz.prog 42 #[.agg #[.int .i64 a0_0, .int .i64 a0_1, u9000_, .int .i64 a0_3, .int .i64 a0_4, u9001_, u9002_], .string a1] w fun e w' => ∃ v2_ v5_ v6_ : Value, e = .returned (.tuple #[.agg #[.int .i64 r1, .int .i64 r2, v2_, .int .i64 r4, .int .i64 r5, v5_, v6_], .string r8]) ∧ Kd.R (Kd.int .i64) 3 w' w0.heap.size (fun k_ => ((P0_2_ k_ ∨ P0_5_ k_ ∨ P0_6_ k_) ∨ w.heap.size ≤ k_) ∧ some k_ ≠ (v5_ : Value).ownBlock) v2_ r3 ∧ Kd.R (Kd.int .i64) 3 w' w0.heap.size (fun k_ => ((P0_2_ k_ ∨ P0_5_ k_ ∨ P0_6_ k_) ∨ w.heap.size ≤ k_) ∧ some k_ ≠ (v2_ : Value).ownBlock) v5_ r6 ∧ Kd.V k27 27 w' w0.heap.size (fun k_ => ((P0_2_ k_ ∨ P0_5_ k_ ∨ P0_6_ k_) ∨ w.heap.size ≤ k_) ∧ some k_ ≠ (v2_ : Value).ownBlock ∧ some k_ ≠ (v5_ : Value).ownBlock) v6_ r7 ∧ Below w0.heap.size w0 w' ∧ Kept w w' (fun k_ => P0_2_ k_ ∨ P0_5_ k_ ∨ P0_6_ k_) := by
 have HGB_ := z0k hG_
 clear hG_
 have hu55 := Tryz.underlying55
 have hu31 := Tryz.underlying31
 have hu27 := Tryz.underlying27
 have HO0_2 := z0k (show Kd.R (Kd.int .i64) 3 w w0.heap.size (fun k_ => ((P0_2_ k_ ∨ P0_5_ k_ ∨ P0_6_ k_) ∨ w.heap.size ≤ k_) ∧ some k_ ≠ (u9001_ : Value).ownBlock) u9000_ l0_2 from x6k ho0_2 (fun k_ hk => ⟨(.inl (.inl hk)), fun e_ => hp0_2_0_5 k_ hk (ho0_5.1 k_ e_.symm)⟩))
 have HO0_5 := z0k (show Kd.R (Kd.int .i64) 3 w w0.heap.size (fun k_ => ((P0_2_ k_ ∨ P0_5_ k_ ∨ P0_6_ k_) ∨ w.heap.size ≤ k_) ∧ some k_ ≠ (u9000_ : Value).ownBlock) u9001_ l0_5 from x6k ho0_5 (fun k_ hk => ⟨(.inl (.inr (.inl hk))), fun e_ => hp0_5_0_2 k_ hk (ho0_2.1 k_ e_.symm)⟩))
 have HO0_6 := z0k (show Kd.N k27 27 w w0.heap.size (fun k_ => ((P0_2_ k_ ∨ P0_5_ k_ ∨ P0_6_ k_) ∨ w.heap.size ≤ k_) ∧ some k_ ≠ (u9000_ : Value).ownBlock ∧ some k_ ≠ (u9001_ : Value).ownBlock) u9002_ l0_6 from Kd.N_mono ho0_6 (fun k_ hk => ⟨(.inl (.inr (.inr hk))), fun e_ => hp0_6_0_2 k_ hk (ho0_2.1 k_ e_.symm), fun e_ => hp0_6_0_5 k_ hk (ho0_5.1 k_ e_.symm)⟩))
 have HK := z0k (Kept.refl w (fun k_ => P0_2_ k_ ∨ P0_5_ k_ ∨ P0_6_ k_))
 have HW0 := z0k hB.size
 have HB := z0k hB
 clear hB
 have H := h
 unfold impl_Desk_plain.f at H
 clear h
 by_cases c3 : a1.toList = ([114, 101, 118, 101, 114, 115, 101] : List UInt8)
 ·rw [if_pos c3] at H
  exact absurd H (by simp)
 ·rw [if_neg c3] at H
  have c3b0 : (a1.toList == ([114, 101, 118, 101, 114, 115, 101] : List UInt8)) = false := beq_eq_false_iff_ne.mpr c3
  have c3b1 : (a1.toList != ([114, 101, 118, 101, 114, 115, 101] : List UInt8)) = true := bne_iff_ne.mpr c3
  by_cases c4 : a1.toList = ([115, 99, 114, 101, 101, 110] : List UInt8)
  ·rw [if_pos c4] at H
   have c4b0 : (a1.toList == ([115, 99, 114, 101, 101, 110] : List UInt8)) = true := beq_iff_eq.mpr c4
   have c4b1 : (a1.toList != ([115, 99, 114, 101, 101, 110] : List UInt8)) = false := bne_eq_false_iff_eq.mpr c4
   clear c4
   by_cases c5 : (l0_6.length : Int) = 4
   ·rw [if_pos c5] at H
    exact absurd H (by simp)
   ·rw [if_neg c5] at H
    have c5b0 : ((l0_6.length : Int) == 4) = false := beq_eq_false_iff_ne.mpr c5
    have c5b1 : ((l0_6.length : Int) != 4) = true := bne_iff_ne.mpr c5
    replace H := Option.bind_eq_some_iff.mp H
    obtain ⟨⟨t343, t344, t345⟩, A60, H⟩ := H
    (try dsimp only at H)
    have A6 := z0k A60
    clear A60
    by_cases c7 : l0_6.length < 3518437208883
    ·rw [if_pos c7] at H
     have LMc7 := z0k c7
     clear c7
     obtain ⟨y348, hy348⟩ : ∃ y_ : List (S27), y_ = (l0_6 ++ [(⟨t343, t344, t345⟩ : S27)]) := ⟨_, rfl⟩
     replace H : (some (a0_0, a0_1, l0_2, a0_3, a0_4, l0_5, y348, (⟨#[111, 107]⟩ : ByteArray))) = some (r1, r2, r3, r4, r5, r6, r7, r8) := by first | (rw [hy348]; with_reducible exact H) | (have H2_ := (Option.bind_some _ _).symm.trans H; rw [hy348]; with_reducible exact H2_) | (have H2_ := (Option.bind_some _ _).symm.trans H; with_reducible exact H2_) | with_reducible exact H | (rw [hy348]; exact H) | exact H
     have Ny348 := z0k hy348
     clear hy348
     simp only [Option.some.injEq, Prod.mk.injEq] at H
     obtain ⟨rfl, rfl, rfl, rfl, rfl, rfl, rfl, rfl⟩ := H
     obtain ⟨Ao8, co8, eo8⟩ := Kd.R_slice HO0_2.out
     subst eo8
     obtain ⟨Ao9, co9, eo9⟩ := Kd.R_slice HO0_5.out
     subst eo9
     obtain ⟨Ao10, co10, eo10⟩ := Kd.N_slice HO0_6.out
     subst eo10
     go_enter Tryz.func42, Tryz.ntmps42
     try go_wp2_with (first | ((with_reducible refine gate_dst (N := 2) rfl ?_); refine box_event rfl (N := 2) rfl (cs := #[.int .i64 a0_0, .int .i64 a0_1, .slice Ao8 l0_2.length co8, .int .i64 a0_3, .int .i64 a0_4, .slice Ao9 l0_5.length co9, .slice Ao10 l0_6.length co10]) (t := 55) (by first | (go_simp; done) | (go_simp; rfl)) ?_; intro gb341 hg w11 hbox hb; have n_ := a8 (Kd.R_below (rV HO0_2.out) hb) (Kd.R_below (rV HO0_5.out) hb) (Kd.N_below (Kd.N_elderB (nV HO0_6.out) gb341 (Nat.le_of_eq hg.symm)) hb) (Kept.below (S := (fun k_ => P0_2_ k_ ∨ P0_5_ k_ ∨ P0_6_ k_)) (by repeat (first | (with_reducible first | exact HK.out | apply Kept.alloc | apply Kept.drewN | apply Kept.drew) | exact HK.out)) hb) (dU HB.out hb) (hbox) ((by rw [hg]; exact (by first | exact HK.out.1 | exact (show Kept w _ (fun k_ => P0_2_ k_ ∨ P0_5_ k_ ∨ P0_6_ k_) from by repeat (first | (with_reducible first | exact HK.out | apply Kept.alloc | apply Kept.drewN | apply Kept.drew) | exact HK.out)).1) : w.heap.size ≤ gb341)) (gE hg HB.out); clear HO0_2 HO0_5 HO0_6 HK HB; obtain ⟨HO0_2, HO0_5, HO0_6, HK, HB, BK341, GW341, GE341⟩ := n_; have gi_341 := GEc.mk GE341.out; clear hb hbox hg) | ((with_reducible refine gate_dst (N := 4) rfl ?_); refine box_event rfl (N := 4) rfl (cs := #[.int .i64 0, .int .i64 0, .slice none 0 0, .int .i64 0, .int .i64 0, .slice none 0 0, .slice none 0 0]) (t := 55) (by first | (go_simp; done) | (go_simp; rfl)) ?_; intro gb342 hg w12 hbox hb; have n_ := a11 (Kd.R_below (rV HO0_2.out) hb) (Kd.R_below (rV HO0_5.out) hb) (Kd.N_below (Kd.N_elderB (nV HO0_6.out) gb342 (Nat.le_of_eq hg.symm)) hb) (bU BK341.out hb) (Kept.below (S := (fun k_ => P0_2_ k_ ∨ P0_5_ k_ ∨ P0_6_ k_)) (by repeat (first | (with_reducible first | exact HK.out | apply Kept.alloc | apply Kept.drewN | apply Kept.drew | refine Kept.setCell ?_ (.inr GW341.out) _) | exact HK.out)) hb) (dU HB.out hb) (hbox) ((by rw [hg]; exact (by first | exact HK.out.1 | exact (show Kept w _ (fun k_ => P0_2_ k_ ∨ P0_5_ k_ ∨ P0_6_ k_) from by repeat (first | (with_reducible first | exact HK.out | apply Kept.alloc | apply Kept.drewN | apply Kept.drew | refine Kept.setCell ?_ (.inr GW341.out) _) | exact HK.out)).1) : w.heap.size ≤ gb342)) (gE hg HB.out) (nL hg BK341.out) (nG hg BK341.out); clear HO0_2 HO0_5 HO0_6 BK341 HK HB; obtain ⟨HO0_2, HO0_5, HO0_6, BK341, HK, HB, BK342, GW342, GE342, NB341_342, NB342_341⟩ := n_; have gi_342 := GEc.mk GE342.out; clear hb hbox hg; have hnb13 := NB341_342.out; have hnc13 := NB342_341.out; have hcz14_0 : w12.cell? ⟨gb341, 0, none⟩ = some (.int .i64 a0_0) := (x3k BK341.out 0).trans rfl; have hcz14_1 : w12.cell? ⟨gb341, 1, none⟩ = some (.int .i64 a0_1) := (x3k BK341.out 1).trans rfl; have hcz14_2 : w12.cell? ⟨gb341, 2, none⟩ = some (.slice Ao8 l0_2.length co8) := (x3k BK341.out 2).trans rfl; have hcz14_3 : w12.cell? ⟨gb341, 3, none⟩ = some (.int .i64 a0_3) := (x3k BK341.out 3).trans rfl; have hcz14_4 : w12.cell? ⟨gb341, 4, none⟩ = some (.int .i64 a0_4) := (x3k BK341.out 4).trans rfl; have hcz14_5 : w12.cell? ⟨gb341, 5, none⟩ = some (.slice Ao9 l0_5.length co9) := (x3k BK341.out 5).trans rfl; have hcz14_6 : w12.cell? ⟨gb341, 6, none⟩ = some (.slice Ao10 l0_6.length co10) := (x3k BK341.out 6).trans rfl; have hfz14_0 := x2k BK341.out 0; have hfz14_1 := x2k BK341.out 1; have hfz14_2 := x2k BK341.out 2; have hfz14_3 := x2k BK341.out 3; have hfz14_4 := x2k BK341.out 4; have hfz14_5 := x2k BK341.out 5; have hfz14_6 := x2k BK341.out 6))
     have n_ := a7 (y1k HO0_2.out) (y1k HO0_5.out) (Kd.N_drew HO0_6.out) (z3k BK341.out) (z3k BK342.out) (Kept.drew HK.out) (below_drew1 HB.out); clear HO0_2 HO0_5 HO0_6 BK341 BK342 HK HB; obtain ⟨HO0_2, HO0_5, HO0_6, BK341, BK342, HK, HB⟩ := n_
     refine start_ (n := 11) (S := fun w' => w'.cell? ⟨gb341, 0, none⟩ = some (.int .i64 a0_0) ∧ w'.cell? ⟨gb341, 1, none⟩ = some (.int .i64 a0_1) ∧ w'.cell? ⟨gb341, 2, none⟩ = some (.slice Ao8 l0_2.length co8) ∧ w'.cell? ⟨gb341, 3, none⟩ = some (.int .i64 a0_3) ∧ w'.cell? ⟨gb341, 4, none⟩ = some (.int .i64 a0_4) ∧ w'.cell? ⟨gb341, 5, none⟩ = some (.slice Ao9 l0_5.length co9) ∧ w'.cell? ⟨gb341, 6, none⟩ = some (.slice Ao10 l0_6.length co10)) (ds := [10]) (bsk_ 11 0) (by kernel_rfl) rfl rfl ⟨(x3k BK341.out 0).trans rfl, (x3k BK341.out 1).trans rfl, (x3k BK341.out 2).trans rfl, (x3k BK341.out 3).trans rfl, (x3k BK341.out 4).trans rfl, (x3k BK341.out 5).trans rfl, (x3k BK341.out 6).trans rfl⟩ (fun hHeld => ?_); refine with_tabW impl_Desk_plain.tab8 impl_Desk_plain.bits8 (fun HT_ HW_ => ?_)
     generalize w12.drew = w15 at HO0_2 HO0_5 HO0_6 BK341 BK342 HK HB hHeld ⊢
     refine pz 0 (some 21) ?_ (bsk_ 11 1) rfl rfl HT_.out (by kernel_rfl) (fun _ _ _ h => h) (Or.inl ⟨by rfl, ?_⟩) ?_ ?_ ?_
     rotate_left
     ·intro w'
      go_simp
      with_reducible rfl
     rotate_left
     ·simp only [Act.put, s1k_, s2k_, s3k_, i64_w, i32_w]
      rfl
     refine pz 2 (some 23) ?_ (bsk_ 11 5) rfl rfl HT_.out (by kernel_rfl) (fun _ _ _ h => h) (Or.inl ⟨by rfl, ?_⟩) ?_ ?_ ?_
     rotate_left
     ·intro w'
      go_simp
      with_reducible rfl
     rotate_left
     ·simp only [Act.put, s1k_, s2k_, s3k_, i64_w, i32_w]
      rfl
     refine pz 4 (some 25) ?_ (bsk_ 11 21) rfl rfl HT_.out (by kernel_rfl) (fun _ _ _ h => h) (Or.inl ⟨by rfl, ?_⟩) ?_ ?_ ?_
     rotate_left
     ·intro w'
      go_simp
      with_reducible rfl
     rotate_left
     ·simp only [Act.put, s1k_, s2k_, s3k_, i64_w, i32_w]
      rfl
     refine take_ (i := 1) (N := some 22) (v := ?_) (a' := ?_) (bsk_ 11 23) rfl rfl (take_ofW HT_.out HW_.out (by kernel_rfl)) (fun _ _ _ h => h) (Or.inl ⟨by rfl, ?_⟩) hHeld ?_ ?_
     rotate_left
     ·rintro w' ⟨s0, s1, s2, s3, s4, s5, s6⟩
      go_simp
      with_reducible rfl
     rotate_left
     ·simp only [Act.put, s1k_, s2k_, s3k_, i64_w, i32_w]
      rfl
     refine take_ (i := 3) (N := some 24) (v := ?_) (a' := ?_) (bsk_ 11 31) rfl rfl (take_ofW HT_.out HW_.out (by kernel_rfl)) (fun _ _ _ h => h) (Or.inl ⟨by rfl, ?_⟩) hHeld ?_ ?_
     rotate_left
     ·rintro w' ⟨s0, s1, s2, s3, s4, s5, s6⟩
      go_simp
      with_reducible rfl
     rotate_left
     ·simp only [Act.put, s1k_, s2k_, s3k_, i64_w, i32_w]
      rfl
     refine take_ (i := 5) (N := some 26) (v := ?_) (a' := ?_) (bsk_ 11 63) rfl rfl (take_ofW HT_.out HW_.out (by kernel_rfl)) (fun _ _ _ h => h) (Or.inl ⟨by rfl, ?_⟩) hHeld ?_ ?_
     rotate_left
     ·rintro w' ⟨s0, s1, s2, s3, s4, s5, s6⟩
      go_simp
      with_reducible rfl
     rotate_left
     ·simp only [Act.put, s1k_, s2k_, s3k_, i64_w, i32_w]
      rfl
     refine one_ (i := 6) (N := some 27) (bsk_ 11 127) rfl rfl (one_of HT_.out (by kernel_rfl)) (by decide) (fun K hK => ?_)
     refine goes_ Tryz.func8 (by kernel_rfl) rfl #[.agg #[.int .i64 a0_3, .int .i64 a0_4, .slice Ao9 l0_5.length co9], .agg #[.int .i64 a0_0, .int .i64 a0_1, .slice Ao8 l0_2.length co8]] (by rfl) rfl rfl (by (try simp only [List.map_toArray, List.map_cons, List.map_nil]); first | done | rfl | (simp only [List.length_drop, List.length_take]; rfl)) ?_
     with_reducible refine (impl_ScreenPicture.calls a0_3 a0_4 _ _ l0_5 a0_0 a0_1 _ _ l0_2 t343 t344 t345 _ ?side1 ?side2 ?side3 ?side4 A6.out).mono ?_
     (case side1 => repeat (first | exact (Kd.R_reads' HO0_5.out).2.2 | (with_reducible refine Kd.C_alloc ?_ _) | (with_reducible refine Kd.C_drewN ?_ _) | (with_reducible refine Kd.C_drew ?_)))
     (case side2 => exact (Kd.R_reads' HO0_5.out).2.1)
     (case side3 => repeat (first | exact (Kd.R_reads' HO0_2.out).2.2 | (with_reducible refine Kd.C_alloc ?_ _) | (with_reducible refine Kd.C_drewN ?_ _) | (with_reducible refine Kd.C_drew ?_)))
     (case side4 => exact (Kd.R_reads' HO0_2.out).2.1)
     rintro e w16 ⟨v346, rfl, ho0, hb⟩
     refine ⟨_, rfl, ?_⟩
     have n_ := a8 (Kd.R_elder' (rV HO0_2.out) (Kd.R_base ho0) hb) (Kd.R_elder' (rV HO0_5.out) (Kd.R_base ho0) hb) (Kd.N_elder' (nV HO0_6.out) (Kd.R_base ho0) hb) (Kd.R_lower (Kd.R_new' (Kd.R_new' (Kd.R_newM (M := fun k_ => ((P0_2_ k_ ∨ P0_5_ k_ ∨ P0_6_ k_) ∨ w.heap.size ≤ k_)) ho0 (by first | exact HK.out.1 | exact (show Kept w _ (fun k_ => P0_2_ k_ ∨ P0_5_ k_ ∨ P0_6_ k_) from by repeat (first | (with_reducible first | exact HK.out | apply Kept.alloc | apply Kept.drewN | apply Kept.drew | refine Kept.setCell ?_ (.inr GW341.out) _ | refine Kept.setCell ?_ (.inr GW342.out) _) | exact HK.out)).1) (fun k_ h_ => .inr h_)) (Kd.R_lt (rV HO0_2.out))) (Kd.R_lt (rV HO0_5.out))) (below_size (dV HB.out))) (bU BK341.out hb) (bU BK342.out hb) (Kept.below (S := (fun k_ => P0_2_ k_ ∨ P0_5_ k_ ∨ P0_6_ k_)) (by repeat (first | (with_reducible first | exact HK.out | apply Kept.alloc | apply Kept.drewN | apply Kept.drew | refine Kept.setCell ?_ (.inr GW341.out) _ | refine Kept.setCell ?_ (.inr GW342.out) _) | exact HK.out)) hb) (dU HB.out hb); clear HO0_2 HO0_5 HO0_6 BK341 BK342 HK HB; obtain ⟨HO0_2, HO0_5, HO0_6, HO347, BK341, BK342, HK, HB⟩ := n_
     (try clear hb)
     (try clear ho0)
     obtain ⟨Ao18, co18, eo18⟩ := Kd.R_slice HO347.out
     (first | subst eo18 | (injection eo18 with f1_ f2_ f3_; have f4_ := f1_.symm; have f5_ := f3_.symm; clear f1_ f2_ f3_; subst f4_; subst f5_))
     refine hK.out _ _ ⟨(x3k BK341.out 0).trans rfl, (x3k BK341.out 1).trans rfl, (x3k BK341.out 2).trans rfl, (x3k BK341.out 3).trans rfl, (x3k BK341.out 4).trans rfl, (x3k BK341.out 5).trans rfl, (x3k BK341.out 6).trans rfl⟩ (fun hHeld => ?_)
     clear hK K
     refine norm_ (a' := ?_) ?_ ?_
     rotate_left
     ·show Act.put _ (some 27) _ = _
      simp only [Act.put, s1k_, s2k_, s3k_, i64_w, i32_w]
      rfl
     refine one_ (i := 7) (N := some 28) (bsk_ 11 255) rfl rfl (one_of HT_.out (by kernel_rfl)) (by decide) (fun K hK => ?_)
     refine value_ (w1 := ?_) (v := ?_) (by rfl) rfl ?_ ?_
     rotate_left 2
     ·go_simp
      constructor
      ·rfl
      ·rfl
     refine hK.out _ _ ⟨(x3k (z2k BK341.out _) 0).trans rfl, (x3k (z2k BK341.out _) 1).trans rfl, (x3k (z2k BK341.out _) 2).trans rfl, (x3k (z2k BK341.out _) 3).trans rfl, (x3k (z2k BK341.out _) 4).trans rfl, (x3k (z2k BK341.out _) 5).trans rfl, (x3k (z2k BK341.out _) 6).trans rfl⟩ (fun hHeld => ?_)
     clear hK K
     refine norm_ (a' := ?_) ?_ ?_
     rotate_left
     ·show Act.put _ (some 28) _ = _
      simp only [Act.put, s1k_, s2k_, s3k_, i64_w, i32_w]
      rfl
     refine one_ (i := 8) (N := some 29) (bsk_ 11 511) rfl rfl (one_of HT_.out (by kernel_rfl)) (by decide) (fun K hK => ?_)
     refine Kd.N_append_step k27 w0.heap.size rfl (.tmp 22) (.tmp 28) 53 27 (.agg #[(.int .i64 0), (.int .i64 0), (.slice none 0 0)]) 40 rfl Tryz.underlying53 info27 rfl (by decide) (by omega) (.slice Ao10 l0_6.length co10) l0_6 (⟨t343, t344, t345⟩ : S27) [.int .i64 t343, .int .i64 t344, .slice Ao18 t345.length co18] (fun k_ => ((P0_2_ k_ ∨ P0_5_ k_ ∨ P0_6_ k_) ∨ w.heap.size ≤ k_) ∧ some k_ ≠ (.slice Ao8 l0_2.length co8 : Value).ownBlock ∧ some k_ ≠ (.slice Ao9 l0_5.length co9 : Value).ownBlock ∧ k_ ≠ gb341 ∧ k_ ≠ gb342) (fun k_ => ((fun k_ => ((P0_2_ k_ ∨ P0_5_ k_ ∨ P0_6_ k_) ∨ w.heap.size ≤ k_) ∧ some k_ ≠ (.slice Ao8 l0_2.length co8 : Value).ownBlock ∧ some k_ ≠ (.slice Ao9 l0_5.length co9 : Value).ownBlock ∧ k_ ≠ gb341 ∧ k_ ≠ gb342)) k_ ∧ some k_ ≠ (.slice Ao10 l0_6.length co10 : Value).ownBlock) rfl rfl ?aP (fun _ hk => hk) ?aF ?aO (Below.refl _ _) ?aS ?aL ?_
     (case aP => exact (k27_mkF _ _ (⟨t343, t344, t345⟩ : S27) (Kd.R_reads' (x6k (ok' := (fun k_ => ((fun k_ => ((P0_2_ k_ ∨ P0_5_ k_ ∨ P0_6_ k_) ∨ w.heap.size ≤ k_) ∧ some k_ ≠ (.slice Ao8 l0_2.length co8 : Value).ownBlock ∧ some k_ ≠ (.slice Ao9 l0_5.length co9 : Value).ownBlock ∧ k_ ≠ gb341 ∧ k_ ≠ gb342)) k_ ∧ some k_ ≠ (.slice Ao10 l0_6.length co10 : Value).ownBlock)) (x7k (x7k (Kd.R_apart' (HO347.out) (Kd.N_typed HO0_6.out) (by decide)) BK341.out (by decide)) BK342.out (by decide)) (fun k_ hk => ⟨⟨hk.1.1.1.1.1.1, ⟨hk.1.1.1.1.2, ⟨hk.1.1.1.2, ⟨hk.1.2, hk.2⟩⟩⟩⟩, hk.1.1.2⟩))).2.1 (Kd.R_F (x6k (ok' := (fun k_ => ((fun k_ => ((P0_2_ k_ ∨ P0_5_ k_ ∨ P0_6_ k_) ∨ w.heap.size ≤ k_) ∧ some k_ ≠ (.slice Ao8 l0_2.length co8 : Value).ownBlock ∧ some k_ ≠ (.slice Ao9 l0_5.length co9 : Value).ownBlock ∧ k_ ≠ gb341 ∧ k_ ≠ gb342)) k_ ∧ some k_ ≠ (.slice Ao10 l0_6.length co10 : Value).ownBlock)) (x7k (x7k (Kd.R_apart' (HO347.out) (Kd.N_typed HO0_6.out) (by decide)) BK341.out (by decide)) BK342.out (by decide)) (fun k_ hk => ⟨⟨hk.1.1.1.1.1.1, ⟨hk.1.1.1.1.2, ⟨hk.1.1.1.2, ⟨hk.1.2, hk.2⟩⟩⟩⟩, hk.1.1.2⟩)))))
     (case aF => exact (fun k_ hk => ⟨(.inr (Nat.le_trans (by first | exact HK.out.1 | exact (show Kept w _ (fun k_ => P0_2_ k_ ∨ P0_5_ k_ ∨ P0_6_ k_) from by repeat (first | (with_reducible first | exact HK.out | apply Kept.alloc | apply Kept.drewN | apply Kept.drew | refine Kept.setCell ?_ (.inr GW341.out) _ | refine Kept.setCell ?_ (.inr GW342.out) _) | exact HK.out)).1) hk)), Kd.fresh' (Kd.R_lt (rV HO0_2.out)) k_ hk, Kd.fresh' (Kd.R_lt (rV HO0_5.out)) k_ hk, Kd.freshB (bV BK341.out) k_ hk, Kd.freshB (bV BK342.out) k_ hk⟩))
     (case aO => exact (by (with_reducible repeat (first | apply Kd.N_alloc | apply Kd.N_drewN | apply Kd.N_drew)); exact Kd.N_mono HO0_6.out (fun _ hk => ⟨hk.1.1.1.1, ⟨hk.1.1.1.2.1, ⟨hk.1.1.1.2.2, ⟨hk.1.1.2, hk.1.2⟩⟩⟩⟩)))
     (case aS => exact (Nat.le_trans HW0.out (by first | exact HK.out.1 | exact (show Kept w _ (fun k_ => P0_2_ k_ ∨ P0_5_ k_ ∨ P0_6_ k_) from by repeat (first | (with_reducible first | exact HK.out | apply Kept.alloc | apply Kept.drewN | apply Kept.drew | refine Kept.setCell ?_ (.inr GW341.out) _ | refine Kept.setCell ?_ (.inr GW342.out) _) | exact HK.out)).1)))
     (case aL => have := LMc7.out; omega)
     intro v349 w17 ho hb hg hat
     rw [← Ny348.out] at ho
     have n_ := a7 (Kd.R_over' (rV HO0_2.out) (Kd.N_typed (nV HO0_6.out)) (by decide) hg) (Kd.R_over' (rV HO0_5.out) (Kd.N_typed (nV HO0_6.out)) (by decide) hg) (blk_grown (bV BK341.out) hg (Kd.N_ne HO0_6.out BK341.out (by decide))) (blk_grown (bV BK342.out) hg (Kd.N_ne HO0_6.out BK342.out (by decide))) (Below.trans (dV HB.out) hb) (Kept.of_grown (S := (fun k_ => P0_2_ k_ ∨ P0_5_ k_ ∨ P0_6_ k_)) hg (by repeat (first | (with_reducible first | exact HK.out | apply Kept.alloc | apply Kept.drewN | apply Kept.drew | refine Kept.setCell ?_ (.inr GW341.out) _ | refine Kept.setCell ?_ (.inr GW342.out) _) | exact HK.out)) (fun k_ e_ => by have q_ := HO0_6.out.1 k_ e_; first | exact q_.1 | exact q_.1.1 | exact q_.1.1.1 | exact q_.1.1.1.1 | exact q_.1.1.1.1.1)) (ho); clear HO0_2 HO0_5 BK341 BK342 HB HK HO0_6 HO347; obtain ⟨HO0_2, HO0_5, BK341, BK342, HB, HK, HO350⟩ := n_
     clear ho hb hg hat
     obtain ⟨Ao19, co19, eo19⟩ := Kd.N_slice HO350.out
     (first | subst eo19 | (injection eo19 with f1_ f2_ f3_; have f4_ := f1_.symm; have f5_ := f3_.symm; clear f1_ f2_ f3_; subst f4_; subst f5_))
     refine hK.out _ _ ⟨(x3k BK341.out 0).trans rfl, (x3k BK341.out 1).trans rfl, (x3k BK341.out 2).trans rfl, (x3k BK341.out 3).trans rfl, (x3k BK341.out 4).trans rfl, (x3k BK341.out 5).trans rfl, (x3k BK341.out 6).trans rfl⟩ (fun hHeld => ?_)
     clear hK K
     refine norm_ (a' := ?_) ?_ ?_
     rotate_left
     ·show Act.put _ (some 29) _ = _
      simp only [Act.put, s1k_, s2k_, s3k_, i64_w, i32_w]
      rfl
     refine pz 9 (some 30) ?_ (bsk_ 11 1023) rfl rfl HT_.out (by kernel_rfl) (fun _ _ _ h => h) (Or.inl ⟨by rfl, ?_⟩) ?_ ?_ ?_
     rotate_left
     ·intro w'
      go_simp
      with_reducible rfl
     rotate_left
     ·simp only [Act.put, s1k_, s2k_, s3k_, i64_w, i32_w]
      rfl
     refine last_ (i := 10) (N := none) (bsk_ 11 2047) rfl rfl (one_of HT_.out (by kernel_rfl)) (by decide) (fun K hK => ?_)
     have hs20 : w17.cell? ⟨gb341, 6, none⟩ = some (.slice Ao10 l0_6.length co10) := (x3k BK341.out 6).trans rfl
     have hfs20 := x2k BK341.out 6
     have hns20_1 := NB342_341.out
     have hms20_1 := NB341_342.out
     refine skip_ (w1 := ?_) (by rfl) rfl ?_ ?_
     rotate_left
     ·go_simp
      rfl
     refine hK.out _ _ ?_
     clear hK K
     refine done_ (done_of HT_.out (by kernel_rfl)) ?_
     have hcz21_0 : w17.cell? ⟨gb341, 0, none⟩ = some (.int .i64 a0_0) := (x3k BK341.out 0).trans rfl
     have hcz21_1 : w17.cell? ⟨gb341, 1, none⟩ = some (.int .i64 a0_1) := (x3k BK341.out 1).trans rfl
     have hcz21_2 : w17.cell? ⟨gb341, 2, none⟩ = some (.slice Ao8 l0_2.length co8) := (x3k BK341.out 2).trans rfl
     have hcz21_3 : w17.cell? ⟨gb341, 3, none⟩ = some (.int .i64 a0_3) := (x3k BK341.out 3).trans rfl
     have hcz21_4 : w17.cell? ⟨gb341, 4, none⟩ = some (.int .i64 a0_4) := (x3k BK341.out 4).trans rfl
     have hcz21_5 : w17.cell? ⟨gb341, 5, none⟩ = some (.slice Ao9 l0_5.length co9) := (x3k BK341.out 5).trans rfl
     have hcz21_6 : w17.cell? ⟨gb341, 6, none⟩ = some (.slice Ao10 l0_6.length co10) := (x3k BK341.out 6).trans rfl
     have hfz21_0 := x2k BK341.out 0
     have hfz21_1 := x2k BK341.out 1
     have hfz21_2 := x2k BK341.out 2
     have hfz21_3 := x2k BK341.out 3
     have hfz21_4 := x2k BK341.out 4
     have hfz21_5 := x2k BK341.out 5
     have hfz21_6 := x2k BK341.out 6
     have hcz22_0 : w17.cell? ⟨gb342, 0, none⟩ = some (.int .i64 0) := (x3k BK342.out 0).trans rfl
     have hcz22_1 : w17.cell? ⟨gb342, 1, none⟩ = some (.int .i64 0) := (x3k BK342.out 1).trans rfl
     have hcz22_2 : w17.cell? ⟨gb342, 2, none⟩ = some (.slice none 0 0) := (x3k BK342.out 2).trans rfl
     have hcz22_3 : w17.cell? ⟨gb342, 3, none⟩ = some (.int .i64 0) := (x3k BK342.out 3).trans rfl
     have hcz22_4 : w17.cell? ⟨gb342, 4, none⟩ = some (.int .i64 0) := (x3k BK342.out 4).trans rfl
     have hcz22_5 : w17.cell? ⟨gb342, 5, none⟩ = some (.slice none 0 0) := (x3k BK342.out 5).trans rfl
     have hcz22_6 : w17.cell? ⟨gb342, 6, none⟩ = some (.slice none 0 0) := (x3k BK342.out 6).trans rfl
     have hfz22_0 := x2k BK342.out 0
     have hfz22_1 := x2k BK342.out 1
     have hfz22_2 := x2k BK342.out 2
     have hfz22_3 := x2k BK342.out 3
     have hfz22_4 := x2k BK342.out 4
     have hfz22_5 := x2k BK342.out 5
     have hfz22_6 := x2k BK342.out 6
     try go_wp2
     refine bodyPost_ret (results_ct rfl _ _ gb342 55 #[.int .i64 a0_0, .int .i64 a0_1, .slice Ao8 l0_2.length co8, .int .i64 a0_3, .int .i64 a0_4, .slice Ao9 l0_5.length co9, .slice Ao19 y348.length co19] (0, 0) _ rfl (by (with_reducible repeat (first | refine z1k ?_ _ | refine z3k ?_ | refine z2k ?_ _)); refine blk_put (cs := #[.int .i64 a0_0, .int .i64 a0_1, .slice Ao8 l0_2.length co8, .int .i64 a0_3, .int .i64 a0_4, .slice Ao9 l0_5.length co9, .slice none 0 0]) ?_ 6 _ rfl; (with_reducible repeat (first | refine z1k ?_ _ | refine z3k ?_ | refine z2k ?_ _)); refine blk_put (cs := #[.int .i64 a0_0, .int .i64 a0_1, .slice Ao8 l0_2.length co8, .int .i64 a0_3, .int .i64 a0_4, .slice none 0 0, .slice none 0 0]) ?_ 5 _ rfl; (with_reducible repeat (first | refine z1k ?_ _ | refine z3k ?_ | refine z2k ?_ _)); refine blk_put (cs := #[.int .i64 a0_0, .int .i64 a0_1, .slice Ao8 l0_2.length co8, .int .i64 a0_3, .int .i64 0, .slice none 0 0, .slice none 0 0]) ?_ 4 _ rfl; (with_reducible repeat (first | refine z1k ?_ _ | refine z3k ?_ | refine z2k ?_ _)); refine blk_put (cs := #[.int .i64 a0_0, .int .i64 a0_1, .slice Ao8 l0_2.length co8, .int .i64 0, .int .i64 0, .slice none 0 0, .slice none 0 0]) ?_ 3 _ rfl; (with_reducible repeat (first | refine z1k ?_ _ | refine z3k ?_ | refine z2k ?_ _)); refine blk_put (cs := #[.int .i64 a0_0, .int .i64 a0_1, .slice none 0 0, .int .i64 0, .int .i64 0, .slice none 0 0, .slice none 0 0]) ?_ 2 _ rfl; (with_reducible repeat (first | refine z1k ?_ _ | refine z3k ?_ | refine z2k ?_ _)); refine blk_put (cs := #[.int .i64 a0_0, .int .i64 0, .slice none 0 0, .int .i64 0, .int .i64 0, .slice none 0 0, .slice none 0 0]) ?_ 1 _ rfl; (with_reducible repeat (first | refine z1k ?_ _ | refine z3k ?_ | refine z2k ?_ _)); refine blk_put (cs := #[.int .i64 0, .int .i64 0, .slice none 0 0, .int .i64 0, .int .i64 0, .slice none 0 0, .slice none 0 0]) ?_ 0 _ rfl; (with_reducible repeat (first | refine z1k ?_ _ | refine z3k ?_ | refine z2k ?_ _)); refine blk_far ?_ NB342_341.out _; (with_reducible repeat (first | refine z1k ?_ _ | refine z3k ?_ | refine z2k ?_ _)); exact BK342.out) Tryz.underlying55 rfl (by kernel_rfl)) rfl ?_
     exact ⟨_, _, _, by first | rfl | (simp [errW_none, errW_some] <;> rfl) | (simp [*, errW_none, errW_some] <;> rfl), by (with_reducible repeat (first | apply z8k | apply z9k | apply y1k)); exact x6k (x1k (p := ⟨gb342, 6, none⟩) (x1k (p := ⟨gb342, 5, none⟩) (x1k (p := ⟨gb342, 4, none⟩) (x1k (p := ⟨gb342, 3, none⟩) (x1k (p := ⟨gb342, 2, none⟩) (x1k (p := ⟨gb342, 1, none⟩) (x1k (p := ⟨gb342, 0, none⟩) (x1k (p := ⟨gb341, 6, none⟩) (x7k (x7k HO0_2.out BK341.out (by decide)) BK342.out (by decide)) (fun _ hk => hk.1.2) (.slice Ao19 y348.length co19)) (fun _ hk => hk.2) (.int .i64 a0_0)) (fun _ hk => hk.2) (.int .i64 a0_1)) (fun _ hk => hk.2) (.slice Ao8 l0_2.length co8)) (fun _ hk => hk.2) (.int .i64 a0_3)) (fun _ hk => hk.2) (.int .i64 a0_4)) (fun _ hk => hk.2) (.slice Ao9 l0_5.length co9)) (fun _ hk => hk.2) (.slice Ao19 y348.length co19)) (fun _ hk => ⟨hk.1.1.1.1, hk.1.1.1.2⟩), by (with_reducible repeat (first | apply z8k | apply z9k | apply y1k)); exact x6k (x1k (p := ⟨gb342, 6, none⟩) (x1k (p := ⟨gb342, 5, none⟩) (x1k (p := ⟨gb342, 4, none⟩) (x1k (p := ⟨gb342, 3, none⟩) (x1k (p := ⟨gb342, 2, none⟩) (x1k (p := ⟨gb342, 1, none⟩) (x1k (p := ⟨gb342, 0, none⟩) (x1k (p := ⟨gb341, 6, none⟩) (x7k (x7k HO0_5.out BK341.out (by decide)) BK342.out (by decide)) (fun _ hk => hk.1.2) (.slice Ao19 y348.length co19)) (fun _ hk => hk.2) (.int .i64 a0_0)) (fun _ hk => hk.2) (.int .i64 a0_1)) (fun _ hk => hk.2) (.slice Ao8 l0_2.length co8)) (fun _ hk => hk.2) (.int .i64 a0_3)) (fun _ hk => hk.2) (.int .i64 a0_4)) (fun _ hk => hk.2) (.slice Ao9 l0_5.length co9)) (fun _ hk => hk.2) (.slice Ao19 y348.length co19)) (fun _ hk => ⟨hk.1.1.1.1, hk.1.1.1.2⟩), Kd.N_V (by (with_reducible repeat (first | apply Kd.N_alloc | apply Kd.N_drewN | apply Kd.N_drew)); exact Kd.N_mono (Kd.N_far (p := ⟨gb342, 6, none⟩) (Kd.N_far (p := ⟨gb342, 5, none⟩) (Kd.N_far (p := ⟨gb342, 4, none⟩) (Kd.N_far (p := ⟨gb342, 3, none⟩) (Kd.N_far (p := ⟨gb342, 2, none⟩) (Kd.N_far (p := ⟨gb342, 1, none⟩) (Kd.N_far (p := ⟨gb342, 0, none⟩) (Kd.N_far (p := ⟨gb341, 6, none⟩) (Kd.N_mono (Kd.N_mono HO350.out (fun k_ hk => (⟨hk, hk.2.2.2.1⟩ : _ ∧ k_ ≠ gb341))) (fun k_ hk => (⟨hk, hk.1.2.2.2.2⟩ : _ ∧ k_ ≠ gb342))) (fun _ hk => hk.1.2) (.slice Ao19 y348.length co19)) (fun _ hk => hk.2) (.int .i64 a0_0)) (fun _ hk => hk.2) (.int .i64 a0_1)) (fun _ hk => hk.2) (.slice Ao8 l0_2.length co8)) (fun _ hk => hk.2) (.int .i64 a0_3)) (fun _ hk => hk.2) (.int .i64 a0_4)) (fun _ hk => hk.2) (.slice Ao9 l0_5.length co9)) (fun _ hk => hk.2) (.slice Ao19 y348.length co19)) (fun _ hk => ⟨hk.1.1.1, ⟨hk.1.1.2.1, hk.1.1.2.2.1⟩⟩)), dV HB.out, by repeat (first | (with_reducible first | exact HK.out | apply Kept.alloc | apply Kept.drewN | apply Kept.drew | refine Kept.setCell ?_ (.inr GW341.out) _ | refine Kept.setCell ?_ (.inr GW342.out) _) | exact HK.out)⟩
    ·rw [if_neg c7] at H
     exact absurd H (by simp)
  ·rw [if_neg c4] at H
   have c4b0 : (a1.toList == ([115, 99, 114, 101, 101, 110] : List UInt8)) = false := beq_eq_false_iff_ne.mpr c4
   have c4b1 : (a1.toList != ([115, 99, 114, 101, 101, 110] : List UInt8)) = true := bne_iff_ne.mpr c4
   have HC23 := z0k H
   clear H
   obtain ⟨Ao24, co24, eo24⟩ := Kd.R_slice HO0_2.out
   subst eo24
   obtain ⟨Ao25, co25, eo25⟩ := Kd.R_slice HO0_5.out
   subst eo25
   obtain ⟨Ao26, co26, eo26⟩ := Kd.N_slice HO0_6.out
   subst eo26
   go_enter Tryz.func42, Tryz.ntmps42
   go_upto_if 32 with (first | ((with_reducible refine gate_dst (N := 2) rfl ?_); refine box_event rfl (N := 2) rfl (cs := #[.int .i64 a0_0, .int .i64 a0_1, .slice Ao24 l0_2.length co24, .int .i64 a0_3, .int .i64 a0_4, .slice Ao25 l0_5.length co25, .slice Ao26 l0_6.length co26]) (t := 55) (by first | (go_simp; done) | (go_simp; rfl)) ?_; intro gb341 hg w27 hbox hb; have n_ := a8 (Kd.R_below (rV HO0_2.out) hb) (Kd.R_below (rV HO0_5.out) hb) (Kd.N_below (Kd.N_elderB (nV HO0_6.out) gb341 (Nat.le_of_eq hg.symm)) hb) (Kept.below (S := (fun k_ => P0_2_ k_ ∨ P0_5_ k_ ∨ P0_6_ k_)) (by repeat (first | (with_reducible first | exact HK.out | apply Kept.alloc | apply Kept.drewN | apply Kept.drew) | exact HK.out)) hb) (dU HB.out hb) (hbox) ((by rw [hg]; exact (by first | exact HK.out.1 | exact (show Kept w _ (fun k_ => P0_2_ k_ ∨ P0_5_ k_ ∨ P0_6_ k_) from by repeat (first | (with_reducible first | exact HK.out | apply Kept.alloc | apply Kept.drewN | apply Kept.drew) | exact HK.out)).1) : w.heap.size ≤ gb341)) (gE hg HB.out); clear HO0_2 HO0_5 HO0_6 HK HB; obtain ⟨HO0_2, HO0_5, HO0_6, HK, HB, BK341, GW341, GE341⟩ := n_; have gi_341 := GEc.mk GE341.out; clear hb hbox hg) | ((with_reducible refine gate_dst (N := 4) rfl ?_); refine box_event rfl (N := 4) rfl (cs := #[.int .i64 0, .int .i64 0, .slice none 0 0, .int .i64 0, .int .i64 0, .slice none 0 0, .slice none 0 0]) (t := 55) (by first | (go_simp; done) | (go_simp; rfl)) ?_; intro gb342 hg w28 hbox hb; have n_ := a11 (Kd.R_below (rV HO0_2.out) hb) (Kd.R_below (rV HO0_5.out) hb) (Kd.N_below (Kd.N_elderB (nV HO0_6.out) gb342 (Nat.le_of_eq hg.symm)) hb) (bU BK341.out hb) (Kept.below (S := (fun k_ => P0_2_ k_ ∨ P0_5_ k_ ∨ P0_6_ k_)) (by repeat (first | (with_reducible first | exact HK.out | apply Kept.alloc | apply Kept.drewN | apply Kept.drew | refine Kept.setCell ?_ (.inr GW341.out) _) | exact HK.out)) hb) (dU HB.out hb) (hbox) ((by rw [hg]; exact (by first | exact HK.out.1 | exact (show Kept w _ (fun k_ => P0_2_ k_ ∨ P0_5_ k_ ∨ P0_6_ k_) from by repeat (first | (with_reducible first | exact HK.out | apply Kept.alloc | apply Kept.drewN | apply Kept.drew | refine Kept.setCell ?_ (.inr GW341.out) _) | exact HK.out)).1) : w.heap.size ≤ gb342)) (gE hg HB.out) (nL hg BK341.out) (nG hg BK341.out); clear HO0_2 HO0_5 HO0_6 BK341 HK HB; obtain ⟨HO0_2, HO0_5, HO0_6, BK341, HK, HB, BK342, GW342, GE342, NB341_342, NB342_341⟩ := n_; have gi_342 := GEc.mk GE342.out; clear hb hbox hg))
   (try simp only [Act.put, s1k_, s2k_, s3k_])
   go_cut [32] (fun v32 wc => ∃ (kq : Nat) (x32_22 : Bool), v32 = .bool x32_22 ∧ Aside0 (impl_Desk_plain.j0 kq a1 x32_22 a0_0 a0_1 l0_2 a0_3 a0_4 l0_5 l0_6 = some (r1, r2, r3, r4, r5, r6, r7, r8)) ∧ Aside0 (kq ≤ k) ∧ Aside0 (Kd.R (Kd.int .i64) 3 wc w0.heap.size (fun k_ => ((P0_2_ k_ ∨ P0_5_ k_ ∨ P0_6_ k_) ∨ w.heap.size ≤ k_) ∧ some k_ ≠ ((.slice Ao25 l0_5.length co25) : Value).ownBlock) (.slice Ao24 l0_2.length co24) l0_2) ∧ Aside0 (Kd.R (Kd.int .i64) 3 wc w0.heap.size (fun k_ => ((P0_2_ k_ ∨ P0_5_ k_ ∨ P0_6_ k_) ∨ w.heap.size ≤ k_) ∧ some k_ ≠ ((.slice Ao24 l0_2.length co24) : Value).ownBlock) (.slice Ao25 l0_5.length co25) l0_5) ∧ Aside0 (Kd.N k27 27 wc w0.heap.size (fun k_ => ((P0_2_ k_ ∨ P0_5_ k_ ∨ P0_6_ k_) ∨ w.heap.size ≤ k_) ∧ some k_ ≠ ((.slice Ao24 l0_2.length co24) : Value).ownBlock ∧ some k_ ≠ ((.slice Ao25 l0_5.length co25) : Value).ownBlock ∧ k_ ≠ gb341 ∧ k_ ≠ gb342) (.slice Ao26 l0_6.length co26) l0_6) ∧ Aside0 (wc.heap[gb341]? = some (.cells #[.int .i64 a0_0, .int .i64 a0_1, (.slice Ao24 l0_2.length co24), .int .i64 a0_3, .int .i64 a0_4, (.slice Ao25 l0_5.length co25), (.slice Ao26 l0_6.length co26)] 55 (0, 0))) ∧ Aside0 (wc.heap[gb342]? = some (.cells #[.int .i64 0, .int .i64 0, (.slice none 0 0), .int .i64 0, .int .i64 0, (.slice none 0 0), (.slice none 0 0)] 55 (0, 0))) ∧ Aside0 (Kept w wc (fun k_ => P0_2_ k_ ∨ P0_5_ k_ ∨ P0_6_ k_)) ∧ Aside0 (Below w0.heap.size w0 wc))
   case first =>
    have H := HC23.out
    clear HC23
    by_cases c29 : a1.toList = ([103, 114, 111, 119] : List UInt8)
    ·rw [if_pos c29] at H
     exact absurd H (by simp)
    ·rw [if_neg c29] at H
     have c29b0 : (a1.toList == ([103, 114, 111, 119] : List UInt8)) = false := beq_eq_false_iff_ne.mpr c29
     have c29b1 : (a1.toList != ([103, 114, 111, 119] : List UInt8)) = true := bne_iff_ne.mpr c29
     (first | rw [c29b0] | (simp only [i64_w, i32_w]; rw [c29b0]) | skip)
     by_cases c30 : a1.toList = ([115, 104, 114, 105, 110, 107] : List UInt8)
     ·rw [if_pos c30] at H
      exact absurd H (by simp)
     ·rw [if_neg c30] at H
      have c30b0 : (a1.toList == ([115, 104, 114, 105, 110, 107] : List UInt8)) = false := beq_eq_false_iff_ne.mpr c30
      have c30b1 : (a1.toList != ([115, 104, 114, 105, 110, 107] : List UInt8)) = true := bne_iff_ne.mpr c30
      by_cases c31 : a1.toList = ([109, 105, 114, 114, 111, 114] : List UInt8)
      ·rw [if_pos c31] at H
       exact absurd H (by simp)
      ·rw [if_neg c31] at H
       have c31b0 : (a1.toList == ([109, 105, 114, 114, 111, 114] : List UInt8)) = false := beq_eq_false_iff_ne.mpr c31
       have c31b1 : (a1.toList != ([109, 105, 114, 114, 111, 114] : List UInt8)) = true := bne_iff_ne.mpr c31
       by_cases c32 : a1.toList = ([100, 114, 111, 112] : List UInt8)
       ·rw [if_pos c32] at H
        exact absurd H (by simp)
       ·rw [if_neg c32] at H
        have c32b0 : (a1.toList == ([100, 114, 111, 112] : List UInt8)) = false := beq_eq_false_iff_ne.mpr c32
        have c32b1 : (a1.toList != ([100, 114, 111, 112] : List UInt8)) = true := bne_iff_ne.mpr c32
        by_cases c33 : a1.toList = ([115, 104, 111, 119] : List UInt8)
        ·rw [if_pos c33] at H
         have c33b0 : (a1.toList == ([115, 104, 111, 119] : List UInt8)) = true := beq_iff_eq.mpr c33
         have c33b1 : (a1.toList != ([115, 104, 111, 119] : List UInt8)) = false := bne_eq_false_iff_eq.mpr c33
         clear c33
         have H' := z0k H
         clear H
         go_wp2
         go_meet
         case rel => exact ⟨_, ((a1.toList == ([115, 104, 111, 119] : List UInt8))), (by first | rfl | (simp; done) | (simp [*]; done)), H', ⟨by first | omega | exact Nat.le_refl _⟩, ⟨by (with_reducible repeat (first | apply z8k | apply z9k | apply y1k)); exact HO0_2.out⟩, ⟨by (with_reducible repeat (first | apply z8k | apply z9k | apply y1k)); exact HO0_5.out⟩, ⟨by (with_reducible repeat (first | apply Kd.N_alloc | apply Kd.N_drewN | apply Kd.N_drew)); exact Kd.N_mono HO0_6.out (fun _ hk => ⟨hk.1.1.1, ⟨hk.1.1.2.1, ⟨hk.1.1.2.2, ⟨hk.1.2, hk.2⟩⟩⟩⟩)⟩, ⟨by (with_reducible repeat (first | refine z1k ?_ _ | refine z3k ?_ | refine z2k ?_ _)); exact BK341.out⟩, ⟨by (with_reducible repeat (first | refine z1k ?_ _ | refine z3k ?_ | refine z2k ?_ _)); exact BK342.out⟩, ⟨by repeat (first | (with_reducible first | exact HK.out | apply Kept.alloc | apply Kept.drewN | apply Kept.drew | refine Kept.setCell ?_ (.inr GW341.out) _ | refine Kept.setCell ?_ (.inr GW342.out) _) | exact HK.out)⟩, ⟨dV HB.out⟩⟩
        ·rw [if_neg c33] at H
         have c33b0 : (a1.toList == ([115, 104, 111, 119] : List UInt8)) = false := beq_eq_false_iff_ne.mpr c33
         have c33b1 : (a1.toList != ([115, 104, 111, 119] : List UInt8)) = true := bne_iff_ne.mpr c33
         by_cases c34 : a1.toList = ([114, 117, 110, 115] : List UInt8)
         ·rw [if_pos c34] at H
          exact absurd H (by simp)
         ·rw [if_neg c34] at H
          have c34b0 : (a1.toList == ([114, 117, 110, 115] : List UInt8)) = false := beq_eq_false_iff_ne.mpr c34
          have c34b1 : (a1.toList != ([114, 117, 110, 115] : List UInt8)) = true := bne_iff_ne.mpr c34
          by_cases c35 : a1.toList = ([109, 101, 97, 110] : List UInt8)
          ·rw [if_pos c35] at H
           have c35b0 : (a1.toList == ([109, 101, 97, 110] : List UInt8)) = true := beq_iff_eq.mpr c35
           have c35b1 : (a1.toList != ([109, 101, 97, 110] : List UInt8)) = false := bne_eq_false_iff_eq.mpr c35
           clear c35
           have H' := z0k H
           clear H
           go_wp2
           go_meet
           case rel => exact ⟨_, ((a1.toList == ([109, 101, 97, 110] : List UInt8))), (by first | rfl | (simp; done) | (simp [*]; done)), H', ⟨by first | omega | exact Nat.le_refl _⟩, ⟨by (with_reducible repeat (first | apply z8k | apply z9k | apply y1k)); exact HO0_2.out⟩, ⟨by (with_reducible repeat (first | apply z8k | apply z9k | apply y1k)); exact HO0_5.out⟩, ⟨by (with_reducible repeat (first | apply Kd.N_alloc | apply Kd.N_drewN | apply Kd.N_drew)); exact Kd.N_mono HO0_6.out (fun _ hk => ⟨hk.1.1.1, ⟨hk.1.1.2.1, ⟨hk.1.1.2.2, ⟨hk.1.2, hk.2⟩⟩⟩⟩)⟩, ⟨by (with_reducible repeat (first | refine z1k ?_ _ | refine z3k ?_ | refine z2k ?_ _)); exact BK341.out⟩, ⟨by (with_reducible repeat (first | refine z1k ?_ _ | refine z3k ?_ | refine z2k ?_ _)); exact BK342.out⟩, ⟨by repeat (first | (with_reducible first | exact HK.out | apply Kept.alloc | apply Kept.drewN | apply Kept.drew | refine Kept.setCell ?_ (.inr GW341.out) _ | refine Kept.setCell ?_ (.inr GW342.out) _) | exact HK.out)⟩, ⟨dV HB.out⟩⟩
          ·rw [if_neg c35] at H
           have c35b0 : (a1.toList == ([109, 101, 97, 110] : List UInt8)) = false := beq_eq_false_iff_ne.mpr c35
           have c35b1 : (a1.toList != ([109, 101, 97, 110] : List UInt8)) = true := bne_iff_ne.mpr c35
           by_cases c36 : a1.toList = ([99, 111, 117, 110, 116, 115] : List UInt8)
           ·rw [if_pos c36] at H
            exact absurd H (by simp)
           ·rw [if_neg c36] at H
            have c36b0 : (a1.toList == ([99, 111, 117, 110, 116, 115] : List UInt8)) = false := beq_eq_false_iff_ne.mpr c36
            have c36b1 : (a1.toList != ([99, 111, 117, 110, 116, 115] : List UInt8)) = true := bne_iff_ne.mpr c36
            have H' := z0k H
            clear H
            go_wp2
            go_meet
            case rel => exact ⟨_, ((a1.toList == ([101, 114, 114, 111, 114] : List UInt8))), (by first | rfl | (simp; done) | (simp [*]; done)), H', ⟨by first | omega | exact Nat.le_refl _⟩, ⟨by (with_reducible repeat (first | apply z8k | apply z9k | apply y1k)); exact HO0_2.out⟩, ⟨by (with_reducible repeat (first | apply z8k | apply z9k | apply y1k)); exact HO0_5.out⟩, ⟨by (with_reducible repeat (first | apply Kd.N_alloc | apply Kd.N_drewN | apply Kd.N_drew)); exact Kd.N_mono HO0_6.out (fun _ hk => ⟨hk.1.1.1, ⟨hk.1.1.2.1, ⟨hk.1.1.2.2, ⟨hk.1.2, hk.2⟩⟩⟩⟩)⟩, ⟨by (with_reducible repeat (first | refine z1k ?_ _ | refine z3k ?_ | refine z2k ?_ _)); exact BK341.out⟩, ⟨by (with_reducible repeat (first | refine z1k ?_ _ | refine z3k ?_ | refine z2k ?_ _)); exact BK342.out⟩, ⟨by repeat (first | (with_reducible first | exact HK.out | apply Kept.alloc | apply Kept.drewN | apply Kept.drew | refine Kept.setCell ?_ (.inr GW341.out) _ | refine Kept.setCell ?_ (.inr GW342.out) _) | exact HK.out)⟩, ⟨dV HB.out⟩⟩
   case rest =>
    clear HC23
    try clear c1
    try clear c2
    try clear p2
    try clear c3
    try clear c3b0
    try clear c3b1
    try clear c4
    try clear c4b0
    try clear c4b1
    try clear c5
    try clear c5b0
    try clear c5b1
    try clear c7
    try clear c8
    try clear c13
    try clear c29
    try clear c29b0
    try clear c29b1
    try clear c30
    try clear c30b0
    try clear c30b1
    try clear c31
    try clear c31b0
    try clear c31b1
    try clear c32
    try clear c32b0
    try clear c32b1
    try clear c33
    try clear c33b0
    try clear c33b1
    try clear c34
    try clear c34b0
    try clear c34b1
    try clear c35
    try clear c35b0
    try clear c35b1
    try clear c36
    try clear c36b0
    try clear c36b1
    try clear hcz14_0
    try clear hcz14_1
    try clear hcz14_2
    try clear hcz14_3
    try clear hcz14_4
    try clear hcz14_5
    try clear hcz14_6
    try clear hcz21_0
    try clear hcz21_1
    try clear hcz21_2
    try clear hcz21_3
    try clear hcz21_4
    try clear hcz21_5
    try clear hcz21_6
    try clear hcz22_0
    try clear hcz22_1
    try clear hcz22_2
    try clear hcz22_3
    try clear hcz22_4
    try clear hcz22_5
    try clear hcz22_6
    try clear hfz14_0
    try clear hfz14_1
    try clear hfz14_2
    try clear hfz14_3
    try clear hfz14_4
    try clear hfz14_5
    try clear hfz14_6
    try clear hfz21_0
    try clear hfz21_1
    try clear hfz21_2
    try clear hfz21_3
    try clear hfz21_4
    try clear hfz21_5
    try clear hfz21_6
    try clear hfz22_0
    try clear hfz22_1
    try clear hfz22_2
    try clear hfz22_3
    try clear hfz22_4
    try clear hfz22_5
    try clear hfz22_6
    obtain ⟨kq, x32_22, rfl, HA, HJ22, Ha_, Hb_, Hc_, BK341, BK342, HK, HB⟩ := hcut
    cases kq with
    | zero => exact absurd HA.out (by simp [impl_Desk_plain.j0])
    | succ kj22 =>
     have H := HA.out
     clear HA
     simp only [impl_Desk_plain.j0] at H
     by_cases c37 : x32_22 = true
     ·subst c37
      rw [if_pos rfl] at H
      by_cases c38 : (l0_6.length : Int) = 0
      ·rw [if_pos c38] at H
       exact absurd H (by simp)
      ·rw [if_neg c38] at H
       have c38b0 : ((l0_6.length : Int) == 0) = false := beq_eq_false_iff_ne.mpr c38
       have c38b1 : ((l0_6.length : Int) != 0) = true := bne_iff_ne.mpr c38
       have c38b2 : ¬ (l0_6 = []) := fun h_ => c38 (by rw [h_]; rfl)
       replace H := Option.bind_eq_some_iff.mp H
       obtain ⟨⟨t351, t352, t353, t356, t357, t358, t361, t364⟩, A390, H⟩ := H
       (try dsimp only at H)
       have A39 := z0k A390
       clear A390
       simp only [Option.some.injEq, Prod.mk.injEq] at H
       obtain ⟨rfl, rfl, rfl, rfl, rfl, rfl, rfl, rfl⟩ := H
       have hnb40 := NB341_342.out
       have hnc40 := NB342_341.out
       have hcz41_0 : wc.cell? ⟨gb341, 0, none⟩ = some (.int .i64 a0_0) := (x3k BK341.out 0).trans rfl
       have hcz41_1 : wc.cell? ⟨gb341, 1, none⟩ = some (.int .i64 a0_1) := (x3k BK341.out 1).trans rfl
       have hcz41_2 : wc.cell? ⟨gb341, 2, none⟩ = some (.slice Ao24 l0_2.length co24) := (x3k BK341.out 2).trans rfl
       have hcz41_3 : wc.cell? ⟨gb341, 3, none⟩ = some (.int .i64 a0_3) := (x3k BK341.out 3).trans rfl
       have hcz41_4 : wc.cell? ⟨gb341, 4, none⟩ = some (.int .i64 a0_4) := (x3k BK341.out 4).trans rfl
       have hcz41_5 : wc.cell? ⟨gb341, 5, none⟩ = some (.slice Ao25 l0_5.length co25) := (x3k BK341.out 5).trans rfl
       have hcz41_6 : wc.cell? ⟨gb341, 6, none⟩ = some (.slice Ao26 l0_6.length co26) := (x3k BK341.out 6).trans rfl
       have hfz41_0 := x2k BK341.out 0
       have hfz41_1 := x2k BK341.out 1
       have hfz41_2 := x2k BK341.out 2
       have hfz41_3 := x2k BK341.out 3
       have hfz41_4 := x2k BK341.out 4
       have hfz41_5 := x2k BK341.out 5
       have hfz41_6 := x2k BK341.out 6
       go_wp2_with (first | ((with_reducible refine gate_callee (f := 69) rfl ?_); refine goesL_ (some 49) rfl rfl Tryz.func69 (by kernel_rfl) rfl #[.agg #[.int .i64 a0_0, .int .i64 a0_1, .slice Ao24 l0_2.length co24, .int .i64 a0_3, .int .i64 a0_4, .slice Ao25 l0_5.length co25, .slice Ao26 l0_6.length co26], .string a1] rfl (by (try simp only [List.map_toArray, List.map_cons, List.map_nil]); first | done | rfl | (simp only [List.length_drop, List.length_take]; rfl)) ?_; (with_reducible refine (impl_Desk_last.calls kj22 a0_0 a0_1 (fun k_ => some k_ = (.slice Ao24 l0_2.length co24 : Value).ownBlock) (.slice Ao24 l0_2.length co24) l0_2 a0_3 a0_4 (fun k_ => some k_ = (.slice Ao25 l0_5.length co25 : Value).ownBlock) (.slice Ao25 l0_5.length co25) l0_5 (fun k_ => (((P0_2_ k_ ∨ P0_5_ k_ ∨ P0_6_ k_) ∨ w.heap.size ≤ k_) ∧ (some k_ ≠ (.slice Ao24 l0_2.length co24 : Value).ownBlock ∧ (some k_ ≠ (.slice Ao25 l0_5.length co25 : Value).ownBlock ∧ (k_ ≠ gb341 ∧ k_ ≠ gb342))))) _ _ l0_6 a1 t351 t352 t353 t356 t357 t358 t361 t364 w0 _ ?side1 ?side2 ?side3 ?side4 ?side5 ?side6 ?side7 A39.out).mono ?_); (case side1 => repeat (first | (with_reducible first | exact HB.out | apply below_alloc | apply pw_below_drewN | apply below_drew1 | refine below_set ?_ GE341.out | refine below_set ?_ GE342.out) | exact HB.out)); (case side2 => exact Kd.R_tight rfl Ha_.out); (case side3 => exact fun k_ e_ => (Ha_.out.1 k_ e_.symm).2); (case side4 => exact Kd.R_tight rfl Hb_.out); (case side5 => exact fun k_ e_ => (Hb_.out.1 k_ e_.symm).2); (case side6 => exact Kd.V_mono (Kd.N_V (Hc_.out)) (fun k_ hk_ => ⟨hk_, hk_.2.1, hk_.2.2.1⟩)); (case side7 => exact HGB_.out); rintro e w42 ⟨v354, v359, v362, rfl, ho0, ho1, ho2, hb, hkp⟩; refine ⟨_, rfl, ?_⟩; have n_ := a8 (Kd.N_mono (ok' := fun k_ => ((P0_2_ k_ ∨ P0_5_ k_ ∨ P0_6_ k_) ∨ w.heap.size ≤ k_) ∧ k_ ≠ gb341 ∧ k_ ≠ gb342 ∧ some k_ ≠ (v354 : Value).ownBlock ∧ some k_ ≠ (v359 : Value).ownBlock) (Kd.N_keptB (Hc_.out) hkp (fun k_ hk_ hs_ => Or.elim hs_ (fun e_ => (hk_.2.1) e_) (fun e_ => (hk_.2.2.1) e_))) (fun k_ hk_ => ⟨hk_.1.1, hk_.1.2.2.2.1, hk_.1.2.2.2.2, fun e_ => Or.elim (ho0.1 k_ e_.symm).1 (fun hs_ => hk_.2.1 hs_) (fun hn_ => Nat.not_le.2 hk_.2.2 hn_), fun e_ => Or.elim (ho1.1 k_ e_.symm).1 (fun hs_ => hk_.2.1 hs_) (fun hn_ => Nat.not_le.2 hk_.2.2 hn_)⟩)) (blk_kept (bV BK341.out) hkp (fun hs_ => Or.elim hs_ (fun e_ => (fun e_ => (Kd.R_ne Ha_.out BK341.out (by decide)) e_) e_) (fun e_ => (fun e_ => (Kd.R_ne Hb_.out BK341.out (by decide)) e_) e_))) (blk_kept (bV BK342.out) hkp (fun hs_ => Or.elim hs_ (fun e_ => (fun e_ => (Kd.R_ne Ha_.out BK342.out (by decide)) e_) e_) (fun e_ => (fun e_ => (Kd.R_ne Hb_.out BK342.out (by decide)) e_) e_))) (x6k (ok' := fun k_ => ((P0_2_ k_ ∨ P0_5_ k_ ∨ P0_6_ k_) ∨ w.heap.size ≤ k_) ∧ some k_ ≠ (v359 : Value).ownBlock) ho0 (fun k_ hk_ => ⟨Or.elim hk_.1 (fun hs_ => Or.elim hs_ (fun hs_ => (Ha_.out.1 k_ (hs_).symm).1) (fun hs_ => (Hb_.out.1 k_ (hs_).symm).1)) (fun hn_ => (.inr (Nat.le_trans (by first | exact HK.out.1 | exact (show Kept w _ (fun k_ => P0_2_ k_ ∨ P0_5_ k_ ∨ P0_6_ k_) from by repeat (first | (with_reducible first | exact HK.out | apply Kept.alloc | apply Kept.drewN | apply Kept.drew | refine Kept.setCell ?_ (.inr GW341.out) _ | refine Kept.setCell ?_ (.inr GW342.out) _) | exact HK.out)).1) hn_))), hk_.2⟩)) (x6k (ok' := fun k_ => ((P0_2_ k_ ∨ P0_5_ k_ ∨ P0_6_ k_) ∨ w.heap.size ≤ k_) ∧ some k_ ≠ (v354 : Value).ownBlock) ho1 (fun k_ hk_ => ⟨Or.elim hk_.1 (fun hs_ => Or.elim hs_ (fun hs_ => (Ha_.out.1 k_ (hs_).symm).1) (fun hs_ => (Hb_.out.1 k_ (hs_).symm).1)) (fun hn_ => (.inr (Nat.le_trans (by first | exact HK.out.1 | exact (show Kept w _ (fun k_ => P0_2_ k_ ∨ P0_5_ k_ ∨ P0_6_ k_) from by repeat (first | (with_reducible first | exact HK.out | apply Kept.alloc | apply Kept.drewN | apply Kept.drew | refine Kept.setCell ?_ (.inr GW341.out) _ | refine Kept.setCell ?_ (.inr GW342.out) _) | exact HK.out)).1) hn_))), hk_.2⟩)) (Kd.V_mono (ok' := fun k_ => ((P0_2_ k_ ∨ P0_5_ k_ ∨ P0_6_ k_) ∨ w.heap.size ≤ k_) ∧ some k_ ≠ (v354 : Value).ownBlock ∧ some k_ ≠ (v359 : Value).ownBlock ∧ k_ ≠ gb341 ∧ k_ ≠ gb342) ho2 (fun k_ hk_ => ⟨Or.elim hk_.1 (fun hs_ => Or.elim hs_ (fun hs_ => (Ha_.out.1 k_ (hs_).symm).1) (fun hs_ => Or.elim hs_ (fun hs_ => (Hb_.out.1 k_ (hs_).symm).1) (fun hs_ => hs_.1))) (fun hn_ => (.inr (Nat.le_trans (by first | exact HK.out.1 | exact (show Kept w _ (fun k_ => P0_2_ k_ ∨ P0_5_ k_ ∨ P0_6_ k_) from by repeat (first | (with_reducible first | exact HK.out | apply Kept.alloc | apply Kept.drewN | apply Kept.drew | refine Kept.setCell ?_ (.inr GW341.out) _ | refine Kept.setCell ?_ (.inr GW342.out) _) | exact HK.out)).1) hn_))), hk_.2.1, hk_.2.2, Or.elim hk_.1 (fun hs_ => Or.elim hs_ (fun hs_ => fun e_ => (Kd.R_ne Ha_.out BK341.out (by decide)) (by rw [← e_]; exact hs_)) (fun hs_ => Or.elim hs_ (fun hs_ => fun e_ => (Kd.R_ne Hb_.out BK341.out (by decide)) (by rw [← e_]; exact hs_)) (fun hs_ => hs_.2.2.2.1))) (fun hn_ => (Kd.freshB (bV BK341.out) k_ hn_)), Or.elim hk_.1 (fun hs_ => Or.elim hs_ (fun hs_ => fun e_ => (Kd.R_ne Ha_.out BK342.out (by decide)) (by rw [← e_]; exact hs_)) (fun hs_ => Or.elim hs_ (fun hs_ => fun e_ => (Kd.R_ne Hb_.out BK342.out (by decide)) (by rw [← e_]; exact hs_)) (fun hs_ => hs_.2.2.2.2))) (fun hn_ => (Kd.freshB (bV BK342.out) k_ hn_))⟩)) (Kept.then_ (S := (fun k_ => P0_2_ k_ ∨ P0_5_ k_ ∨ P0_6_ k_)) (by repeat (first | (with_reducible first | exact HK.out | apply Kept.alloc | apply Kept.drewN | apply Kept.drew | refine Kept.setCell ?_ (.inr GW341.out) _ | refine Kept.setCell ?_ (.inr GW342.out) _) | exact HK.out)) hkp (fun k_ hs_ => Or.elim hs_ (fun e_ => (fun e_ => (Ha_.out.1 k_ e_.symm).1) e_) (fun e_ => (fun e_ => (Hb_.out.1 k_ e_.symm).1) e_))) (hb); clear Hc_ BK341 BK342 HK HB Ha_ Hb_; obtain ⟨Hc_, BK341, BK342, HO355, HO360, HO363, HK, HB⟩ := n_; (try clear hb); (try clear hkp); (try clear ho0); (try clear ho1); (try clear ho2); have hcz43_0 : w42.cell? ⟨gb342, 0, none⟩ = some (.int .i64 0) := (x3k BK342.out 0).trans rfl; have hcz43_1 : w42.cell? ⟨gb342, 1, none⟩ = some (.int .i64 0) := (x3k BK342.out 1).trans rfl; have hcz43_2 : w42.cell? ⟨gb342, 2, none⟩ = some (.slice none 0 0) := (x3k BK342.out 2).trans rfl; have hcz43_3 : w42.cell? ⟨gb342, 3, none⟩ = some (.int .i64 0) := (x3k BK342.out 3).trans rfl; have hcz43_4 : w42.cell? ⟨gb342, 4, none⟩ = some (.int .i64 0) := (x3k BK342.out 4).trans rfl; have hcz43_5 : w42.cell? ⟨gb342, 5, none⟩ = some (.slice none 0 0) := (x3k BK342.out 5).trans rfl; have hcz43_6 : w42.cell? ⟨gb342, 6, none⟩ = some (.slice none 0 0) := (x3k BK342.out 6).trans rfl; have hfz43_0 := x2k BK342.out 0; have hfz43_1 := x2k BK342.out 1; have hfz43_2 := x2k BK342.out 2; have hfz43_3 := x2k BK342.out 3; have hfz43_4 := x2k BK342.out 4; have hfz43_5 := x2k BK342.out 5; have hfz43_6 := x2k BK342.out 6; obtain ⟨Ao44, co44, eo44⟩ := Kd.R_slice HO355.out; subst eo44; obtain ⟨Ao45, co45, eo45⟩ := Kd.R_slice HO360.out; subst eo45; obtain ⟨Ao46, co46, eo46⟩ := Kd.V_slice HO363.out; subst eo46))
       refine bodyPost_ret (results_ct rfl _ _ gb342 55 #[.int .i64 t351, .int .i64 t352, .slice Ao44 t353.length co44, .int .i64 t356, .int .i64 t357, .slice Ao45 t358.length co45, .slice Ao46 t361.length co46] (0, 0) _ rfl (by (with_reducible repeat (first | refine z1k ?_ _ | refine z3k ?_ | refine z2k ?_ _)); refine blk_put (cs := #[.int .i64 t351, .int .i64 t352, .slice Ao44 t353.length co44, .int .i64 t356, .int .i64 t357, .slice Ao45 t358.length co45, .slice none 0 0]) ?_ 6 _ rfl; (with_reducible repeat (first | refine z1k ?_ _ | refine z3k ?_ | refine z2k ?_ _)); refine blk_put (cs := #[.int .i64 t351, .int .i64 t352, .slice Ao44 t353.length co44, .int .i64 t356, .int .i64 t357, .slice none 0 0, .slice none 0 0]) ?_ 5 _ rfl; (with_reducible repeat (first | refine z1k ?_ _ | refine z3k ?_ | refine z2k ?_ _)); refine blk_put (cs := #[.int .i64 t351, .int .i64 t352, .slice Ao44 t353.length co44, .int .i64 t356, .int .i64 0, .slice none 0 0, .slice none 0 0]) ?_ 4 _ rfl; (with_reducible repeat (first | refine z1k ?_ _ | refine z3k ?_ | refine z2k ?_ _)); refine blk_put (cs := #[.int .i64 t351, .int .i64 t352, .slice Ao44 t353.length co44, .int .i64 0, .int .i64 0, .slice none 0 0, .slice none 0 0]) ?_ 3 _ rfl; (with_reducible repeat (first | refine z1k ?_ _ | refine z3k ?_ | refine z2k ?_ _)); refine blk_put (cs := #[.int .i64 t351, .int .i64 t352, .slice none 0 0, .int .i64 0, .int .i64 0, .slice none 0 0, .slice none 0 0]) ?_ 2 _ rfl; (with_reducible repeat (first | refine z1k ?_ _ | refine z3k ?_ | refine z2k ?_ _)); refine blk_put (cs := #[.int .i64 t351, .int .i64 0, .slice none 0 0, .int .i64 0, .int .i64 0, .slice none 0 0, .slice none 0 0]) ?_ 1 _ rfl; (with_reducible repeat (first | refine z1k ?_ _ | refine z3k ?_ | refine z2k ?_ _)); refine blk_put (cs := #[.int .i64 0, .int .i64 0, .slice none 0 0, .int .i64 0, .int .i64 0, .slice none 0 0, .slice none 0 0]) ?_ 0 _ rfl; (with_reducible repeat (first | refine z1k ?_ _ | refine z3k ?_ | refine z2k ?_ _)); exact BK342.out) Tryz.underlying55 rfl (by kernel_rfl)) rfl ?_
       exact ⟨_, _, _, by first | rfl | (simp [errW_none, errW_some] <;> rfl) | (simp [*, errW_none, errW_some] <;> rfl), by (with_reducible repeat (first | apply z8k | apply z9k | apply y1k)); exact x6k (x1k (p := ⟨gb342, 6, none⟩) (x1k (p := ⟨gb342, 5, none⟩) (x1k (p := ⟨gb342, 4, none⟩) (x1k (p := ⟨gb342, 3, none⟩) (x1k (p := ⟨gb342, 2, none⟩) (x1k (p := ⟨gb342, 1, none⟩) (x1k (p := ⟨gb342, 0, none⟩) (x7k HO355.out BK342.out (by decide)) (fun _ hk => hk.2) (.int .i64 t351)) (fun _ hk => hk.2) (.int .i64 t352)) (fun _ hk => hk.2) (.slice Ao44 t353.length co44)) (fun _ hk => hk.2) (.int .i64 t356)) (fun _ hk => hk.2) (.int .i64 t357)) (fun _ hk => hk.2) (.slice Ao45 t358.length co45)) (fun _ hk => hk.2) (.slice Ao46 t361.length co46)) (fun _ hk => ⟨hk.1.1, hk.1.2⟩), by (with_reducible repeat (first | apply z8k | apply z9k | apply y1k)); exact x6k (x1k (p := ⟨gb342, 6, none⟩) (x1k (p := ⟨gb342, 5, none⟩) (x1k (p := ⟨gb342, 4, none⟩) (x1k (p := ⟨gb342, 3, none⟩) (x1k (p := ⟨gb342, 2, none⟩) (x1k (p := ⟨gb342, 1, none⟩) (x1k (p := ⟨gb342, 0, none⟩) (x7k HO360.out BK342.out (by decide)) (fun _ hk => hk.2) (.int .i64 t351)) (fun _ hk => hk.2) (.int .i64 t352)) (fun _ hk => hk.2) (.slice Ao44 t353.length co44)) (fun _ hk => hk.2) (.int .i64 t356)) (fun _ hk => hk.2) (.int .i64 t357)) (fun _ hk => hk.2) (.slice Ao45 t358.length co45)) (fun _ hk => hk.2) (.slice Ao46 t361.length co46)) (fun _ hk => ⟨hk.1.1, hk.1.2⟩), by (with_reducible repeat (first | apply Kd.V_alloc | apply Kd.V_drewN | apply Kd.V_drew)); exact Kd.V_mono (Kd.V_far (p := ⟨gb342, 6, none⟩) (Kd.V_far (p := ⟨gb342, 5, none⟩) (Kd.V_far (p := ⟨gb342, 4, none⟩) (Kd.V_far (p := ⟨gb342, 3, none⟩) (Kd.V_far (p := ⟨gb342, 2, none⟩) (Kd.V_far (p := ⟨gb342, 1, none⟩) (Kd.V_far (p := ⟨gb342, 0, none⟩) (Kd.V_mono HO363.out (fun k_ hk => (⟨hk, hk.2.2.2.2⟩ : _ ∧ k_ ≠ gb342))) (fun _ hk => hk.2) (.int .i64 t351)) (fun _ hk => hk.2) (.int .i64 t352)) (fun _ hk => hk.2) (.slice Ao44 t353.length co44)) (fun _ hk => hk.2) (.int .i64 t356)) (fun _ hk => hk.2) (.int .i64 t357)) (fun _ hk => hk.2) (.slice Ao45 t358.length co45)) (fun _ hk => hk.2) (.slice Ao46 t361.length co46)) (fun _ hk => ⟨hk.1.1, ⟨hk.1.2.1, hk.1.2.2.1⟩⟩), dV HB.out, by repeat (first | (with_reducible first | exact HK.out | apply Kept.alloc | apply Kept.drewN | apply Kept.drew | refine Kept.setCell ?_ (.inr GW341.out) _ | refine Kept.setCell ?_ (.inr GW342.out) _) | exact HK.out)⟩
     ·replace c37 := Bool.eq_false_iff.mpr c37
      subst c37
      rw [if_neg (show ¬ (false = true) by decide)] at H
      exact absurd H (by simp)

end Go.Proofs.YtkcgnnepgebekaaGreatDoor.PFnDesk
