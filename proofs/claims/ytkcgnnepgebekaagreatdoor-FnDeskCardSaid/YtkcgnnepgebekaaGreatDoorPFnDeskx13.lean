/- Machine side of laws FnDesk: written for this claim by the kit's print program under this session's wip/tools/mp_setup.py (with contracts of the session's own, wip/ext). -/
import Derived.Test.YtkcgnnepgebekaaGreatDoorPFnDeskx0
import Derived.Test.YtkcgnnepgebekaaGreatDoorPFnDeskx1
import Derived.Test.YtkcgnnepgebekaaGreatDoorPFnDeskx3
import Derived.Test.YtkcgnnepgebekaaGreatDoorPFnDeskx4
import Derived.Test.YtkcgnnepgebekaaGreatDoorPFnDeskx12
namespace Go.Proofs.YtkcgnnepgebekaaGreatDoor.PFnDesk
open Go.RowKit Go.Proofs.YtkcgnnepgebekaaGreatDoorW.PrintWords Go.Proofs.YtkcgnnepgebekaaGreatDoorW.PrintLast Go.Proofs.YtkcgnnepgebekaaGreatDoorW.PrintMore
attribute [local go_sem] max2_int min2_int max_two min_two max_three min_three max_four min_four   -- for this text's walks alone
set_option linter.unusedVariables false
set_option linter.unusedSimpArgs false
-- squeezed: words under short names
set_option linter.defProp false in
def z0n := @Aside0.mk
set_option linter.defProp false in
def z1n := @blk_drewN
set_option linter.defProp false in
def z2n := @blk_alloc
set_option linter.defProp false in
def z3n := @blk_drew
set_option linter.defProp false in
def z8n := @Kd.R_alloc
set_option linter.defProp false in
def z9n := @Kd.R_drewN
set_option linter.defProp false in
def y1n := @Kd.R_drew
set_option linter.defProp false in
def x1n := @Kd.R_far
set_option linter.defProp false in
def x2n := @blk_frozen
set_option linter.defProp false in
def x3n := @blk_cell
set_option linter.defProp false in
def x4n := @Kd.R_below
set_option linter.defProp false in
def x6n := @Kd.R_mono
set_option linter.defProp false in
def x7n := @Kd.R_types
set_option linter.defProp false in
def x8n := @blk_far
def bsn_ (n m : Nat) : Array Bool := ((List.range n).map fun i => m.testBit i).toArray
theorem s1n_ {α : Type} (l : List α) (i : Nat) (a : α) : l.toArray.setIfInBounds i a = (l.set i a).toArray := List.setIfInBounds_toArray l i a
theorem s2n_ {α : Type} (a b : α) (l : List α) : (a :: l).set 0 b = b :: l := rfl
theorem s3n_ {α : Type} (a b : α) (n : Nat) (l : List α) : (a :: l).set (n + 1) b = a :: l.set n b := rfl

def laws_FnDesk.l0 : Nat → ByteArray → Int → Int → ByteArray → List Int → Int → Option (Bool)
 | 0, _, _, _, _, _, _ => none
 | k + 1, x6, x12, x13, x14, x15, x16 => if x16 < (wrap64 ((x14.size : Int) - 1)) then (if 0 ≤ x16 then (if x16 < (x14.size : Int) then (if (bt x14 x16) = 10 then (if x15.length < 140737488355328 then (laws_FnDesk.l0 k x6 x12 x13 x14 (x15 ++ [47]) (wrap64 (x16 + 1))) else (none)) else (if x15.length < 140737488355328 then (laws_FnDesk.l0 k x6 x12 x13 x14 (x15 ++ [bt x14 x16]) (wrap64 (x16 + 1))) else (none))) else (none)) else (none)) else ((impl_RunScript.f k x6).bind fun bt503 => (if bt503.2 = 6 then ((laws_decimal.f k x12).bind fun t505 => (if 9 + t505.size ≤ 9223372036854775807 then (if ((⟨#[111, 107, 10, 111, 107, 10, 111, 107, 10]⟩ : ByteArray) ++ t505).size + 1 ≤ 9223372036854775807 then ((laws_decimal.f k x13).bind fun t506 => (if (((⟨#[111, 107, 10, 111, 107, 10, 111, 107, 10]⟩ : ByteArray) ++ t505) ++ (⟨#[32]⟩ : ByteArray)).size + t506.size ≤ 9223372036854775807 then (if ((((⟨#[111, 107, 10, 111, 107, 10, 111, 107, 10]⟩ : ByteArray) ++ t505) ++ (⟨#[32]⟩ : ByteArray)) ++ t506).size + 1 ≤ 9223372036854775807 then (if (((((⟨#[111, 107, 10, 111, 107, 10, 111, 107, 10]⟩ : ByteArray) ++ t505) ++ (⟨#[32]⟩ : ByteArray)) ++ t506) ++ (⟨#[10]⟩ : ByteArray)).size + (strOfNums x15).size ≤ 9223372036854775807 then (if ((((((⟨#[111, 107, 10, 111, 107, 10, 111, 107, 10]⟩ : ByteArray) ++ t505) ++ (⟨#[32]⟩ : ByteArray)) ++ t506) ++ (⟨#[10]⟩ : ByteArray)) ++ (strOfNums x15)).size + 1 ≤ 9223372036854775807 then (some (bt503.1.toList == (((((((⟨#[111, 107, 10, 111, 107, 10, 111, 107, 10]⟩ : ByteArray) ++ t505) ++ (⟨#[32]⟩ : ByteArray)) ++ t506) ++ (⟨#[10]⟩ : ByteArray)) ++ (strOfNums x15)) ++ (⟨#[10]⟩ : ByteArray)).toList)) else (none)) else (none)) else (none)) else (none))) else (none)) else (none))) else (some false)))
def laws_FnDesk.f (k : Nat) (l0 : List Int) : Option (Bool) := if (l0.length : Int) > 1048576 then (some true) else ((laws_at.f l0 1).bind fun t465 => ((laws_at.f l0 2).bind fun t466 => ((laws_at.f l0 3).bind fun t467 => ((laws_decimal.f k (wrap64 (1 + (Int.tmod t465 20)))).bind fun t468 => (if 5 + t468.size ≤ 9223372036854775807 then (if ((⟨#[114, 97, 109, 112, 32]⟩ : ByteArray) ++ t468).size + 1 ≤ 9223372036854775807 then ((laws_decimal.f k (wrap64 (1 + (Int.tmod t466 9)))).bind fun t469 => (if (((⟨#[114, 97, 109, 112, 32]⟩ : ByteArray) ++ t468) ++ (⟨#[32]⟩ : ByteArray)).size + t469.size ≤ 9223372036854775807 then (if ((((⟨#[114, 97, 109, 112, 32]⟩ : ByteArray) ++ t468) ++ (⟨#[32]⟩ : ByteArray)) ++ t469).size + 7 ≤ 9223372036854775807 then ((laws_decimal.f k (Int.tmod t467 4)).bind fun t470 => (if (((((⟨#[114, 97, 109, 112, 32]⟩ : ByteArray) ++ t468) ++ (⟨#[32]⟩ : ByteArray)) ++ t469) ++ (⟨#[10, 98, 97, 121, 101, 114, 32]⟩ : ByteArray)).size + t470.size ≤ 9223372036854775807 then (if ((((((⟨#[114, 97, 109, 112, 32]⟩ : ByteArray) ++ t468) ++ (⟨#[32]⟩ : ByteArray)) ++ t469) ++ (⟨#[10, 98, 97, 121, 101, 114, 32]⟩ : ByteArray)) ++ t470).size + 18 ≤ 9223372036854775807 then ((impl_RampPicture.f (wrap64 (1 + (Int.tmod t465 20))) (wrap64 (1 + (Int.tmod t466 9)))).bind fun bt471 => ((impl_BayerMatrix.f k (Int.tmod t467 4)).bind fun bt478 => ((impl_ScreenPicture.f bt478.1 bt478.2.1 bt478.2.2.1 bt471.1 bt471.2.1 bt471.2.2.1).bind fun bt485 => ((impl_MeanOf.f k bt485.1 bt485.2.1 bt485.2.2).bind fun bt491 => ((impl_DotText.f k bt485.1 bt485.2.1 bt485.2.2).bind fun t493 => (laws_FnDesk.l0 k (((((((⟨#[114, 97, 109, 112, 32]⟩ : ByteArray) ++ t468) ++ (⟨#[32]⟩ : ByteArray)) ++ t469) ++ (⟨#[10, 98, 97, 121, 101, 114, 32]⟩ : ByteArray)) ++ t470) ++ (⟨#[10, 115, 99, 114, 101, 101, 110, 10, 109, 101, 97, 110, 10, 10, 115, 104, 111, 119]⟩ : ByteArray)) bt491.1 bt491.2 t493 (([] : List Int)) 0)))))) else (none)) else (none))) else (none)) else (none))) else (none)) else (none))))))
def laws_FnDesk.T20 : Bool × List (List Nat × List Nat) := (true, [([], []), ([0], [0]), ([1], [1]), ([2], [2]), ([2], [2]), ([4, 2, 2], [2, 4]), ([5, 2], [2, 5]), ([6, 2], [2, 6]), ([2], [2]), ([8, 5, 2], [2, 8]), ([7, 9, 2], [2, 7, 9]), ([10, 2], [2, 10]), ([2], [2]), ([12, 2], [2, 12]), ([11, 13, 2], [2, 11, 13]), ([14, 2], [2, 14]), ([3, 15, 2], [2, 3, 15]), ([2, 16], [2, 16]), ([17, 9, 0, 1, 2, 3, 4, 5, 6, 7, 8, 9, 10, 11, 12, 13, 14, 15, 16, 17], [17])])
def laws_FnDesk.B20 : List Nat := [0, 1, 3, 7, 7, 23, 55, 119, 7, 311, 1015, 2039, 7, 4103, 16375, 32759, 65535, 131071, 262143]
theorem laws_FnDesk.tab20 : rtab .any (opsOf Tryz.f3 20) = laws_FnDesk.T20 := by kernel_rfl
theorem laws_FnDesk.bits20 : waitsOk laws_FnDesk.T20.2 laws_FnDesk.B20 = true := by kernel_rfl
set_option maxHeartbeats 8000000 in
set_option maxRecDepth 100000 in
theorem laws_FnDesk.calls (k : Nat) (A0 : Option Addr) (c0 : Nat) (l0 : List Int) (r : Bool) (w : World) (hr0 : Kd.C (Kd.int .u8) w A0 l0.length l0) (hc0 : l0.length ≤ c0) (hG_ : Ext.Glob w) (h : laws_FnDesk.f k l0 = some r) (hr_ : r = true := by rfl) :
  Calls Tryz.prog 3 #[.slice A0 l0.length c0] w fun e w' => e = .returned (.bool r) ∧ Below w.heap.size w w' := by
 have HRT_ := z0n hr_
 clear hr_
 have HGB_ := z0n hG_
 clear hG_
 have hu27 := Tryz.underlying27
 have hu31 := Tryz.underlying31
 have HR0 := z0n hr0
 have HC0 := z0n hc0
 clear hr0 hc0
 have HB := z0n (Below.refl w.heap.size w)
 have H := h
 unfold laws_FnDesk.f at H
 clear h
 by_cases c2 : (l0.length : Int) > 1048576
 ·rw [if_pos c2] at H
  have c2b0 : decide (1048576 < (l0.length : Int)) = true := decide_eq_true c2
  have c2b1 : decide (1048576 < l0.length) = true := decide_eq_true (by omega)
  clear c2
  obtain rfl := Option.some.inj H
  go_enter Tryz.func3, Tryz.ntmps3
  go_wp2
  go_ret
  exact ⟨by first | rfl | (simp [errW_none, errW_some] <;> rfl) | (simp [*, errW_none, errW_some] <;> rfl), dV HB.out⟩
 ·rw [if_neg c2] at H
  have c2b0 : decide (1048576 < (l0.length : Int)) = false := decide_eq_false c2
  have c2b1 : decide (1048576 < l0.length) = false := decide_eq_false (by omega)
  clear c2
  replace H := Option.bind_eq_some_iff.mp H
  obtain ⟨t465, A30, H⟩ := H
  (try dsimp only at H)
  have A3 := z0n A30
  clear A30
  replace H := Option.bind_eq_some_iff.mp H
  obtain ⟨t466, A40, H⟩ := H
  (try dsimp only at H)
  have A4 := z0n A40
  clear A40
  replace H := Option.bind_eq_some_iff.mp H
  obtain ⟨t467, A50, H⟩ := H
  (try dsimp only at H)
  have A5 := z0n A50
  clear A50
  replace H := Option.bind_eq_some_iff.mp H
  obtain ⟨t468, A60, H⟩ := H
  (try dsimp only at H)
  have A6 := z0n A60
  clear A60
  by_cases c7 : 5 + t468.size ≤ 9223372036854775807
  ·rw [if_pos c7] at H
   have c7b0 := eq_true c7
   have c7b1 : decide (5 + t468.size ≤ 9223372036854775807) = true := decide_eq_true c7
   try have c7b2 : (9223372036854775807 < 5 + t468.size) = False := eq_false (Nat.not_lt.2 c7)
   by_cases c8 : ((⟨#[114, 97, 109, 112, 32]⟩ : ByteArray) ++ t468).size + 1 ≤ 9223372036854775807
   ·rw [if_pos c8] at H
    have c8b0 := eq_true c8
    have c8b1 : decide (((⟨#[114, 97, 109, 112, 32]⟩ : ByteArray) ++ t468).size + 1 ≤ 9223372036854775807) = true := decide_eq_true c8
    try have c8b2 : (9223372036854775807 < ((⟨#[114, 97, 109, 112, 32]⟩ : ByteArray) ++ t468).size + 1) = False := eq_false (Nat.not_lt.2 c8)
    have c8b9 : (9223372036854775807 < 5 + t468.size + 1) = False := eq_false (by have z_ := c8; simp only [ByteArray.size_append] at z_; have : (⟨#[114, 97, 109, 112, 32]⟩ : ByteArray).size = 5 := rfl; omega)
    replace H := Option.bind_eq_some_iff.mp H
    obtain ⟨t469, A90, H⟩ := H
    (try dsimp only at H)
    have A9 := z0n A90
    clear A90
    by_cases c10 : (((⟨#[114, 97, 109, 112, 32]⟩ : ByteArray) ++ t468) ++ (⟨#[32]⟩ : ByteArray)).size + t469.size ≤ 9223372036854775807
    ·rw [if_pos c10] at H
     have c10b0 := eq_true c10
     have c10b1 : decide ((((⟨#[114, 97, 109, 112, 32]⟩ : ByteArray) ++ t468) ++ (⟨#[32]⟩ : ByteArray)).size + t469.size ≤ 9223372036854775807) = true := decide_eq_true c10
     try have c10b2 : (9223372036854775807 < (((⟨#[114, 97, 109, 112, 32]⟩ : ByteArray) ++ t468) ++ (⟨#[32]⟩ : ByteArray)).size + t469.size) = False := eq_false (Nat.not_lt.2 c10)
     have c10b9 : (9223372036854775807 < 5 + t468.size + 1 + t469.size) = False := eq_false (by have z_ := c10; simp only [ByteArray.size_append] at z_; have : (⟨#[114, 97, 109, 112, 32]⟩ : ByteArray).size = 5 := rfl; have : (⟨#[32]⟩ : ByteArray).size = 1 := rfl; omega)
     by_cases c11 : ((((⟨#[114, 97, 109, 112, 32]⟩ : ByteArray) ++ t468) ++ (⟨#[32]⟩ : ByteArray)) ++ t469).size + 7 ≤ 9223372036854775807
     ·rw [if_pos c11] at H
      have c11b0 := eq_true c11
      have c11b1 : decide (((((⟨#[114, 97, 109, 112, 32]⟩ : ByteArray) ++ t468) ++ (⟨#[32]⟩ : ByteArray)) ++ t469).size + 7 ≤ 9223372036854775807) = true := decide_eq_true c11
      try have c11b2 : (9223372036854775807 < ((((⟨#[114, 97, 109, 112, 32]⟩ : ByteArray) ++ t468) ++ (⟨#[32]⟩ : ByteArray)) ++ t469).size + 7) = False := eq_false (Nat.not_lt.2 c11)
      have c11b9 : (9223372036854775807 < 5 + t468.size + 1 + t469.size + 7) = False := eq_false (by have z_ := c11; simp only [ByteArray.size_append] at z_; have : (⟨#[114, 97, 109, 112, 32]⟩ : ByteArray).size = 5 := rfl; have : (⟨#[32]⟩ : ByteArray).size = 1 := rfl; omega)
      replace H := Option.bind_eq_some_iff.mp H
      obtain ⟨t470, A120, H⟩ := H
      (try dsimp only at H)
      have A12 := z0n A120
      clear A120
      by_cases c13 : (((((⟨#[114, 97, 109, 112, 32]⟩ : ByteArray) ++ t468) ++ (⟨#[32]⟩ : ByteArray)) ++ t469) ++ (⟨#[10, 98, 97, 121, 101, 114, 32]⟩ : ByteArray)).size + t470.size ≤ 9223372036854775807
      ·rw [if_pos c13] at H
       have c13b0 := eq_true c13
       have c13b1 : decide ((((((⟨#[114, 97, 109, 112, 32]⟩ : ByteArray) ++ t468) ++ (⟨#[32]⟩ : ByteArray)) ++ t469) ++ (⟨#[10, 98, 97, 121, 101, 114, 32]⟩ : ByteArray)).size + t470.size ≤ 9223372036854775807) = true := decide_eq_true c13
       try have c13b2 : (9223372036854775807 < (((((⟨#[114, 97, 109, 112, 32]⟩ : ByteArray) ++ t468) ++ (⟨#[32]⟩ : ByteArray)) ++ t469) ++ (⟨#[10, 98, 97, 121, 101, 114, 32]⟩ : ByteArray)).size + t470.size) = False := eq_false (Nat.not_lt.2 c13)
       have c13b9 : (9223372036854775807 < 5 + t468.size + 1 + t469.size + 7 + t470.size) = False := eq_false (by have z_ := c13; simp only [ByteArray.size_append] at z_; have : (⟨#[114, 97, 109, 112, 32]⟩ : ByteArray).size = 5 := rfl; have : (⟨#[32]⟩ : ByteArray).size = 1 := rfl; have : (⟨#[10, 98, 97, 121, 101, 114, 32]⟩ : ByteArray).size = 7 := rfl; omega)
       by_cases c14 : ((((((⟨#[114, 97, 109, 112, 32]⟩ : ByteArray) ++ t468) ++ (⟨#[32]⟩ : ByteArray)) ++ t469) ++ (⟨#[10, 98, 97, 121, 101, 114, 32]⟩ : ByteArray)) ++ t470).size + 18 ≤ 9223372036854775807
       ·rw [if_pos c14] at H
        have c14b0 := eq_true c14
        have c14b1 : decide (((((((⟨#[114, 97, 109, 112, 32]⟩ : ByteArray) ++ t468) ++ (⟨#[32]⟩ : ByteArray)) ++ t469) ++ (⟨#[10, 98, 97, 121, 101, 114, 32]⟩ : ByteArray)) ++ t470).size + 18 ≤ 9223372036854775807) = true := decide_eq_true c14
        try have c14b2 : (9223372036854775807 < ((((((⟨#[114, 97, 109, 112, 32]⟩ : ByteArray) ++ t468) ++ (⟨#[32]⟩ : ByteArray)) ++ t469) ++ (⟨#[10, 98, 97, 121, 101, 114, 32]⟩ : ByteArray)) ++ t470).size + 18) = False := eq_false (Nat.not_lt.2 c14)
        have c14b9 : (9223372036854775807 < 5 + t468.size + 1 + t469.size + 7 + t470.size + 18) = False := eq_false (by have z_ := c14; simp only [ByteArray.size_append] at z_; have : (⟨#[114, 97, 109, 112, 32]⟩ : ByteArray).size = 5 := rfl; have : (⟨#[32]⟩ : ByteArray).size = 1 := rfl; have : (⟨#[10, 98, 97, 121, 101, 114, 32]⟩ : ByteArray).size = 7 := rfl; omega)
        replace H := Option.bind_eq_some_iff.mp H
        obtain ⟨⟨t471, t472, t473, t476⟩, A150, H⟩ := H
        (try dsimp only at H)
        have A15 := z0n A150
        clear A150
        replace H := Option.bind_eq_some_iff.mp H
        obtain ⟨⟨t478, t479, t480, t483⟩, A160, H⟩ := H
        (try dsimp only at H)
        have A16 := z0n A160
        clear A160
        replace H := Option.bind_eq_some_iff.mp H
        obtain ⟨⟨t485, t486, t487⟩, A170, H⟩ := H
        (try dsimp only at H)
        have A17 := z0n A170
        clear A170
        replace H := Option.bind_eq_some_iff.mp H
        obtain ⟨⟨t491, t492⟩, A180, H⟩ := H
        (try dsimp only at H)
        have A18 := z0n A180
        clear A180
        replace H := Option.bind_eq_some_iff.mp H
        obtain ⟨t493, A190, H⟩ := H
        (try dsimp only at H)
        have A19 := z0n A190
        clear A190
        obtain ⟨y494, hy494⟩ : ∃ y_ : List Int, y_ = (([] : List Int)) := ⟨_, rfl⟩
        replace H : (laws_FnDesk.l0 k (((((((⟨#[114, 97, 109, 112, 32]⟩ : ByteArray) ++ t468) ++ (⟨#[32]⟩ : ByteArray)) ++ t469) ++ (⟨#[10, 98, 97, 121, 101, 114, 32]⟩ : ByteArray)) ++ t470) ++ (⟨#[10, 115, 99, 114, 101, 101, 110, 10, 109, 101, 97, 110, 10, 10, 115, 104, 111, 119]⟩ : ByteArray)) t491 t492 t493 y494 0) = some r := by first | (rw [hy494]; with_reducible exact H) | (have H2_ := (Option.bind_some _ _).symm.trans H; rw [hy494]; with_reducible exact H2_) | (have H2_ := (Option.bind_some _ _).symm.trans H; with_reducible exact H2_) | with_reducible exact H | (rw [hy494]; exact H) | exact H
        have Ny494 := z0n hy494
        clear hy494
        have H' := z0n H
        clear H
        go_enter Tryz.func3, Tryz.ntmps3
        go_wp2_with (first | ((with_reducible refine gate_callee (f := 4) rfl ?_); refine goesL_ (some 23) rfl rfl Tryz.func4 (by kernel_rfl) rfl #[.slice A0 l0.length c0, .int .i64 1] rfl (by (try simp only [List.map_toArray, List.map_cons, List.map_nil]); first | done | rfl | (simp only [List.length_drop, List.length_take]; rfl)) ?_; (with_reducible refine (laws_at.calls _ _ l0 1 t465 _ ?side1 ?side2 A3.out).mono ?_); (case side1 => repeat (first | exact HR0.out | (with_reducible refine Kd.C_alloc ?_ _) | (with_reducible refine Kd.C_drewN ?_ _) | (with_reducible refine Kd.C_drew ?_))); (case side2 => exact HC0.out); rintro e w' ⟨rfl, ⟨nd, rfl⟩⟩; refine ⟨_, rfl, ?_⟩) | ((with_reducible refine gate_callee (f := 4) rfl ?_); refine goesL_ (some 27) rfl rfl Tryz.func4 (by kernel_rfl) rfl #[.slice A0 l0.length c0, .int .i64 2] rfl (by (try simp only [List.map_toArray, List.map_cons, List.map_nil]); first | done | rfl | (simp only [List.length_drop, List.length_take]; rfl)) ?_; (with_reducible refine (laws_at.calls _ _ l0 2 t466 _ ?side1 ?side2 A4.out).mono ?_); (case side1 => repeat (first | exact HR0.out | (with_reducible refine Kd.C_alloc ?_ _) | (with_reducible refine Kd.C_drewN ?_ _) | (with_reducible refine Kd.C_drew ?_))); (case side2 => exact HC0.out); rintro e w' ⟨rfl, ⟨nd, rfl⟩⟩; refine ⟨_, rfl, ?_⟩) | ((with_reducible refine gate_callee (f := 4) rfl ?_); refine goesL_ (some 31) rfl rfl Tryz.func4 (by kernel_rfl) rfl #[.slice A0 l0.length c0, .int .i64 3] rfl (by (try simp only [List.map_toArray, List.map_cons, List.map_nil]); first | done | rfl | (simp only [List.length_drop, List.length_take]; rfl)) ?_; (with_reducible refine (laws_at.calls _ _ l0 3 t467 _ ?side1 ?side2 A5.out).mono ?_); (case side1 => repeat (first | exact HR0.out | (with_reducible refine Kd.C_alloc ?_ _) | (with_reducible refine Kd.C_drewN ?_ _) | (with_reducible refine Kd.C_drew ?_))); (case side2 => exact HC0.out); rintro e w' ⟨rfl, ⟨nd, rfl⟩⟩; refine ⟨_, rfl, ?_⟩) | ((with_reducible refine gate_callee (f := 5) rfl ?_); refine goesL_ (some 34) rfl rfl Tryz.func5 (by kernel_rfl) rfl #[.int .i64 (wrap64 (1 + (Int.tmod t465 20)))] rfl (by (try simp only [List.map_toArray, List.map_cons, List.map_nil]); first | done | rfl | (simp only [List.length_drop, List.length_take]; rfl)) ?_; (with_reducible refine (laws_decimal.calls k (wrap64 (1 + (Int.tmod t465 20))) t468 _ A6.out).mono ?_); rintro e w20 ⟨rfl, hb⟩; refine ⟨_, rfl, ?_⟩; have n0_ := z0n (dU HB.out hb); clear HB; have HB := n0_; clear n0_; (try clear hb)) | ((with_reducible refine gate_callee (f := 5) rfl ?_); refine goesL_ (some 38) rfl rfl Tryz.func5 (by kernel_rfl) rfl #[.int .i64 (wrap64 (1 + (Int.tmod t466 9)))] rfl (by (try simp only [List.map_toArray, List.map_cons, List.map_nil]); first | done | rfl | (simp only [List.length_drop, List.length_take]; rfl)) ?_; (with_reducible refine (laws_decimal.calls k (wrap64 (1 + (Int.tmod t466 9))) t469 _ A9.out).mono ?_); rintro e w21 ⟨rfl, hb⟩; refine ⟨_, rfl, ?_⟩; have n0_ := z0n (dU HB.out hb); clear HB; have HB := n0_; clear n0_; (try clear hb)) | ((with_reducible refine gate_callee (f := 5) rfl ?_); refine goesL_ (some 42) rfl rfl Tryz.func5 (by kernel_rfl) rfl #[.int .i64 (Int.tmod t467 4)] rfl (by (try simp only [List.map_toArray, List.map_cons, List.map_nil]); first | done | rfl | (simp only [List.length_drop, List.length_take]; rfl)) ?_; (with_reducible refine (laws_decimal.calls k (Int.tmod t467 4) t470 _ A12.out).mono ?_); rintro e w22 ⟨rfl, hb⟩; refine ⟨_, rfl, ?_⟩; have n0_ := z0n (dU HB.out hb); clear HB; have HB := n0_; clear n0_; (try clear hb)) | ((with_reducible refine gate_callee (f := 6) rfl ?_); refine goesL_ (some 48) rfl rfl Tryz.func6 (by kernel_rfl) rfl #[.int .i64 (wrap64 (1 + (Int.tmod t465 20))), .int .i64 (wrap64 (1 + (Int.tmod t466 9)))] rfl (by (try simp only [List.map_toArray, List.map_cons, List.map_nil]); first | done | rfl | (simp only [List.length_drop, List.length_take]; rfl)) ?_; (with_reducible refine (impl_RampPicture.calls (wrap64 (1 + (Int.tmod t465 20))) (wrap64 (1 + (Int.tmod t466 9))) t471 t472 t473 t476 _ A15.out).mono ?_); rintro e w23 ⟨v474, rfl, ho0, hb⟩; refine ⟨_, rfl, ?_⟩; have n_ := a2 (Kd.R_lower ho0 (below_size (dV HB.out))) (dU HB.out hb); clear HB; obtain ⟨HO475, HB⟩ := n_; (try clear hb); (try clear ho0)) | ((with_reducible refine gate_dst (N := 7) rfl ?_); refine box_event rfl (N := 7) rfl (cs := #[.int .i64 0, .int .i64 0, .slice none 0 0]) (t := 27) (by first | (go_simp; done) | (go_simp; rfl)) ?_; intro gb477 hg w24 hbox hb; have n_ := a5 (x4n (rV HO475.out) hb) (dU HB.out hb) (hbox) (gE hg HB.out) (gE hg HB.out); clear HO475 HB; obtain ⟨HO475, HB, BK477, GW477, GE477⟩ := n_; have gi_477 := GEc.mk GE477.out; clear hb hbox hg; have hcz25_0 : w24.cell? ⟨gb477, 0, none⟩ = some (.int .i64 0) := (x3n BK477.out 0).trans rfl; have hcz25_1 : w24.cell? ⟨gb477, 1, none⟩ = some (.int .i64 0) := (x3n BK477.out 1).trans rfl; have hcz25_2 : w24.cell? ⟨gb477, 2, none⟩ = some (.slice none 0 0) := (x3n BK477.out 2).trans rfl; have hfz25_0 := x2n BK477.out 0; have hfz25_1 := x2n BK477.out 1; have hfz25_2 := x2n BK477.out 2; obtain ⟨Ao26, co26, eo26⟩ := Kd.R_slice HO475.out; subst eo26) | ((with_reducible refine gate_callee (f := 7) rfl ?_); refine goesL_ (some 53) rfl rfl Tryz.func7 (by kernel_rfl) rfl #[.int .i64 (Int.tmod t467 4)] rfl (by (try simp only [List.map_toArray, List.map_cons, List.map_nil]); first | done | rfl | (simp only [List.length_drop, List.length_take]; rfl)) ?_; (with_reducible refine (impl_BayerMatrix.calls k (Int.tmod t467 4) t478 t479 t480 t483 _ A16.out).mono ?_); rintro e w27 ⟨v481, rfl, ho0, hb⟩; refine ⟨_, rfl, ?_⟩; have n_ := a4 (Kd.R_elder' (by (with_reducible repeat (first | apply z8n | apply z9n | apply y1n)); exact (x6n (x1n (p := ⟨gb477, 2, none⟩) (x1n (p := ⟨gb477, 1, none⟩) (x1n (p := ⟨gb477, 0, none⟩) (x7n HO475.out BK477.out (by decide)) (fun _ hk => hk.2) (.int .i64 t471)) (fun _ hk => hk.2) (.int .i64 t472)) (fun _ hk => hk.2) (.slice Ao26 t473.length co26)) (fun _ h_ => h_.1))) (Kd.R_base ho0) hb) (Kd.R_lower (Kd.R_new' ho0 (Kd.R_lt (by (with_reducible repeat (first | apply z8n | apply z9n | apply y1n)); exact (x6n (x1n (p := ⟨gb477, 2, none⟩) (x1n (p := ⟨gb477, 1, none⟩) (x1n (p := ⟨gb477, 0, none⟩) (x7n HO475.out BK477.out (by decide)) (fun _ hk => hk.2) (.int .i64 t471)) (fun _ hk => hk.2) (.int .i64 t472)) (fun _ hk => hk.2) (.slice Ao26 t473.length co26)) (fun _ h_ => h_.1))))) (below_size (dV HB.out))) (blk_below (g := gb477) (o := .cells #[.int .i64 t471, .int .i64 t472, .slice Ao26 t473.length co26] 27 (0, 0)) (by (with_reducible repeat (first | refine z1n ?_ _ | refine z3n ?_ | refine z2n ?_ _)); refine blk_put (cs := #[.int .i64 t471, .int .i64 t472, .slice none 0 0]) ?_ 2 _ rfl; (with_reducible repeat (first | refine z1n ?_ _ | refine z3n ?_ | refine z2n ?_ _)); refine blk_put (cs := #[.int .i64 t471, .int .i64 0, .slice none 0 0]) ?_ 1 _ rfl; (with_reducible repeat (first | refine z1n ?_ _ | refine z3n ?_ | refine z2n ?_ _)); refine blk_put (cs := #[.int .i64 0, .int .i64 0, .slice none 0 0]) ?_ 0 _ rfl; (with_reducible repeat (first | refine z1n ?_ _ | refine z3n ?_ | refine z2n ?_ _)); exact BK477.out) hb) (dU HB.out hb); clear HO475 BK477 HB; obtain ⟨HO475, HO482, BK477, HB⟩ := n_; (try clear hb); (try clear ho0)) | ((with_reducible refine gate_dst (N := 9) rfl ?_); refine box_event rfl (N := 9) rfl (cs := #[.int .i64 0, .int .i64 0, .slice none 0 0]) (t := 31) (by first | (go_simp; done) | (go_simp; rfl)) ?_; intro gb484 hg w28 hbox hb; have n_ := a9 (x4n (rV HO475.out) hb) (x4n (rV HO482.out) hb) (bU BK477.out hb) (dU HB.out hb) (hbox) (gE hg HB.out) (gE hg HB.out) (nL hg BK477.out) (nG hg BK477.out); clear HO475 HO482 BK477 HB; obtain ⟨HO475, HO482, BK477, HB, BK484, GW484, GE484, NB477_484, NB484_477⟩ := n_; have gi_484 := GEc.mk GE484.out; clear hb hbox hg; have hnb29 := NB484_477.out; have hnc29 := NB477_484.out; have hcz30_0 : w28.cell? ⟨gb484, 0, none⟩ = some (.int .i64 0) := (x3n BK484.out 0).trans rfl; have hcz30_1 : w28.cell? ⟨gb484, 1, none⟩ = some (.int .i64 0) := (x3n BK484.out 1).trans rfl; have hcz30_2 : w28.cell? ⟨gb484, 2, none⟩ = some (.slice none 0 0) := (x3n BK484.out 2).trans rfl; have hfz30_0 := x2n BK484.out 0; have hfz30_1 := x2n BK484.out 1; have hfz30_2 := x2n BK484.out 2; obtain ⟨Ao31, co31, eo31⟩ := Kd.R_slice HO482.out; subst eo31; have hcz32_0 : w28.cell? ⟨gb477, 0, none⟩ = some (.int .i64 t471) := (x3n BK477.out 0).trans rfl; have hcz32_1 : w28.cell? ⟨gb477, 1, none⟩ = some (.int .i64 t472) := (x3n BK477.out 1).trans rfl; have hcz32_2 : w28.cell? ⟨gb477, 2, none⟩ = some (.slice Ao26 t473.length co26) := (x3n BK477.out 2).trans rfl; have hfz32_0 := x2n BK477.out 0; have hfz32_1 := x2n BK477.out 1; have hfz32_2 := x2n BK477.out 2) | ((with_reducible refine gate_callee (f := 8) rfl ?_); refine goesL_ (some 58) rfl rfl Tryz.func8 (by kernel_rfl) rfl #[.agg #[.int .i64 t478, .int .i64 t479, .slice Ao31 t480.length co31], .agg #[.int .i64 t471, .int .i64 t472, .slice Ao26 t473.length co26]] rfl (by (try simp only [List.map_toArray, List.map_cons, List.map_nil]); first | done | rfl | (simp only [List.length_drop, List.length_take]; rfl)) ?_; (with_reducible refine (impl_ScreenPicture.calls t478 t479 _ _ t480 t471 t472 _ _ t473 t485 t486 t487 _ ?side1 ?side2 ?side3 ?side4 A17.out).mono ?_); (case side1 => refine (Kd.R_reads' (e := 3) (base := w.heap.size) (ok := fun k_ => (True ∧ some k_ ≠ (.slice Ao26 t473.length co26 : Value).ownBlock)) (n := t480.length) (c := co31) ?_).2.2; exact (by (with_reducible repeat (first | apply z8n | apply z9n | apply y1n)); exact (x6n (x1n (p := ⟨gb484, 2, none⟩) (x1n (p := ⟨gb484, 1, none⟩) (x1n (p := ⟨gb484, 0, none⟩) (x7n HO482.out BK484.out (by decide)) (fun _ hk => hk.2) (.int .i64 t478)) (fun _ hk => hk.2) (.int .i64 t479)) (fun _ hk => hk.2) (.slice Ao31 t480.length co31)) (fun _ h_ => h_.1)))); (case side2 => exact (Kd.R_reads' HO482.out).2.1); (case side3 => refine (Kd.R_reads' (e := 3) (base := w.heap.size) (ok := fun k_ => (True ∧ some k_ ≠ (.slice Ao31 t480.length co31 : Value).ownBlock)) (n := t473.length) (c := co26) ?_).2.2; exact (by (with_reducible repeat (first | apply z8n | apply z9n | apply y1n)); exact (x6n (x1n (p := ⟨gb484, 2, none⟩) (x1n (p := ⟨gb484, 1, none⟩) (x1n (p := ⟨gb484, 0, none⟩) (x7n HO475.out BK484.out (by decide)) (fun _ hk => hk.2) (.int .i64 t478)) (fun _ hk => hk.2) (.int .i64 t479)) (fun _ hk => hk.2) (.slice Ao31 t480.length co31)) (fun _ h_ => h_.1)))); (case side4 => exact (Kd.R_reads' HO475.out).2.1); rintro e w33 ⟨v488, rfl, ho0, hb⟩; refine ⟨_, rfl, ?_⟩; have n_ := a6 (Kd.R_elder' (by (with_reducible repeat (first | apply z8n | apply z9n | apply y1n)); exact (x6n (x1n (p := ⟨gb484, 2, none⟩) (x1n (p := ⟨gb484, 1, none⟩) (x1n (p := ⟨gb484, 0, none⟩) (x7n HO475.out BK484.out (by decide)) (fun _ hk => hk.2) (.int .i64 t478)) (fun _ hk => hk.2) (.int .i64 t479)) (fun _ hk => hk.2) (.slice Ao31 t480.length co31)) (fun _ h_ => h_.1))) (Kd.R_base ho0) hb) (Kd.R_elder' (by (with_reducible repeat (first | apply z8n | apply z9n | apply y1n)); exact (x6n (x1n (p := ⟨gb484, 2, none⟩) (x1n (p := ⟨gb484, 1, none⟩) (x1n (p := ⟨gb484, 0, none⟩) (x7n HO482.out BK484.out (by decide)) (fun _ hk => hk.2) (.int .i64 t478)) (fun _ hk => hk.2) (.int .i64 t479)) (fun _ hk => hk.2) (.slice Ao31 t480.length co31)) (fun _ h_ => h_.1))) (Kd.R_base ho0) hb) (Kd.R_lower (Kd.R_new' (Kd.R_new' ho0 (Kd.R_lt (by (with_reducible repeat (first | apply z8n | apply z9n | apply y1n)); exact (x6n (x1n (p := ⟨gb484, 2, none⟩) (x1n (p := ⟨gb484, 1, none⟩) (x1n (p := ⟨gb484, 0, none⟩) (x7n HO475.out BK484.out (by decide)) (fun _ hk => hk.2) (.int .i64 t478)) (fun _ hk => hk.2) (.int .i64 t479)) (fun _ hk => hk.2) (.slice Ao31 t480.length co31)) (fun _ h_ => h_.1))))) (Kd.R_lt (by (with_reducible repeat (first | apply z8n | apply z9n | apply y1n)); exact (x6n (x1n (p := ⟨gb484, 2, none⟩) (x1n (p := ⟨gb484, 1, none⟩) (x1n (p := ⟨gb484, 0, none⟩) (x7n HO482.out BK484.out (by decide)) (fun _ hk => hk.2) (.int .i64 t478)) (fun _ hk => hk.2) (.int .i64 t479)) (fun _ hk => hk.2) (.slice Ao31 t480.length co31)) (fun _ h_ => h_.1))))) (below_size (dV HB.out))) (blk_below (g := gb477) (o := .cells #[.int .i64 t471, .int .i64 t472, .slice Ao26 t473.length co26] 27 (0, 0)) (by (with_reducible repeat (first | refine z1n ?_ _ | refine z3n ?_ | refine z2n ?_ _)); refine x8n ?_ NB477_484.out _; (with_reducible repeat (first | refine z1n ?_ _ | refine z3n ?_ | refine z2n ?_ _)); refine x8n ?_ NB477_484.out _; (with_reducible repeat (first | refine z1n ?_ _ | refine z3n ?_ | refine z2n ?_ _)); refine x8n ?_ NB477_484.out _; (with_reducible repeat (first | refine z1n ?_ _ | refine z3n ?_ | refine z2n ?_ _)); exact BK477.out) hb) (blk_below (g := gb484) (o := .cells #[.int .i64 t478, .int .i64 t479, .slice Ao31 t480.length co31] 31 (0, 0)) (by (with_reducible repeat (first | refine z1n ?_ _ | refine z3n ?_ | refine z2n ?_ _)); refine blk_put (cs := #[.int .i64 t478, .int .i64 t479, .slice none 0 0]) ?_ 2 _ rfl; (with_reducible repeat (first | refine z1n ?_ _ | refine z3n ?_ | refine z2n ?_ _)); refine blk_put (cs := #[.int .i64 t478, .int .i64 0, .slice none 0 0]) ?_ 1 _ rfl; (with_reducible repeat (first | refine z1n ?_ _ | refine z3n ?_ | refine z2n ?_ _)); refine blk_put (cs := #[.int .i64 0, .int .i64 0, .slice none 0 0]) ?_ 0 _ rfl; (with_reducible repeat (first | refine z1n ?_ _ | refine z3n ?_ | refine z2n ?_ _)); exact BK484.out) hb) (dU HB.out hb); clear HO475 HO482 BK477 BK484 HB; obtain ⟨HO475, HO482, HO489, BK477, BK484, HB⟩ := n_; (try clear hb); (try clear ho0)) | ((with_reducible refine gate_dst (N := 11) rfl ?_); refine box_event rfl (N := 11) rfl (cs := #[.int .i64 0, .int .i64 0, .slice none 0 0]) (t := 27) (by first | (go_simp; done) | (go_simp; rfl)) ?_; intro gb490 hg w34 hbox hb; have n_ := a13 (x4n (rV HO475.out) hb) (x4n (rV HO482.out) hb) (x4n (rV HO489.out) hb) (bU BK477.out hb) (bU BK484.out hb) (dU HB.out hb) (hbox) (gE hg HB.out) (gE hg HB.out) (nL hg BK477.out) (nG hg BK477.out) (nL hg BK484.out) (nG hg BK484.out); clear HO475 HO482 HO489 BK477 BK484 HB; obtain ⟨HO475, HO482, HO489, BK477, BK484, HB, BK490, GW490, GE490, NB477_490, NB490_477, NB484_490, NB490_484⟩ := n_; have gi_490 := GEc.mk GE490.out; clear hb hbox hg; have hnb35 := NB490_477.out; have hnc35 := NB477_490.out; have hnb36 := NB490_484.out; have hnc36 := NB484_490.out; have hcz37_0 : w34.cell? ⟨gb490, 0, none⟩ = some (.int .i64 0) := (x3n BK490.out 0).trans rfl; have hcz37_1 : w34.cell? ⟨gb490, 1, none⟩ = some (.int .i64 0) := (x3n BK490.out 1).trans rfl; have hcz37_2 : w34.cell? ⟨gb490, 2, none⟩ = some (.slice none 0 0) := (x3n BK490.out 2).trans rfl; have hfz37_0 := x2n BK490.out 0; have hfz37_1 := x2n BK490.out 1; have hfz37_2 := x2n BK490.out 2; obtain ⟨Ao38, co38, eo38⟩ := Kd.R_slice HO489.out; subst eo38) | ((with_reducible refine gate_callee (f := 9) rfl ?_); refine goesL_ (some 61) rfl rfl Tryz.func9 (by kernel_rfl) rfl #[.agg #[.int .i64 t485, .int .i64 t486, .slice Ao38 t487.length co38]] rfl (by (try simp only [List.map_toArray, List.map_cons, List.map_nil]); first | done | rfl | (simp only [List.length_drop, List.length_take]; rfl)) ?_; (with_reducible refine (impl_MeanOf.calls k t485 t486 _ _ t487 t491 t492 _ ?side1 ?side2 A18.out).mono ?_); (case side1 => refine (Kd.R_reads' (e := 3) (base := w.heap.size) (ok := fun k_ => ((True ∧ some k_ ≠ (.slice Ao26 t473.length co26 : Value).ownBlock) ∧ some k_ ≠ (.slice Ao31 t480.length co31 : Value).ownBlock)) (n := t487.length) (c := co38) ?_).2.2; exact (by (with_reducible repeat (first | apply z8n | apply z9n | apply y1n)); exact (x6n (x1n (p := ⟨gb490, 2, none⟩) (x1n (p := ⟨gb490, 1, none⟩) (x1n (p := ⟨gb490, 0, none⟩) (x7n HO489.out BK490.out (by decide)) (fun _ hk => hk.2) (.int .i64 t485)) (fun _ hk => hk.2) (.int .i64 t486)) (fun _ hk => hk.2) (.slice Ao38 t487.length co38)) (fun _ h_ => h_.1)))); (case side2 => exact (Kd.R_reads' HO489.out).2.1); rintro e w39 ⟨rfl, hb⟩; refine ⟨_, rfl, ?_⟩; have n_ := a7 (x4n (by (with_reducible repeat (first | apply z8n | apply z9n | apply y1n)); exact (x6n (x1n (p := ⟨gb490, 2, none⟩) (x1n (p := ⟨gb490, 1, none⟩) (x1n (p := ⟨gb490, 0, none⟩) (x7n HO475.out BK490.out (by decide)) (fun _ hk => hk.2) (.int .i64 t485)) (fun _ hk => hk.2) (.int .i64 t486)) (fun _ hk => hk.2) (.slice Ao38 t487.length co38)) (fun _ h_ => h_.1))) hb) (x4n (by (with_reducible repeat (first | apply z8n | apply z9n | apply y1n)); exact (x6n (x1n (p := ⟨gb490, 2, none⟩) (x1n (p := ⟨gb490, 1, none⟩) (x1n (p := ⟨gb490, 0, none⟩) (x7n HO482.out BK490.out (by decide)) (fun _ hk => hk.2) (.int .i64 t485)) (fun _ hk => hk.2) (.int .i64 t486)) (fun _ hk => hk.2) (.slice Ao38 t487.length co38)) (fun _ h_ => h_.1))) hb) (x4n (by (with_reducible repeat (first | apply z8n | apply z9n | apply y1n)); exact (x6n (x1n (p := ⟨gb490, 2, none⟩) (x1n (p := ⟨gb490, 1, none⟩) (x1n (p := ⟨gb490, 0, none⟩) (x7n HO489.out BK490.out (by decide)) (fun _ hk => hk.2) (.int .i64 t485)) (fun _ hk => hk.2) (.int .i64 t486)) (fun _ hk => hk.2) (.slice Ao38 t487.length co38)) (fun _ h_ => h_.1))) hb) (blk_below (g := gb477) (o := .cells #[.int .i64 t471, .int .i64 t472, .slice Ao26 t473.length co26] 27 (0, 0)) (by (with_reducible repeat (first | refine z1n ?_ _ | refine z3n ?_ | refine z2n ?_ _)); refine x8n ?_ NB477_490.out _; (with_reducible repeat (first | refine z1n ?_ _ | refine z3n ?_ | refine z2n ?_ _)); refine x8n ?_ NB477_490.out _; (with_reducible repeat (first | refine z1n ?_ _ | refine z3n ?_ | refine z2n ?_ _)); refine x8n ?_ NB477_490.out _; (with_reducible repeat (first | refine z1n ?_ _ | refine z3n ?_ | refine z2n ?_ _)); exact BK477.out) hb) (blk_below (g := gb484) (o := .cells #[.int .i64 t478, .int .i64 t479, .slice Ao31 t480.length co31] 31 (0, 0)) (by (with_reducible repeat (first | refine z1n ?_ _ | refine z3n ?_ | refine z2n ?_ _)); refine x8n ?_ NB484_490.out _; (with_reducible repeat (first | refine z1n ?_ _ | refine z3n ?_ | refine z2n ?_ _)); refine x8n ?_ NB484_490.out _; (with_reducible repeat (first | refine z1n ?_ _ | refine z3n ?_ | refine z2n ?_ _)); refine x8n ?_ NB484_490.out _; (with_reducible repeat (first | refine z1n ?_ _ | refine z3n ?_ | refine z2n ?_ _)); exact BK484.out) hb) (blk_below (g := gb490) (o := .cells #[.int .i64 t485, .int .i64 t486, .slice Ao38 t487.length co38] 27 (0, 0)) (by (with_reducible repeat (first | refine z1n ?_ _ | refine z3n ?_ | refine z2n ?_ _)); refine blk_put (cs := #[.int .i64 t485, .int .i64 t486, .slice none 0 0]) ?_ 2 _ rfl; (with_reducible repeat (first | refine z1n ?_ _ | refine z3n ?_ | refine z2n ?_ _)); refine blk_put (cs := #[.int .i64 t485, .int .i64 0, .slice none 0 0]) ?_ 1 _ rfl; (with_reducible repeat (first | refine z1n ?_ _ | refine z3n ?_ | refine z2n ?_ _)); refine blk_put (cs := #[.int .i64 0, .int .i64 0, .slice none 0 0]) ?_ 0 _ rfl; (with_reducible repeat (first | refine z1n ?_ _ | refine z3n ?_ | refine z2n ?_ _)); exact BK490.out) hb) (dU HB.out hb); clear HO475 HO482 HO489 BK477 BK484 BK490 HB; obtain ⟨HO475, HO482, HO489, BK477, BK484, BK490, HB⟩ := n_; (try clear hb); have hcz40_0 : w39.cell? ⟨gb490, 0, none⟩ = some (.int .i64 t485) := (x3n BK490.out 0).trans rfl; have hcz40_1 : w39.cell? ⟨gb490, 1, none⟩ = some (.int .i64 t486) := (x3n BK490.out 1).trans rfl; have hcz40_2 : w39.cell? ⟨gb490, 2, none⟩ = some (.slice Ao38 t487.length co38) := (x3n BK490.out 2).trans rfl; have hfz40_0 := x2n BK490.out 0; have hfz40_1 := x2n BK490.out 1; have hfz40_2 := x2n BK490.out 2) | ((with_reducible refine gate_callee (f := 10) rfl ?_); refine goesL_ (some 65) rfl rfl Tryz.func10 (by kernel_rfl) rfl #[.agg #[.int .i64 t485, .int .i64 t486, .slice Ao38 t487.length co38]] rfl (by (try simp only [List.map_toArray, List.map_cons, List.map_nil]); first | done | rfl | (simp only [List.length_drop, List.length_take]; rfl)) ?_; (with_reducible refine (impl_DotText.calls k t485 t486 _ _ t487 t493 _ ?side1 ?side2 A19.out).mono ?_); (case side1 => repeat (first | exact (Kd.R_reads' HO489.out).2.2 | (with_reducible refine Kd.C_alloc ?_ _) | (with_reducible refine Kd.C_drewN ?_ _) | (with_reducible refine Kd.C_drew ?_))); (case side2 => exact (Kd.R_reads' HO489.out).2.1); rintro e w41 ⟨rfl, hb⟩; refine ⟨_, rfl, ?_⟩; have n_ := a7 (x4n (rV HO475.out) hb) (x4n (rV HO482.out) hb) (x4n (rV HO489.out) hb) (bU BK477.out hb) (bU BK484.out hb) (bU BK490.out hb) (dU HB.out hb); clear HO475 HO482 HO489 BK477 BK484 BK490 HB; obtain ⟨HO475, HO482, HO489, BK477, BK484, BK490, HB⟩ := n_; (try clear hb)) | ((with_reducible refine gate_dst (N := 66) rfl ?_); refine Kd.R_lit (Kd.int .u8) _ 5 ?hg (N := 66) ?hd (xs := ([] : List Int)) (inner := []) (ok := fun _ => True) (okp := fun _ => True) ?hr ?hp (fun _ hk => hk) trivial (Below.refl _ _) (Nat.le_refl _) (by simp) ?_; (case hd => rfl); (case hg => rfl); (case hr => first | (go_simp; done) | (go_simp; rfl)); (case hp => exact (Reps.none _ _)); intro v495 w42 ho43 hb hg_ hnew_; clear hg_ hnew_; (first | rw [← Ny494.out] at ho43 | (simp only [Int.reduceToNat] at ho43; rw [← Ny494.out] at ho43)); have n_ := a8 (x4n (rV HO475.out) hb) (x4n (rV HO482.out) hb) (x4n (rV HO489.out) hb) (Kd.R_lower ho43 (below_size (dV HB.out))) (bU BK477.out hb) (bU BK484.out hb) (bU BK490.out hb) (dU HB.out hb); clear HO475 HO482 HO489 BK477 BK484 BK490 HB; obtain ⟨HO475, HO482, HO489, HO496, BK477, BK484, BK490, HB⟩ := n_; clear hb ho43))
        go_loopg [15, 16] k (fun kq v15 v16 w' => ∃ (x15_1 : List Int) (x16_1 : Int), v16 = .int .i64 x16_1 ∧ Aside0 (laws_FnDesk.l0 kq (((((((⟨#[114, 97, 109, 112, 32]⟩ : ByteArray) ++ t468) ++ (⟨#[32]⟩ : ByteArray)) ++ t469) ++ (⟨#[10, 98, 97, 121, 101, 114, 32]⟩ : ByteArray)) ++ t470) ++ (⟨#[10, 115, 99, 114, 101, 101, 110, 10, 109, 101, 97, 110, 10, 10, 115, 104, 111, 119]⟩ : ByteArray)) t491 t492 t493 x15_1 x16_1 = some r) ∧ Aside0 (kq ≤ k) ∧ Aside0 (Kd.R (Kd.int .u8) 5 w' w.heap.size (fun _ => True) v15 x15_1) ∧ Aside0 (Kd.R (Kd.int .i64) 3 w' w.heap.size (fun k_ => some k_ ≠ ((.slice Ao31 t480.length co31) : Value).ownBlock ∧ some k_ ≠ ((.slice Ao38 t487.length co38) : Value).ownBlock) (.slice Ao26 t473.length co26) t473) ∧ Aside0 (Kd.R (Kd.int .i64) 3 w' w.heap.size (fun k_ => some k_ ≠ ((.slice Ao26 t473.length co26) : Value).ownBlock ∧ some k_ ≠ ((.slice Ao38 t487.length co38) : Value).ownBlock) (.slice Ao31 t480.length co31) t480) ∧ Aside0 (Kd.R (Kd.int .i64) 3 w' w.heap.size (fun k_ => some k_ ≠ ((.slice Ao26 t473.length co26) : Value).ownBlock ∧ some k_ ≠ ((.slice Ao31 t480.length co31) : Value).ownBlock) (.slice Ao38 t487.length co38) t487) ∧ Aside0 (w'.heap[gb477]? = some (.cells #[.int .i64 t471, .int .i64 t472, (.slice Ao26 t473.length co26)] 27 (0, 0))) ∧ Aside0 (w'.heap[gb484]? = some (.cells #[.int .i64 t478, .int .i64 t479, (.slice Ao31 t480.length co31)] 31 (0, 0))) ∧ Aside0 (w'.heap[gb490]? = some (.cells #[.int .i64 t485, .int .i64 t486, (.slice Ao38 t487.length co38)] 27 (0, 0))) ∧ Aside0 (Below w.heap.size w w'))
        case atStart => exact ⟨(y494), (0), (by first | rfl | (simp; done) | (simp [*]; done)), H', ⟨Nat.le_refl _⟩, ⟨by (with_reducible repeat (first | apply z8n | apply z9n | apply y1n)); exact HO496.out⟩, ⟨by (with_reducible repeat (first | apply z8n | apply z9n | apply y1n)); exact x6n HO475.out (fun _ hk => ⟨hk.1.2, hk.2⟩)⟩, ⟨by (with_reducible repeat (first | apply z8n | apply z9n | apply y1n)); exact x6n HO482.out (fun _ hk => ⟨hk.1.2, hk.2⟩)⟩, ⟨by (with_reducible repeat (first | apply z8n | apply z9n | apply y1n)); exact x6n HO489.out (fun _ hk => ⟨hk.1.2, hk.2⟩)⟩, ⟨by (with_reducible repeat (first | refine z1n ?_ _ | refine z3n ?_ | refine z2n ?_ _)); exact BK477.out⟩, ⟨by (with_reducible repeat (first | refine z1n ?_ _ | refine z3n ?_ | refine z2n ?_ _)); exact BK484.out⟩, ⟨by (with_reducible repeat (first | refine z1n ?_ _ | refine z3n ?_ | refine z2n ?_ _)); exact BK490.out⟩, ⟨dV HB.out⟩⟩
        case round =>
         clear H'
         try clear c1
         try clear c2
         try clear c2b0
         try clear c2b1
         try clear p2
         try clear c3
         try clear c4
         try clear c5
         try clear c6
         try clear p6
         try clear c7
         try clear c7b0
         try clear c7b1
         try clear c7b2
         try clear c8
         try clear c8b0
         try clear c8b1
         try clear c8b2
         try clear c9
         try clear c10
         try clear c10b0
         try clear c10b1
         try clear c10b2
         try clear c11
         try clear c11b0
         try clear c11b1
         try clear c11b2
         try clear c13
         try clear c13b0
         try clear c13b1
         try clear c13b2
         try clear c14
         try clear c14b0
         try clear c14b1
         try clear c14b2
         try clear c29
         try clear c35
         try clear c36
         try clear hcz25_0
         try clear hcz25_1
         try clear hcz25_2
         try clear hcz30_0
         try clear hcz30_1
         try clear hcz30_2
         try clear hcz32_0
         try clear hcz32_1
         try clear hcz32_2
         try clear hcz37_0
         try clear hcz37_1
         try clear hcz37_2
         try clear hcz40_0
         try clear hcz40_1
         try clear hcz40_2
         try clear hfz25_0
         try clear hfz25_1
         try clear hfz25_2
         try clear hfz30_0
         try clear hfz30_1
         try clear hfz30_2
         try clear hfz32_0
         try clear hfz32_1
         try clear hfz32_2
         try clear hfz37_0
         try clear hfz37_1
         try clear hfz37_2
         try clear hfz40_0
         try clear hfz40_1
         try clear hfz40_2
         obtain ⟨x15_1, x16_1, rfl, HA, HK1, HO_15, Ha_, Hb_, Hc_, BK477, BK484, BK490, HB⟩ := hrel
         cases gk with
         | zero => exact absurd HA.out (by simp [laws_FnDesk.l0])
         | succ k1 =>
          have H := HA.out
          clear HA
          simp only [laws_FnDesk.l0] at H
          by_cases c44 : x16_1 < (wrap64 ((t493.size : Int) - 1))
          ·rw [if_pos c44] at H
           have c44b0 : decide (x16_1 < (wrap64 ((t493.size : Int) - 1))) = true := decide_eq_true c44
           clear c44
           by_cases c45 : 0 ≤ x16_1
           ·rw [if_pos c45] at H
            have c45b0 : decide (0 ≤ x16_1) = true := decide_eq_true c45
            clear c45
            by_cases c46 : x16_1 < (t493.size : Int)
            ·rw [if_pos c46] at H
             have c46b0 : decide (x16_1 < (t493.size : Int)) = true := decide_eq_true c46
             clear c46
             by_cases c48 : (bt t493 x16_1) = 10
             ·rw [if_pos c48] at H
              have c48b0 : ((bt t493 x16_1) == 10) = true := beq_iff_eq.mpr c48
              have c48b1 : ((bt t493 x16_1) != 10) = false := bne_eq_false_iff_eq.mpr c48
              clear c48
              by_cases c49 : x15_1.length < 140737488355328
              ·rw [if_pos c49] at H
               have LMc49 := z0n c49
               clear c49
               obtain ⟨y497, hy497⟩ : ∃ y_ : List Int, y_ = (x15_1 ++ [47]) := ⟨_, rfl⟩
               replace H : (laws_FnDesk.l0 k1 (((((((⟨#[114, 97, 109, 112, 32]⟩ : ByteArray) ++ t468) ++ (⟨#[32]⟩ : ByteArray)) ++ t469) ++ (⟨#[10, 98, 97, 121, 101, 114, 32]⟩ : ByteArray)) ++ t470) ++ (⟨#[10, 115, 99, 114, 101, 101, 110, 10, 109, 101, 97, 110, 10, 10, 115, 104, 111, 119]⟩ : ByteArray)) t491 t492 t493 y497 (wrap64 (x16_1 + 1))) = some r := by first | (rw [hy497]; with_reducible exact H) | (have H2_ := (Option.bind_some _ _).symm.trans H; rw [hy497]; with_reducible exact H2_) | (have H2_ := (Option.bind_some _ _).symm.trans H; with_reducible exact H2_) | with_reducible exact H | (rw [hy497]; exact H) | exact H
               have Ny497 := z0n hy497
               clear hy497
               have H' := z0n H
               clear H
               have p47 : 0 ≤ (x16_1 : Int) := of_decide_eq_true (by first | (with_reducible assumption) | assumption)
               have q47 : x16_1 < (t493.size : Int) := of_decide_eq_true (by first | (with_reducible assumption) | assumption)
               have hx47 := bt_at t493 x16_1
               replace p47 := eq_true p47
               replace q47 := eq_true q47
               go_wp2_with (first | ((with_reducible refine gate_builtin (b := .append) (xs := #[.tmp 78, .tmp 79]) rfl ?_); at_builtin; refine Kd.R_append (Kd.int .u8) (w0 := w) w.heap.size rfl (.tmp 78) (.tmp 79) 22 5 (.int .u8 0) 1 rfl Tryz.underlying22 info5 rfl (by decide) (by omega) u15 x15_1 47 [.int .u8 47] (fun _ => True) (fun _ => False) rfl rfl ?aP (fun _ hk => hk.elim) ?aF ?aO ?aB ?aS ?aL ?_; (case aP => exact rfl); (case aB => exact (dV HB.out)); (case aF => exact (fun _ _ => trivial)); (case aO => exact (rV HO_15.out)); (case aS => exact (below_size (dV HB.out))); (case aL => have := LMc49.out; omega); intro v498 w50 ho hb hg hat; rw [← Ny497.out] at ho; have n_ := a8 (Kd.R_over' (rV Ha_.out) (Kd.R_typed (rV HO_15.out)) (by decide) hg) (Kd.R_over' (rV Hb_.out) (Kd.R_typed (rV HO_15.out)) (by decide) hg) (Kd.R_over' (rV Hc_.out) (Kd.R_typed (rV HO_15.out)) (by decide) hg) (blk_grown (bV BK477.out) hg (Kd.R_ne HO_15.out BK477.out (by decide))) (blk_grown (bV BK484.out) hg (Kd.R_ne HO_15.out BK484.out (by decide))) (blk_grown (bV BK490.out) hg (Kd.R_ne HO_15.out BK490.out (by decide))) (hb) (ho); clear Ha_ Hb_ Hc_ BK477 BK484 BK490 HB HO_15; obtain ⟨Ha_, Hb_, Hc_, BK477, BK484, BK490, HB, HO499⟩ := n_; clear ho hb hg hat))
               go_roundg k1
               case measure => have := HK1.out; omega
               case rel => exact ⟨(y497), (wrap64 (x16_1 + 1)), (by first | rfl | (simp; done) | (simp [*]; done)), H', ⟨by have := HK1.out; omega⟩, ⟨by (with_reducible repeat (first | apply z8n | apply z9n | apply y1n)); exact HO499.out⟩, ⟨by (with_reducible repeat (first | apply z8n | apply z9n | apply y1n)); exact Ha_.out⟩, ⟨by (with_reducible repeat (first | apply z8n | apply z9n | apply y1n)); exact Hb_.out⟩, ⟨by (with_reducible repeat (first | apply z8n | apply z9n | apply y1n)); exact Hc_.out⟩, ⟨by (with_reducible repeat (first | refine z1n ?_ _ | refine z3n ?_ | refine z2n ?_ _)); exact BK477.out⟩, ⟨by (with_reducible repeat (first | refine z1n ?_ _ | refine z3n ?_ | refine z2n ?_ _)); exact BK484.out⟩, ⟨by (with_reducible repeat (first | refine z1n ?_ _ | refine z3n ?_ | refine z2n ?_ _)); exact BK490.out⟩, ⟨dV HB.out⟩⟩
              ·rw [if_neg c49] at H
               exact absurd H (by simp)
             ·rw [if_neg c48] at H
              have c48b0 : ((bt t493 x16_1) == 10) = false := beq_eq_false_iff_ne.mpr c48
              have c48b1 : ((bt t493 x16_1) != 10) = true := bne_iff_ne.mpr c48
              by_cases c52 : x15_1.length < 140737488355328
              ·rw [if_pos c52] at H
               have LMc52 := z0n c52
               clear c52
               obtain ⟨y500, hy500⟩ : ∃ y_ : List Int, y_ = (x15_1 ++ [bt t493 x16_1]) := ⟨_, rfl⟩
               replace H : (laws_FnDesk.l0 k1 (((((((⟨#[114, 97, 109, 112, 32]⟩ : ByteArray) ++ t468) ++ (⟨#[32]⟩ : ByteArray)) ++ t469) ++ (⟨#[10, 98, 97, 121, 101, 114, 32]⟩ : ByteArray)) ++ t470) ++ (⟨#[10, 115, 99, 114, 101, 101, 110, 10, 109, 101, 97, 110, 10, 10, 115, 104, 111, 119]⟩ : ByteArray)) t491 t492 t493 y500 (wrap64 (x16_1 + 1))) = some r := by first | (rw [hy500]; with_reducible exact H) | (have H2_ := (Option.bind_some _ _).symm.trans H; rw [hy500]; with_reducible exact H2_) | (have H2_ := (Option.bind_some _ _).symm.trans H; with_reducible exact H2_) | with_reducible exact H | (rw [hy500]; exact H) | exact H
               have Ny500 := z0n hy500
               clear hy500
               have H' := z0n H
               clear H
               have p47 : 0 ≤ (x16_1 : Int) := of_decide_eq_true (by first | (with_reducible assumption) | assumption)
               have q47 : x16_1 < (t493.size : Int) := of_decide_eq_true (by first | (with_reducible assumption) | assumption)
               have hx47 := bt_at t493 x16_1
               replace p47 := eq_true p47
               replace q47 := eq_true q47
               have p51 : 0 ≤ (x16_1 : Int) := of_decide_eq_true (by first | (with_reducible assumption) | assumption)
               have q51 : x16_1 < (t493.size : Int) := of_decide_eq_true (by first | (with_reducible assumption) | assumption)
               have hx51 := bt_at t493 x16_1
               replace p51 := eq_true p51
               replace q51 := eq_true q51
               go_wp2_with (first | ((with_reducible refine gate_builtin (b := .append) (xs := #[.tmp 81, .tmp 85]) rfl ?_); at_builtin; refine Kd.R_append (Kd.int .u8) (w0 := w) w.heap.size rfl (.tmp 81) (.tmp 85) 22 5 (.int .u8 0) 1 rfl Tryz.underlying22 info5 rfl (by decide) (by omega) u15 x15_1 (bt t493 x16_1) [.int .u8 (bt t493 x16_1)] (fun _ => True) (fun _ => False) rfl rfl ?aP (fun _ hk => hk.elim) ?aF ?aO ?aB ?aS ?aL ?_; (case aP => exact rfl); (case aB => exact (dV HB.out)); (case aF => exact (fun _ _ => trivial)); (case aO => exact (rV HO_15.out)); (case aS => exact (below_size (dV HB.out))); (case aL => have := LMc52.out; omega); intro v501 w53 ho hb hg hat; rw [← Ny500.out] at ho; have n_ := a8 (Kd.R_over' (rV Ha_.out) (Kd.R_typed (rV HO_15.out)) (by decide) hg) (Kd.R_over' (rV Hb_.out) (Kd.R_typed (rV HO_15.out)) (by decide) hg) (Kd.R_over' (rV Hc_.out) (Kd.R_typed (rV HO_15.out)) (by decide) hg) (blk_grown (bV BK477.out) hg (Kd.R_ne HO_15.out BK477.out (by decide))) (blk_grown (bV BK484.out) hg (Kd.R_ne HO_15.out BK484.out (by decide))) (blk_grown (bV BK490.out) hg (Kd.R_ne HO_15.out BK490.out (by decide))) (hb) (ho); clear Ha_ Hb_ Hc_ BK477 BK484 BK490 HB HO_15; obtain ⟨Ha_, Hb_, Hc_, BK477, BK484, BK490, HB, HO502⟩ := n_; clear ho hb hg hat))
               go_roundg k1
               case measure => have := HK1.out; omega
               case rel => exact ⟨(y500), (wrap64 (x16_1 + 1)), (by first | rfl | (simp; done) | (simp [*]; done)), H', ⟨by have := HK1.out; omega⟩, ⟨by (with_reducible repeat (first | apply z8n | apply z9n | apply y1n)); exact HO502.out⟩, ⟨by (with_reducible repeat (first | apply z8n | apply z9n | apply y1n)); exact Ha_.out⟩, ⟨by (with_reducible repeat (first | apply z8n | apply z9n | apply y1n)); exact Hb_.out⟩, ⟨by (with_reducible repeat (first | apply z8n | apply z9n | apply y1n)); exact Hc_.out⟩, ⟨by (with_reducible repeat (first | refine z1n ?_ _ | refine z3n ?_ | refine z2n ?_ _)); exact BK477.out⟩, ⟨by (with_reducible repeat (first | refine z1n ?_ _ | refine z3n ?_ | refine z2n ?_ _)); exact BK484.out⟩, ⟨by (with_reducible repeat (first | refine z1n ?_ _ | refine z3n ?_ | refine z2n ?_ _)); exact BK490.out⟩, ⟨dV HB.out⟩⟩
              ·rw [if_neg c52] at H
               exact absurd H (by simp)
            ·rw [if_neg c46] at H
             exact absurd H (by simp)
           ·rw [if_neg c45] at H
            exact absurd H (by simp)
          ·rw [if_neg c44] at H
           have c44b0 : decide (x16_1 < (wrap64 ((t493.size : Int) - 1))) = false := decide_eq_false c44
           clear c44
           replace H := Option.bind_eq_some_iff.mp H
           obtain ⟨⟨t503, t504⟩, A540, H⟩ := H
           (try dsimp only at H)
           have A54 := z0n A540
           clear A540
           by_cases c55 : t504 = 6
           ·rw [if_pos c55] at H
            have c55b0 : (t504 == 6) = true := beq_iff_eq.mpr c55
            have c55b1 : (t504 != 6) = false := bne_eq_false_iff_eq.mpr c55
            clear c55
            replace H := Option.bind_eq_some_iff.mp H
            obtain ⟨t505, A560, H⟩ := H
            (try dsimp only at H)
            have A56 := z0n A560
            clear A560
            by_cases c57 : 9 + t505.size ≤ 9223372036854775807
            ·rw [if_pos c57] at H
             have c57b0 := eq_true c57
             have c57b1 : decide (9 + t505.size ≤ 9223372036854775807) = true := decide_eq_true c57
             try have c57b2 : (9223372036854775807 < 9 + t505.size) = False := eq_false (Nat.not_lt.2 c57)
             by_cases c58 : ((⟨#[111, 107, 10, 111, 107, 10, 111, 107, 10]⟩ : ByteArray) ++ t505).size + 1 ≤ 9223372036854775807
             ·rw [if_pos c58] at H
              have c58b0 := eq_true c58
              have c58b1 : decide (((⟨#[111, 107, 10, 111, 107, 10, 111, 107, 10]⟩ : ByteArray) ++ t505).size + 1 ≤ 9223372036854775807) = true := decide_eq_true c58
              try have c58b2 : (9223372036854775807 < ((⟨#[111, 107, 10, 111, 107, 10, 111, 107, 10]⟩ : ByteArray) ++ t505).size + 1) = False := eq_false (Nat.not_lt.2 c58)
              have c58b9 : (9223372036854775807 < 9 + t505.size + 1) = False := eq_false (by have z_ := c58; simp only [ByteArray.size_append] at z_; have : (⟨#[111, 107, 10, 111, 107, 10, 111, 107, 10]⟩ : ByteArray).size = 9 := rfl; omega)
              replace H := Option.bind_eq_some_iff.mp H
              obtain ⟨t506, A590, H⟩ := H
              (try dsimp only at H)
              have A59 := z0n A590
              clear A590
              by_cases c60 : (((⟨#[111, 107, 10, 111, 107, 10, 111, 107, 10]⟩ : ByteArray) ++ t505) ++ (⟨#[32]⟩ : ByteArray)).size + t506.size ≤ 9223372036854775807
              ·rw [if_pos c60] at H
               have c60b0 := eq_true c60
               have c60b1 : decide ((((⟨#[111, 107, 10, 111, 107, 10, 111, 107, 10]⟩ : ByteArray) ++ t505) ++ (⟨#[32]⟩ : ByteArray)).size + t506.size ≤ 9223372036854775807) = true := decide_eq_true c60
               try have c60b2 : (9223372036854775807 < (((⟨#[111, 107, 10, 111, 107, 10, 111, 107, 10]⟩ : ByteArray) ++ t505) ++ (⟨#[32]⟩ : ByteArray)).size + t506.size) = False := eq_false (Nat.not_lt.2 c60)
               have c60b9 : (9223372036854775807 < 9 + t505.size + 1 + t506.size) = False := eq_false (by have z_ := c60; simp only [ByteArray.size_append] at z_; have : (⟨#[111, 107, 10, 111, 107, 10, 111, 107, 10]⟩ : ByteArray).size = 9 := rfl; have : (⟨#[32]⟩ : ByteArray).size = 1 := rfl; omega)
               by_cases c61 : ((((⟨#[111, 107, 10, 111, 107, 10, 111, 107, 10]⟩ : ByteArray) ++ t505) ++ (⟨#[32]⟩ : ByteArray)) ++ t506).size + 1 ≤ 9223372036854775807
               ·rw [if_pos c61] at H
                have c61b0 := eq_true c61
                have c61b1 : decide (((((⟨#[111, 107, 10, 111, 107, 10, 111, 107, 10]⟩ : ByteArray) ++ t505) ++ (⟨#[32]⟩ : ByteArray)) ++ t506).size + 1 ≤ 9223372036854775807) = true := decide_eq_true c61
                try have c61b2 : (9223372036854775807 < ((((⟨#[111, 107, 10, 111, 107, 10, 111, 107, 10]⟩ : ByteArray) ++ t505) ++ (⟨#[32]⟩ : ByteArray)) ++ t506).size + 1) = False := eq_false (Nat.not_lt.2 c61)
                have c61b9 : (9223372036854775807 < 9 + t505.size + 1 + t506.size + 1) = False := eq_false (by have z_ := c61; simp only [ByteArray.size_append] at z_; have : (⟨#[111, 107, 10, 111, 107, 10, 111, 107, 10]⟩ : ByteArray).size = 9 := rfl; have : (⟨#[32]⟩ : ByteArray).size = 1 := rfl; omega)
                by_cases c62 : (((((⟨#[111, 107, 10, 111, 107, 10, 111, 107, 10]⟩ : ByteArray) ++ t505) ++ (⟨#[32]⟩ : ByteArray)) ++ t506) ++ (⟨#[10]⟩ : ByteArray)).size + (strOfNums x15_1).size ≤ 9223372036854775807
                ·rw [if_pos c62] at H
                 have c62b0 := eq_true c62
                 have c62b1 : decide ((((((⟨#[111, 107, 10, 111, 107, 10, 111, 107, 10]⟩ : ByteArray) ++ t505) ++ (⟨#[32]⟩ : ByteArray)) ++ t506) ++ (⟨#[10]⟩ : ByteArray)).size + (strOfNums x15_1).size ≤ 9223372036854775807) = true := decide_eq_true c62
                 try have c62b2 : (9223372036854775807 < (((((⟨#[111, 107, 10, 111, 107, 10, 111, 107, 10]⟩ : ByteArray) ++ t505) ++ (⟨#[32]⟩ : ByteArray)) ++ t506) ++ (⟨#[10]⟩ : ByteArray)).size + (strOfNums x15_1).size) = False := eq_false (Nat.not_lt.2 c62)
                 have c62b9 : (9223372036854775807 < 9 + t505.size + 1 + t506.size + 1 + (strOfNums x15_1).size) = False := eq_false (by have z_ := c62; simp only [ByteArray.size_append] at z_; have : (⟨#[111, 107, 10, 111, 107, 10, 111, 107, 10]⟩ : ByteArray).size = 9 := rfl; have : (⟨#[32]⟩ : ByteArray).size = 1 := rfl; have : (⟨#[10]⟩ : ByteArray).size = 1 := rfl; omega)
                 by_cases c63 : ((((((⟨#[111, 107, 10, 111, 107, 10, 111, 107, 10]⟩ : ByteArray) ++ t505) ++ (⟨#[32]⟩ : ByteArray)) ++ t506) ++ (⟨#[10]⟩ : ByteArray)) ++ (strOfNums x15_1)).size + 1 ≤ 9223372036854775807
                 ·rw [if_pos c63] at H
                  have c63b0 := eq_true c63
                  have c63b1 : decide (((((((⟨#[111, 107, 10, 111, 107, 10, 111, 107, 10]⟩ : ByteArray) ++ t505) ++ (⟨#[32]⟩ : ByteArray)) ++ t506) ++ (⟨#[10]⟩ : ByteArray)) ++ (strOfNums x15_1)).size + 1 ≤ 9223372036854775807) = true := decide_eq_true c63
                  try have c63b2 : (9223372036854775807 < ((((((⟨#[111, 107, 10, 111, 107, 10, 111, 107, 10]⟩ : ByteArray) ++ t505) ++ (⟨#[32]⟩ : ByteArray)) ++ t506) ++ (⟨#[10]⟩ : ByteArray)) ++ (strOfNums x15_1)).size + 1) = False := eq_false (Nat.not_lt.2 c63)
                  have c63b9 : (9223372036854775807 < 9 + t505.size + 1 + t506.size + 1 + (strOfNums x15_1).size + 1) = False := eq_false (by have z_ := c63; simp only [ByteArray.size_append] at z_; have : (⟨#[111, 107, 10, 111, 107, 10, 111, 107, 10]⟩ : ByteArray).size = 9 := rfl; have : (⟨#[32]⟩ : ByteArray).size = 1 := rfl; have : (⟨#[10]⟩ : ByteArray).size = 1 := rfl; omega)
                  obtain rfl := Option.some.inj H
                  try go_wp2_with (first | ((with_reducible refine gate_callee (f := 11) rfl ?_); refine goesL_ (some 89) rfl rfl Tryz.func11 (by kernel_rfl) rfl #[.string (((((((⟨#[114, 97, 109, 112, 32]⟩ : ByteArray) ++ t468) ++ (⟨#[32]⟩ : ByteArray)) ++ t469) ++ (⟨#[10, 98, 97, 121, 101, 114, 32]⟩ : ByteArray)) ++ t470) ++ (⟨#[10, 115, 99, 114, 101, 101, 110, 10, 109, 101, 97, 110, 10, 10, 115, 104, 111, 119]⟩ : ByteArray))] rfl (by (try simp only [List.map_toArray, List.map_cons, List.map_nil]); first | done | rfl | (simp only [List.length_drop, List.length_take]; rfl)) ?_; (with_reducible refine (impl_RunScript.calls k1 (((((((⟨#[114, 97, 109, 112, 32]⟩ : ByteArray) ++ t468) ++ (⟨#[32]⟩ : ByteArray)) ++ t469) ++ (⟨#[10, 98, 97, 121, 101, 114, 32]⟩ : ByteArray)) ++ t470) ++ (⟨#[10, 115, 99, 114, 101, 101, 110, 10, 109, 101, 97, 110, 10, 10, 115, 104, 111, 119]⟩ : ByteArray)) t503 t504 _ ?side1 A54.out).mono ?_); (case side1 => exact Ext.Glob.below HGB_.out (dV HB.out)); rintro e w64 ⟨rfl, hb⟩; refine ⟨_, rfl, ?_⟩; have n_ := a8 (x4n (rV HO_15.out) hb) (x4n (rV Ha_.out) hb) (x4n (rV Hb_.out) hb) (x4n (rV Hc_.out) hb) (bU BK477.out hb) (bU BK484.out hb) (bU BK490.out hb) (dU HB.out hb); clear HO_15 Ha_ Hb_ Hc_ BK477 BK484 BK490 HB; obtain ⟨HO_15, Ha_, Hb_, Hc_, BK477, BK484, BK490, HB⟩ := n_; (try clear hb)))
                  have n_ := a8 (y1n HO_15.out) (y1n Ha_.out) (y1n Hb_.out) (y1n Hc_.out) (z3n BK477.out) (z3n BK484.out) (z3n BK490.out) (below_drew1 HB.out); clear HO_15 Ha_ Hb_ Hc_ BK477 BK484 BK490 HB; obtain ⟨HO_15, Ha_, Hb_, Hc_, BK477, BK484, BK490, HB⟩ := n_
                  refine start_ (n := 19) (S := fun w' => (convert 22 9 u15).run Tryz.prog w' = .ok (.string (strOfNums x15_1)) w') (ds := []) (bsn_ 19 0) (by kernel_rfl) rfl rfl (own_string (P := Tryz.prog) Tryz.underlying22 Tryz.underlying5 Tryz.underlying9 (Kd.own_of_R HO_15.out)) (fun hHeld => ?_); refine with_tabW laws_FnDesk.tab20 laws_FnDesk.bits20 (fun HT_ HW_ => ?_)
                  generalize w64.drew = w65 at HO_15 Ha_ Hb_ Hc_ BK477 BK484 BK490 HB hHeld ⊢
                  refine pz 0 (some 92) ?_ (bsn_ 19 1) rfl rfl HT_.out (by kernel_rfl) (fun _ _ _ h => h) (Or.inl ⟨by rfl, ?_⟩) ?_ ?_ ?_
                  rotate_left
                  ·intro w'
                   go_simp
                   with_reducible rfl
                  rotate_left
                  ·simp only [Act.put, s1n_, s2n_, s3n_, i64_w, i32_w]
                   rfl
                  refine pz 1 (some 93) ?_ (bsn_ 19 3) rfl rfl HT_.out (by kernel_rfl) (fun _ _ _ h => h) (Or.inl ⟨by rfl, ?_⟩) ?_ ?_ ?_
                  rotate_left
                  ·intro w'
                   go_simp
                   with_reducible rfl
                  rotate_left
                  ·simp only [Act.put, s1n_, s2n_, s3n_, i64_w, i32_w]
                   rfl
                  refine pz 2 (some 94) ?_ (bsn_ 19 7) rfl rfl HT_.out (by kernel_rfl) (fun _ _ _ h => h) (Or.inl ⟨by rfl, ?_⟩) ?_ ?_ ?_
                  rotate_left
                  ·intro w'
                   go_simp
                   with_reducible rfl
                  rotate_left
                  ·simp only [Act.put, s1n_, s2n_, s3n_, i64_w, i32_w]
                   rfl
                  refine pz 3 (some 95) ?_ (bsn_ 19 15) rfl rfl HT_.out (by kernel_rfl) (fun _ _ _ h => h) (Or.inl ⟨by rfl, ?_⟩) ?_ ?_ ?_
                  rotate_left
                  ·intro w'
                   go_simp
                   with_reducible rfl
                  rotate_left
                  ·simp only [Act.put, s1n_, s2n_, s3n_, i64_w, i32_w]
                   rfl
                  refine pz 4 (some 96) ?_ (bsn_ 19 31) rfl rfl HT_.out (by kernel_rfl) (fun _ _ _ h => h) (Or.inl ⟨by rfl, ?_⟩) ?_ ?_ ?_
                  rotate_left
                  ·intro w'
                   go_simp
                   with_reducible rfl
                  rotate_left
                  ·simp only [Act.put, s1n_, s2n_, s3n_, i64_w, i32_w]
                   rfl
                  refine pz 8 (some 100) ?_ (bsn_ 19 287) rfl rfl HT_.out (by kernel_rfl) (fun _ _ _ h => h) (Or.inl ⟨by rfl, ?_⟩) ?_ ?_ ?_
                  rotate_left
                  ·intro w'
                   go_simp
                   with_reducible rfl
                  rotate_left
                  ·simp only [Act.put, s1n_, s2n_, s3n_, i64_w, i32_w]
                   rfl
                  refine pz 12 (some 104) ?_ (bsn_ 19 4383) rfl rfl HT_.out (by kernel_rfl) (fun _ _ _ h => h) (Or.inl ⟨by rfl, ?_⟩) ?_ ?_ ?_
                  rotate_left
                  ·intro w'
                   go_simp
                   with_reducible rfl
                  rotate_left
                  ·simp only [Act.put, s1n_, s2n_, s3n_, i64_w, i32_w]
                   rfl
                  refine take_ (i := 13) (N := some 105) (v := ?_) (a' := ?_) (bsn_ 19 12575) rfl rfl (take_ofW HT_.out HW_.out (by kernel_rfl)) (fun _ _ _ h => h) (Or.inl ⟨by rfl, ?_⟩) hHeld ?_ ?_
                  rotate_left
                  ·intro w' s0_
                   go_simp
                   with_reducible rfl
                  rotate_left
                  ·simp only [Act.put, s1n_, s2n_, s3n_, i64_w, i32_w]
                   rfl
                  refine one_ (i := 5) (N := some 97) (bsn_ 19 12607) rfl rfl (one_of HT_.out (by kernel_rfl)) (by decide) (fun K hK => ?_)
                  refine goes_ Tryz.func5 (by kernel_rfl) rfl #[.int .i64 t491] (by rfl) rfl rfl (by (try simp only [List.map_toArray, List.map_cons, List.map_nil]); first | done | rfl | (simp only [List.length_drop, List.length_take]; rfl)) ?_
                  with_reducible refine (laws_decimal.calls k1 t491 t505 _ A56.out).mono ?_
                  rintro e w66 ⟨rfl, hb⟩
                  refine ⟨_, rfl, ?_⟩
                  have n_ := a8 (x4n (rV HO_15.out) hb) (x4n (rV Ha_.out) hb) (x4n (rV Hb_.out) hb) (x4n (rV Hc_.out) hb) (bU BK477.out hb) (bU BK484.out hb) (bU BK490.out hb) (dU HB.out hb); clear HO_15 Ha_ Hb_ Hc_ BK477 BK484 BK490 HB; obtain ⟨HO_15, Ha_, Hb_, Hc_, BK477, BK484, BK490, HB⟩ := n_
                  (try clear hb)
                  refine hK.out _ _ (own_string (P := Tryz.prog) Tryz.underlying22 Tryz.underlying5 Tryz.underlying9 (Kd.own_of_R HO_15.out)) (fun hHeld => ?_)
                  clear hK K
                  refine norm_ (a' := ?_) ?_ ?_
                  rotate_left
                  ·show Act.put _ (some 97) _ = _
                   simp only [Act.put, s1n_, s2n_, s3n_, i64_w, i32_w]
                   rfl
                  refine pz 6 (some 98) ?_ (bsn_ 19 12671) rfl rfl HT_.out (by kernel_rfl) (fun _ _ _ h => h) (Or.inl ⟨by rfl, ?_⟩) ?_ ?_ ?_
                  rotate_left
                  ·intro w'
                   go_simp
                   with_reducible rfl
                  rotate_left
                  ·simp only [Act.put, s1n_, s2n_, s3n_, i64_w, i32_w]
                   rfl
                  refine pz 7 (some 99) ?_ (bsn_ 19 12799) rfl rfl HT_.out (by kernel_rfl) (fun _ _ _ h => h) (Or.inl ⟨by rfl, ?_⟩) ?_ ?_ ?_
                  rotate_left
                  ·intro w'
                   go_simp
                   with_reducible rfl
                  rotate_left
                  ·simp only [Act.put, s1n_, s2n_, s3n_, i64_w, i32_w]
                   rfl
                  refine one_ (i := 9) (N := some 101) (bsn_ 19 13311) rfl rfl (one_of HT_.out (by kernel_rfl)) (by decide) (fun K hK => ?_)
                  refine goes_ Tryz.func5 (by kernel_rfl) rfl #[.int .i64 t492] (by rfl) rfl rfl (by (try simp only [List.map_toArray, List.map_cons, List.map_nil]); first | done | rfl | (simp only [List.length_drop, List.length_take]; rfl)) ?_
                  with_reducible refine (laws_decimal.calls k1 t492 t506 _ A59.out).mono ?_
                  rintro e w67 ⟨rfl, hb⟩
                  refine ⟨_, rfl, ?_⟩
                  have n_ := a8 (x4n (rV HO_15.out) hb) (x4n (rV Ha_.out) hb) (x4n (rV Hb_.out) hb) (x4n (rV Hc_.out) hb) (bU BK477.out hb) (bU BK484.out hb) (bU BK490.out hb) (dU HB.out hb); clear HO_15 Ha_ Hb_ Hc_ BK477 BK484 BK490 HB; obtain ⟨HO_15, Ha_, Hb_, Hc_, BK477, BK484, BK490, HB⟩ := n_
                  (try clear hb)
                  have hcv68 := own_string (P := Tryz.prog) Tryz.underlying22 Tryz.underlying5 Tryz.underlying9 (Kd.own_of_R HO_15.out)
                  refine hK.out _ _ (own_string (P := Tryz.prog) Tryz.underlying22 Tryz.underlying5 Tryz.underlying9 (Kd.own_of_R HO_15.out)) (fun hHeld => ?_)
                  clear hK K
                  refine norm_ (a' := ?_) ?_ ?_
                  rotate_left
                  ·show Act.put _ (some 101) _ = _
                   simp only [Act.put, s1n_, s2n_, s3n_, i64_w, i32_w]
                   rfl
                  refine pz 10 (some 102) ?_ (bsn_ 19 14335) rfl rfl HT_.out (by kernel_rfl) (fun _ _ _ h => h) (Or.inl ⟨by rfl, ?_⟩) ?_ ?_ ?_
                  rotate_left
                  ·intro w'
                   go_simp
                   with_reducible rfl
                  rotate_left
                  ·simp only [Act.put, s1n_, s2n_, s3n_, i64_w, i32_w]
                   rfl
                  refine pz 11 (some 103) ?_ (bsn_ 19 16383) rfl rfl HT_.out (by kernel_rfl) (fun _ _ _ h => h) (Or.inl ⟨by rfl, ?_⟩) ?_ ?_ ?_
                  rotate_left
                  ·intro w'
                   go_simp
                   with_reducible rfl
                  rotate_left
                  ·simp only [Act.put, s1n_, s2n_, s3n_, i64_w, i32_w]
                   rfl
                  refine pz 14 (some 106) ?_ (bsn_ 19 32767) rfl rfl HT_.out (by kernel_rfl) (fun _ _ _ h => h) (Or.inl ⟨by rfl, ?_⟩) ?_ ?_ ?_
                  rotate_left
                  ·intro w'
                   go_simp
                   with_reducible rfl
                  rotate_left
                  ·simp only [Act.put, s1n_, s2n_, s3n_, i64_w, i32_w]
                   rfl
                  refine pz 15 (some 107) ?_ (bsn_ 19 65535) rfl rfl HT_.out (by kernel_rfl) (fun _ _ _ h => h) (Or.inl ⟨by rfl, ?_⟩) ?_ ?_ ?_
                  rotate_left
                  ·intro w'
                   go_simp
                   with_reducible rfl
                  rotate_left
                  ·simp only [Act.put, s1n_, s2n_, s3n_, i64_w, i32_w]
                   rfl
                  refine pz 16 (some 108) ?_ (bsn_ 19 131071) rfl rfl HT_.out (by kernel_rfl) (fun _ _ _ h => h) (Or.inl ⟨by rfl, ?_⟩) ?_ ?_ ?_
                  rotate_left
                  ·intro w'
                   go_simp
                   with_reducible rfl
                  rotate_left
                  ·simp only [Act.put, s1n_, s2n_, s3n_, i64_w, i32_w]
                   rfl
                  refine pz 17 (some 109) ?_ (bsn_ 19 262143) rfl rfl HT_.out (by kernel_rfl) (fun _ _ _ h => h) (Or.inl ⟨by rfl, ?_⟩) ?_ ?_ ?_
                  rotate_left
                  ·intro w'
                   go_simp
                   with_reducible rfl
                  rotate_left
                  ·simp only [Act.put, s1n_, s2n_, s3n_, i64_w, i32_w]
                   rfl
                  refine pz 18 (some 2) ?_ (bsn_ 19 524287) rfl rfl HT_.out (by kernel_rfl) (fun _ _ _ h => h) (Or.inl ⟨by rfl, ?_⟩) ?_ ?_ ?_
                  rotate_left
                  ·intro w'
                   go_simp
                   with_reducible rfl
                  rotate_left
                  ·simp only [Act.put, s1n_, s2n_, s3n_, i64_w, i32_w]
                   rfl
                  refine done_ (done_of HT_.out (by kernel_rfl)) ?_
                  try go_wp2
                  go_ret
                  exact ⟨by first | rfl | (simp [errW_none, errW_some] <;> rfl) | (simp [*, errW_none, errW_some] <;> rfl), dV HB.out⟩
                 ·rw [if_neg c63] at H
                  exact absurd H (by simp)
                ·rw [if_neg c62] at H
                 exact absurd H (by simp)
               ·rw [if_neg c61] at H
                exact absurd H (by simp)
              ·rw [if_neg c60] at H
               exact absurd H (by simp)
             ·rw [if_neg c58] at H
              exact absurd H (by simp)
            ·rw [if_neg c57] at H
             exact absurd H (by simp)
           ·rw [if_neg c55] at H
            have c55b0 : (t504 == 6) = false := beq_eq_false_iff_ne.mpr c55
            have c55b1 : (t504 != 6) = true := bne_iff_ne.mpr c55
            exact absurd (Option.some.inj H) (by rw [HRT_.out]; decide)
       ·rw [if_neg c14] at H
        exact absurd H (by simp)
      ·rw [if_neg c13] at H
       exact absurd H (by simp)
     ·rw [if_neg c11] at H
      exact absurd H (by simp)
    ·rw [if_neg c10] at H
     exact absurd H (by simp)
   ·rw [if_neg c8] at H
    exact absurd H (by simp)
  ·rw [if_neg c7] at H
   exact absurd H (by simp)

def laws_FnDesk.Pure : Prop := ∀ (l0 : List Int), l0.length ≤ maxLen → l0.length * 1 ≤ 140737488351232 → (∀ x ∈ l0, (Lit.int .u8 x).wf = true) → ∃ k, laws_FnDesk.f k l0 = some true
theorem laws_FnDesk.walk (P : laws_FnDesk.Pure) (a0 : Option Addr) (len0 cap0 : Nat) (z0 : List Int) (w : World) (hG_ : Ext.Glob w) (w0 : (a0 = none ∧ len0 = 0 ∧ cap0 = 0 ∧ z0 = []) ∨ ∃ x, a0 = some x ∧ len0 ≤ cap0 ∧ cap0 ≤ maxLen ∧ z0.length = cap0 ∧ (∀ i, i < z0.length → w.cell? (x.add i) = some (.int .u8 (z0.getD i 0))) ∧ ∀ n ∈ z0, (Lit.int .u8 n).wf = true) (y0 : len0 * 1 ≤ 140737488351232) :
  Calls Tryz.prog 3 #[.slice a0 len0 cap0] w fun e w' => e = .returned (.bool true) ∧ Below w.heap.size w w' := by
 obtain ⟨l0, rfl, hr0, hm0, hw0, hc0⟩ := ReadsInt.ofRowC w0
 obtain ⟨k, h⟩ := P l0 hm0 y0 hw0
 refine (laws_FnDesk.calls k _ _ l0 true w (Kd.C_of_reads (d := (0 : Int)) (h1 := fun _ => rfl) hr0) hc0 hG_ h).mono ?_
 rintro e w' ⟨rfl, hd⟩
 exact ⟨rfl, hd⟩

end Go.Proofs.YtkcgnnepgebekaaGreatDoor.PFnDesk
