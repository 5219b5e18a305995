/- Machine side of laws FnDesk: written for this claim by the kit's print program under this session's wip/tools/mp_setup.py (with contracts of the session's own, wip/ext). -/
import Derived.Test.YtkcgnnepgebekaaGreatDoorPFnDeskx0
namespace Go.Proofs.YtkcgnnepgebekaaGreatDoor.PFnDesk
open Go.RowKit Go.Proofs.YtkcgnnepgebekaaGreatDoorW.PrintWords Go.Proofs.YtkcgnnepgebekaaGreatDoorW.PrintLast Go.Proofs.YtkcgnnepgebekaaGreatDoorW.PrintMore
attribute [local go_sem] max2_int min2_int max_two min_two max_three min_three max_four min_four   -- for this text's walks alone
set_option linter.unusedVariables false
set_option linter.unusedSimpArgs false
-- squeezed: words under short names
set_option linter.defProp false in
def z0b := @Aside0.mk
set_option linter.defProp false in
def z1b := @blk_drewN
set_option linter.defProp false in
def z2b := @blk_alloc
set_option linter.defProp false in
def z3b := @blk_drew
set_option linter.defProp false in
def x2b := @blk_frozen
set_option linter.defProp false in
def x3b := @blk_cell
def bsb_ (n m : Nat) : Array Bool := ((List.range n).map fun i => m.testBit i).toArray
theorem s1b_ {α : Type} (l : List α) (i : Nat) (a : α) : l.toArray.setIfInBounds i a = (l.set i a).toArray := List.setIfInBounds_toArray l i a
theorem s2b_ {α : Type} (a b : α) (l : List α) : (a :: l).set 0 b = b :: l := rfl
theorem s3b_ {α : Type} (a b : α) (n : Nat) (l : List α) : (a :: l).set (n + 1) b = a :: l.set n b := rfl

def laws_at.f (l0 : List Int) (a1 : Int) : Option (Int) := if a1 < (l0.length : Int) then (if 0 ≤ a1 then (some (wrap64 (rd l0 a1))) else (none)) else (some (Int.tmod (wrap64 ((wrap64 (a1 * 37)) + (wrap64 ((l0.length : Int) * 11)))) 256))
set_option maxHeartbeats 8000000 in
set_option maxRecDepth 100000 in
theorem laws_at.calls (A0 : Option Addr) (c0 : Nat) (l0 : List Int) (a1 : Int) (r : Int) (w : World) (hr0 : Kd.C (Kd.int .u8) w A0 l0.length l0) (hc0 : l0.length ≤ c0) (h : laws_at.f l0 a1 = some r) :
  Calls Tryz.prog 4 #[.slice A0 l0.length c0, .int .i64 a1] w fun e w' => e = .returned (.int .i64 r) ∧ Drawn0 w w' := by
 have HR0 := z0b hr0
 have HC0 := z0b hc0
 clear hr0 hc0
 have H := h
 unfold laws_at.f at H
 clear h
 by_cases c3 : a1 < (l0.length : Int)
 ·rw [if_pos c3] at H
  have c3b0 : decide (a1 < (l0.length : Int)) = true := decide_eq_true c3
  clear c3
  by_cases c4 : 0 ≤ a1
  ·rw [if_pos c4] at H
   have c4b0 : decide (0 ≤ a1) = true := decide_eq_true c4
   clear c4
   obtain rfl := Option.some.inj H
   have p101 : 0 ≤ (a1 : Int) := of_decide_eq_true (by first | (with_reducible assumption) | assumption)
   have q101 : a1 < (l0.length : Int) := of_decide_eq_true (by first | (with_reducible assumption) | assumption)
   obtain ⟨ad101, e101, hx101_0⟩ := Kd.at_int HR0.out a1 p101 q101
   cases e101
   replace p101 := eq_true p101
   replace q101 := eq_true q101
   go_enter Tryz.func4, Tryz.ntmps4
   go_wp2
   go_ret
   exact ⟨by first | rfl | (simp; done) | (simp [*]; done), by repeat (first | exact Drawn0.refl _ | apply Drawn0.step)⟩
  ·rw [if_neg c4] at H
   exact absurd H (by simp)
 ·rw [if_neg c3] at H
  have c3b0 : decide (a1 < (l0.length : Int)) = false := decide_eq_false c3
  clear c3
  obtain rfl := Option.some.inj H
  go_enter Tryz.func4, Tryz.ntmps4
  go_wp2
  go_ret
  exact ⟨by first | rfl | (simp; done) | (simp [*]; done), by repeat (first | exact Drawn0.refl _ | apply Drawn0.step)⟩

mutual
def laws_decimal.l0 : Nat → Int → ByteArray → Option (ByteArray)
 | 0, _, _ => none
 | k + 1, x0, x3 => if x0 > 9 then ((some (([(wrap64 (48 + (Int.tmod x0 10))) % 256] : List Int) : List Int)).bind fun y103 => (if (strOfNums y103).size + x3.size ≤ 9223372036854775807 then (laws_decimal.l0 k (wrap64 (Int.tdiv x0 10)) ((strOfNums y103) ++ x3)) else (none))) else ((some (([(wrap64 (48 + x0)) % 256] : List Int) : List Int)).bind fun y106 => (if (strOfNums y106).size + x3.size ≤ 9223372036854775807 then (some ((strOfNums y106) ++ x3)) else (none)))
def laws_decimal.f : Nat → Int → Option (ByteArray)
 | 0, _ => none
 | k + 1, a0 => if a0 < 0 then ((laws_decimal.f k (wrap64 (-a0))).bind fun t102 => (if 1 + t102.size ≤ 9223372036854775807 then (some ((⟨#[45]⟩ : ByteArray) ++ t102)) else (none))) else (laws_decimal.l0 k a0 (⟨#[]⟩ : ByteArray))
end
set_option maxHeartbeats 8000000 in
set_option maxRecDepth 100000 in
theorem laws_decimal.calls (k : Nat) : ∀ (a0 : Int) (r : ByteArray) (w : World) (h : laws_decimal.f k a0 = some r),
  Calls Tryz.prog 5 #[.int .i64 a0] w fun e w' => e = .returned (.string r) ∧ Below w.heap.size w w' := by
 induction k using Nat.strongRecOn with
 | _ k ih =>
 intro a0 r w h
 cases k with
 | zero => exact absurd h (by simp [laws_decimal.f])
 | succ k =>
 simp only [laws_decimal.f] at h
 have HB := z0b (Below.refl w.heap.size w)
 have H : (if a0 < 0 then ((laws_decimal.f k (wrap64 (-a0))).bind fun t102 => (if 1 + t102.size ≤ 9223372036854775807 then (some ((⟨#[45]⟩ : ByteArray) ++ t102)) else (none))) else (laws_decimal.l0 k a0 (⟨#[]⟩ : ByteArray))) = some r := h
 clear h
 by_cases c2 : a0 < 0
 ·rw [if_pos c2] at H
  have c2b0 : decide (a0 < 0) = true := decide_eq_true c2
  clear c2
  replace H := Option.bind_eq_some_iff.mp H
  obtain ⟨t102, A30, H⟩ := H
  (try dsimp only at H)
  have A3 := z0b A30
  clear A30
  by_cases c4 : 1 + t102.size ≤ 9223372036854775807
  ·rw [if_pos c4] at H
   have c4b0 := eq_true c4
   have c4b1 : decide (1 + t102.size ≤ 9223372036854775807) = true := decide_eq_true c4
   try have c4b2 : (9223372036854775807 < 1 + t102.size) = False := eq_false (Nat.not_lt.2 c4)
   obtain rfl := Option.some.inj H
   go_enter Tryz.func5, Tryz.ntmps5
   go_wp2_with (first | ((with_reducible refine gate_callee (f := 5) rfl ?_); refine goesL_ (some 8) rfl rfl Tryz.func5 (by kernel_rfl) rfl #[.int .i64 (wrap64 (-a0))] rfl (by (try simp only [List.map_toArray, List.map_cons, List.map_nil]); first | done | rfl | (simp only [List.length_drop, List.length_take]; rfl)) ?_; (with_reducible refine (ih k (by omega) (wrap64 (-a0)) t102 _ A3.out).mono ?_); rintro e w5 ⟨rfl, hb⟩; refine ⟨_, rfl, ?_⟩; have n0_ := z0b (dU HB.out hb); clear HB; have HB := n0_; clear n0_; (try clear hb)))
   go_ret
   exact ⟨by first | rfl | (simp [errW_none, errW_some] <;> rfl) | (simp [*, errW_none, errW_some] <;> rfl), dV HB.out⟩
  ·rw [if_neg c4] at H
   exact absurd H (by simp)
 ·rw [if_neg c2] at H
  have c2b0 : decide (a0 < 0) = false := decide_eq_false c2
  clear c2
  have H' := z0b H
  clear H
  go_enter Tryz.func5, Tryz.ntmps5
  go_wp2
  go_loopg [0, 3] k (fun kq v0 v3 w' => ∃ (x0_1 : Int) (x3_1 : ByteArray), v0 = .int .i64 x0_1 ∧ v3 = .string x3_1 ∧ Aside0 (laws_decimal.l0 kq x0_1 x3_1 = some r) ∧ Aside0 (kq ≤ k) ∧ Aside0 (Below w.heap.size w w'))
  case atStart => exact ⟨(a0), ((⟨#[]⟩ : ByteArray)), (by first | rfl | (simp; done) | (simp [*]; done)), (by first | rfl | (simp; done) | (simp [*]; done)), H', ⟨Nat.le_refl _⟩, ⟨dV HB.out⟩⟩
  case round =>
   clear H'
   try clear c2
   try clear c2b0
   try clear p2
   try clear c4
   try clear c4b0
   try clear c4b1
   try clear c4b2
   try clear c5
   obtain ⟨x0_1, x3_1, rfl, rfl, HA, HK1, HB⟩ := hrel
   cases gk with
   | zero => exact absurd HA.out (by simp [laws_decimal.l0])
   | succ k1 =>
    have H := HA.out
    clear HA
    simp only [laws_decimal.l0] at H
    by_cases c6 : x0_1 > 9
    ·rw [if_pos c6] at H
     have c6b0 : decide (9 < x0_1) = true := decide_eq_true c6
     clear c6
     obtain ⟨y103, hy103⟩ : ∃ y_ : List Int, y_ = (([(wrap64 (48 + (Int.tmod x0_1 10))) % 256] : List Int)) := ⟨_, rfl⟩
     replace H : (if (strOfNums y103).size + x3_1.size ≤ 9223372036854775807 then (laws_decimal.l0 k1 (wrap64 (Int.tdiv x0_1 10)) ((strOfNums y103) ++ x3_1)) else (none)) = some r := by first | (rw [hy103]; with_reducible exact H) | (have H2_ := (Option.bind_some _ _).symm.trans H; rw [hy103]; with_reducible exact H2_) | (have H2_ := (Option.bind_some _ _).symm.trans H; with_reducible exact H2_) | with_reducible exact H | (rw [hy103]; exact H) | exact H
     have Ny103 := z0b hy103
     clear hy103
     by_cases c7 : (strOfNums y103).size + x3_1.size ≤ 9223372036854775807
     ·rw [if_pos c7] at H
      have c7b0 := eq_true c7
      have c7b1 : decide ((strOfNums y103).size + x3_1.size ≤ 9223372036854775807) = true := decide_eq_true c7
      try have c7b2 : (9223372036854775807 < (strOfNums y103).size + x3_1.size) = False := eq_false (Nat.not_lt.2 c7)
      have H' := z0b H
      clear H
      go_wp2_with (first | ((with_reducible refine gate_dst (N := 16) rfl ?_); refine Kd.R_lit (Kd.int .u8) _ 5 ?hg (N := 16) ?hd (xs := ([(wrap64 (48 + (Int.tmod x0_1 10))) % 256] : List Int)) (inner := [.int .u8 ((wrap64 (48 + (Int.tmod x0_1 10))) % 256)]) (ok := fun _ => True) (okp := fun _ => True) ?hr ?hp (fun _ hk => hk) trivial (Below.refl _ _) (Nat.le_refl _) (by simp) ?_; (case hd => rfl); (case hg => rfl); (case hr => first | (go_simp; done) | (go_simp; rfl)); (case hp => exact (Reps.one (show Kd.M (Kd.int .u8) _ _ _ ((wrap64 (48 + (Int.tmod x0_1 10))) % 256) [.int .u8 ((wrap64 (48 + (Int.tmod x0_1 10))) % 256)] from rfl) (Reps.none _ _))); intro v104 w8 ho9 hb hg_ hnew_; clear hg_ hnew_; (first | rw [← Ny103.out] at ho9 | (simp only [Int.reduceToNat] at ho9; rw [← Ny103.out] at ho9)); have n_ := a2 (Kd.R_lower ho9 (below_size (dV HB.out))) (dU HB.out hb); clear HB; obtain ⟨HO105, HB⟩ := n_; clear hb ho9; have hcv10 := own_string (P := Tryz.prog) Tryz.underlying22 Tryz.underlying5 Tryz.underlying9 (Kd.own_of_R HO105.out)))
      go_roundg k1
      case measure => have := HK1.out; omega
      case rel => exact ⟨(wrap64 (Int.tdiv x0_1 10)), ((strOfNums y103) ++ x3_1), (by first | rfl | (simp; done) | (simp [*]; done)), (by first | rfl | (simp; done) | (simp [*]; done)), H', ⟨by have := HK1.out; omega⟩, ⟨dV HB.out⟩⟩
     ·rw [if_neg c7] at H
      exact absurd H (by simp)
    ·rw [if_neg c6] at H
     have c6b0 : decide (9 < x0_1) = false := decide_eq_false c6
     clear c6
     obtain ⟨y106, hy106⟩ : ∃ y_ : List Int, y_ = (([(wrap64 (48 + x0_1)) % 256] : List Int)) := ⟨_, rfl⟩
     replace H : (if (strOfNums y106).size + x3_1.size ≤ 9223372036854775807 then (some ((strOfNums y106) ++ x3_1)) else (none)) = some r := by first | (rw [hy106]; with_reducible exact H) | (have H2_ := (Option.bind_some _ _).symm.trans H; rw [hy106]; with_reducible exact H2_) | (have H2_ := (Option.bind_some _ _).symm.trans H; with_reducible exact H2_) | with_reducible exact H | (rw [hy106]; exact H) | exact H
     have Ny106 := z0b hy106
     clear hy106
     by_cases c11 : (strOfNums y106).size + x3_1.size ≤ 9223372036854775807
     ·rw [if_pos c11] at H
      have c11b0 := eq_true c11
      have c11b1 : decide ((strOfNums y106).size + x3_1.size ≤ 9223372036854775807) = true := decide_eq_true c11
      try have c11b2 : (9223372036854775807 < (strOfNums y106).size + x3_1.size) = False := eq_false (Nat.not_lt.2 c11)
      obtain rfl := Option.some.inj H
      go_wp2_with (first | ((with_reducible refine gate_dst (N := 25) rfl ?_); refine Kd.R_lit (Kd.int .u8) _ 5 ?hg (N := 25) ?hd (xs := ([(wrap64 (48 + x0_1)) % 256] : List Int)) (inner := [.int .u8 ((wrap64 (48 + x0_1)) % 256)]) (ok := fun _ => True) (okp := fun _ => True) ?hr ?hp (fun _ hk => hk) trivial (Below.refl _ _) (Nat.le_refl _) (by simp) ?_; (case hd => rfl); (case hg => rfl); (case hr => first | (go_simp; done) | (go_simp; rfl)); (case hp => exact (Reps.one (show Kd.M (Kd.int .u8) _ _ _ ((wrap64 (48 + x0_1)) % 256) [.int .u8 ((wrap64 (48 + x0_1)) % 256)] from rfl) (Reps.none _ _))); intro v107 w12 ho13 hb hg_ hnew_; clear hg_ hnew_; (first | rw [← Ny106.out] at ho13 | (simp only [Int.reduceToNat] at ho13; rw [← Ny106.out] at ho13)); have n_ := a2 (Kd.R_lower ho13 (below_size (dV HB.out))) (dU HB.out hb); clear HB; obtain ⟨HO108, HB⟩ := n_; clear hb ho13; have hcv14 := own_string (P := Tryz.prog) Tryz.underlying22 Tryz.underlying5 Tryz.underlying9 (Kd.own_of_R HO108.out)))
      go_ret
      exact ⟨by first | rfl | (simp [errW_none, errW_some] <;> rfl) | (simp [*, errW_none, errW_some] <;> rfl), dV HB.out⟩
     ·rw [if_neg c11] at H
      exact absurd H (by simp)

def impl_sized.f (a0 : Int) (a1 : Int) : Option (Bool) := if a0 ≥ 1 then (if a0 ≤ 64 then (if a1 ≥ 1 then (if a1 ≤ 64 then (some (decide ((wrap64 (a0 * a1)) ≤ 1024))) else (some false)) else (some false)) else (some false)) else (some false)
set_option maxHeartbeats 8000000 in
set_option maxRecDepth 100000 in
theorem impl_sized.calls (a0 : Int) (a1 : Int) (r : Bool) (w : World) (h : impl_sized.f a0 a1 = some r) :
  Calls Tryz.prog 12 #[.int .i64 a0, .int .i64 a1] w fun e w' => e = .returned (.bool r) ∧ Drawn0 w w' := by
 have H := h
 unfold impl_sized.f at H
 clear h
 by_cases c3 : a0 ≥ 1
 ·rw [if_pos c3] at H
  have c3b0 : decide (1 ≤ a0) = true := decide_eq_true c3
  clear c3
  by_cases c4 : a0 ≤ 64
  ·rw [if_pos c4] at H
   have c4b0 : decide (a0 ≤ 64) = true := decide_eq_true c4
   clear c4
   by_cases c5 : a1 ≥ 1
   ·rw [if_pos c5] at H
    have c5b0 : decide (1 ≤ a1) = true := decide_eq_true c5
    clear c5
    by_cases c6 : a1 ≤ 64
    ·rw [if_pos c6] at H
     have c6b0 : decide (a1 ≤ 64) = true := decide_eq_true c6
     clear c6
     obtain rfl := Option.some.inj H
     go_enter Tryz.func12, Tryz.ntmps12
     go_wp2
     go_ret
     exact ⟨by first | rfl | (simp; done) | (simp [*]; done), by repeat (first | exact Drawn0.refl _ | apply Drawn0.step)⟩
    ·rw [if_neg c6] at H
     have c6b0 : decide (a1 ≤ 64) = false := decide_eq_false c6
     clear c6
     obtain rfl := Option.some.inj H
     go_enter Tryz.func12, Tryz.ntmps12
     go_wp2
     go_ret
     exact ⟨by first | rfl | (simp; done) | (simp [*]; done), by repeat (first | exact Drawn0.refl _ | apply Drawn0.step)⟩
   ·rw [if_neg c5] at H
    have c5b0 : decide (1 ≤ a1) = false := decide_eq_false c5
    clear c5
    obtain rfl := Option.some.inj H
    go_enter Tryz.func12, Tryz.ntmps12
    go_wp2
    go_ret
    exact ⟨by first | rfl | (simp; done) | (simp [*]; done), by repeat (first | exact Drawn0.refl _ | apply Drawn0.step)⟩
  ·rw [if_neg c4] at H
   have c4b0 : decide (a0 ≤ 64) = false := decide_eq_false c4
   clear c4
   obtain rfl := Option.some.inj H
   go_enter Tryz.func12, Tryz.ntmps12
   go_wp2
   go_ret
   exact ⟨by first | rfl | (simp; done) | (simp [*]; done), by repeat (first | exact Drawn0.refl _ | apply Drawn0.step)⟩
 ·rw [if_neg c3] at H
  have c3b0 : decide (1 ≤ a0) = false := decide_eq_false c3
  clear c3
  obtain rfl := Option.some.inj H
  go_enter Tryz.func12, Tryz.ntmps12
  go_wp2
  go_ret
  exact ⟨by first | rfl | (simp; done) | (simp [*]; done), by repeat (first | exact Drawn0.refl _ | apply Drawn0.step)⟩

mutual
def impl_drawn.l0 (AT : Int → Int → Option Int) : Nat → Int → Int → Int → Int → Int → List Int → Option (Int × Int × List Int)
 | 0, _, _, _, _, _, _ => none
 | k + 1, x0, x13, x14, x111000, x111001, x111002 => if x14 < x13 then (impl_drawn.l1 AT k x0 x14 x13 x14 x0 0 x111000 x111001 x111002) else (some (x111000, x111001, x111002))
def impl_drawn.l1 (AT : Int → Int → Option Int) : Nat → Int → Int → Int → Int → Int → Int → Int → Int → List Int → Option (Int × Int × List Int)
 | 0, _, _, _, _, _, _, _, _, _ => none
 | k + 1, x0, x8, x13, x14, x17, x18, x111000, x111001, x111002 => if x18 < x17 then ((AT x18 x8).bind fun t111 => (if x111002.length < 17592186044416 then (impl_drawn.l1 AT k x0 x8 x13 x14 x17 (wrap64 (x18 + 1)) x111000 x111001 (x111002 ++ [t111])) else (none))) else (impl_drawn.l0 AT k x0 x13 (wrap64 (x14 + 1)) x111000 x111001 x111002)
end
def impl_drawn.f (AT : Int → Int → Option Int) (k : Nat) (a0 : Int) (a1 : Int)  : Option (Int × Int × List Int) := impl_drawn.l0 AT k a0 a1 0 a0 a1 ([] : List Int)
def impl_drawn.T8 : Bool × List (List Nat × List Nat) := (true, [([], []), ([0], [0]), ([], []), ([], []), ([], []), ([2, 3, 4], [2, 3, 4]), ([5], [5]), ([1, 6, 5], [1, 6]), ([0, 1, 2, 3, 4, 5, 6, 7], []), ([8, 7, 7, 0, 1, 2, 3, 4, 5, 6, 7], [7, 8])])
def impl_drawn.B8 : List Nat := [0, 1, 0, 0, 0, 28, 60, 127, 255, 511]
theorem impl_drawn.tab8 : rtab .any (opsOf Tryz.f13 8) = impl_drawn.T8 := by kernel_rfl
theorem impl_drawn.bits8 : waitsOk impl_drawn.T8.2 impl_drawn.B8 = true := by kernel_rfl
set_option maxHeartbeats 8000000 in
set_option maxRecDepth 100000 in
theorem impl_drawn.calls (k : Nat) (a0 : Int) (a1 : Int) (AT : Int → Int → Option Int) (gF : Nat) (lbF : Array Value) (r1 : Int) (r2 : Int) (r3 : List Int) (w : World) (eF : ∀ args w, (callFunc gF args).run Tryz.prog w = .ok (.enter gF args) w) (hAT : ∀ (x y : Int) (r : Int) (W : World), Below w.heap.size w W → AT x y = some r → Calls Tryz.prog gF (#[.int .i64 x, .int .i64 y] ++ lbF) W fun e w' => e = .returned (.int .i64 r) ∧ Below W.heap.size W w') (h : impl_drawn.f AT k a0 a1  = some (r1, r2, r3)) :
  Calls Tryz.prog 13 #[.int .i64 a0, .int .i64 a1, .func (.func gF) #[] lbF] w fun e w' => ∃ v2_ : Value, e = .returned (.agg #[.int .i64 r1, .int .i64 r2, v2_]) ∧ Kd.R (Kd.int .i64) 3 w' w.heap.size (fun _ => True) v2_ r3 ∧ Below w.heap.size w w' := by
 have HEF := z0b eF
 have HAT := z0b hAT
 clear eF hAT
 have hu27 := Tryz.underlying27
 have HB := z0b (Below.refl w.heap.size w)
 have H := h
 unfold impl_drawn.f at H
 clear h
 have H' := z0b H
 clear H
 go_enter Tryz.func13, Tryz.ntmps13
 go_wp2_with (first | ((with_reducible refine gate_dst (N := 6) rfl ?_); refine box_event rfl (N := 6) rfl (cs := #[.int .i64 0, .int .i64 0, .slice none 0 0]) (t := 27) (by first | (go_simp; done) | (go_simp; rfl)) ?_; intro gb109 hg w4 hbox hb; have n_ := a4 (dU HB.out hb) (hbox) (gE hg HB.out) (gE hg HB.out); clear HB; obtain ⟨HB, BK109, GW109, GE109⟩ := n_; have gi_109 := GEc.mk GE109.out; clear hb hbox hg) | ((with_reducible refine gate_dst (N := 7) rfl ?_); refine box_event rfl (N := 7) rfl (cs := #[.int .i64 0, .int .i64 0, .slice none 0 0]) (t := 27) (by first | (go_simp; done) | (go_simp; rfl)) ?_; intro gb110 hg w5 hbox hb; have n_ := a7 (bU BK109.out hb) (dU HB.out hb) (hbox) (gE hg HB.out) (gE hg HB.out) (nL hg BK109.out) (nG hg BK109.out); clear BK109 HB; obtain ⟨BK109, HB, BK110, GW110, GE110, NB109_110, NB110_109⟩ := n_; have gi_110 := GEc.mk GE110.out; clear hb hbox hg; have hnb6 := NB110_109.out; have hnc6 := NB109_110.out; have hcz7_0 : w5.cell? ⟨gb110, 0, none⟩ = some (.int .i64 0) := (x3b BK110.out 0).trans rfl; have hcz7_1 : w5.cell? ⟨gb110, 1, none⟩ = some (.int .i64 0) := (x3b BK110.out 1).trans rfl; have hcz7_2 : w5.cell? ⟨gb110, 2, none⟩ = some (.slice none 0 0) := (x3b BK110.out 2).trans rfl; have hfz7_0 := x2b BK110.out 0; have hfz7_1 := x2b BK110.out 1; have hfz7_2 := x2b BK110.out 2))
 go_loopg [14] k (fun kq v14 w' => ∃ (x14_1 : Int) (x111002_1 : List Int) (u111002 : Value), v14 = .int .i64 x14_1 ∧ Aside0 (impl_drawn.l0 AT kq a0 a1 x14_1 a0 a1 x111002_1 = some (r1, r2, r3)) ∧ Aside0 (kq ≤ k) ∧ Aside0 (Kd.R (Kd.int .i64) 3 w' w.heap.size (fun _ => True) u111002 x111002_1) ∧ Aside0 (w'.heap[gb109]? = some (.cells #[.int .i64 0, .int .i64 0, (.slice none 0 0)] 27 (0, 0))) ∧ Aside0 (w'.heap[gb110]? = some (.cells #[.int .i64 a0, .int .i64 a1, u111002] 27 (0, 0))) ∧ Aside0 (Below w.heap.size w w'))
 case atStart => exact ⟨(0), (([] : List Int)), (.slice none 0 0), (by first | rfl | (simp; done) | (simp [*]; done)), H', ⟨Nat.le_refl _⟩, ⟨by first | exact Kd.R_nil _ _ _ _ _ | exact Kd.N_nil _ _ _ _ _ | exact Kd.V_nil _ _ _ _ _ | exact Kd.Q_nil _ _ _ _ _ | exact Kd.S_nil _ _ _ _ _⟩, ⟨by (with_reducible repeat (first | refine z1b ?_ _ | refine z3b ?_ | refine z2b ?_ _)); refine blk_far ?_ NB109_110.out _; (with_reducible repeat (first | refine z1b ?_ _ | refine z3b ?_ | refine z2b ?_ _)); refine blk_far ?_ NB109_110.out _; (with_reducible repeat (first | refine z1b ?_ _ | refine z3b ?_ | refine z2b ?_ _)); refine blk_far ?_ NB109_110.out _; (with_reducible repeat (first | refine z1b ?_ _ | refine z3b ?_ | refine z2b ?_ _)); exact BK109.out⟩, ⟨by (with_reducible repeat (first | refine z1b ?_ _ | refine z3b ?_ | refine z2b ?_ _)); refine blk_put (cs := #[.int .i64 a0, .int .i64 a1, .slice none 0 0]) ?_ 2 _ rfl; (with_reducible repeat (first | refine z1b ?_ _ | refine z3b ?_ | refine z2b ?_ _)); refine blk_put (cs := #[.int .i64 a0, .int .i64 0, .slice none 0 0]) ?_ 1 _ rfl; (with_reducible repeat (first | refine z1b ?_ _ | refine z3b ?_ | refine z2b ?_ _)); refine blk_put (cs := #[.int .i64 0, .int .i64 0, .slice none 0 0]) ?_ 0 _ rfl; (with_reducible repeat (first | refine z1b ?_ _ | refine z3b ?_ | refine z2b ?_ _)); exact BK110.out⟩, ⟨dV HB.out⟩⟩
 case round =>
  clear H'
  try clear c1
  try clear p2
  try clear c6
  try clear hcz7_0
  try clear hcz7_1
  try clear hcz7_2
  try clear hfz7_0
  try clear hfz7_1
  try clear hfz7_2
  obtain ⟨x14_1, x111002_1, u111002, rfl, HA, HK1, Ha_, BK109, BK110, HB⟩ := hrel
  cases gk with
  | zero => exact absurd HA.out (by simp [impl_drawn.l0])
  | succ k1 =>
   have H := HA.out
   clear HA
   simp only [impl_drawn.l0] at H
   by_cases c8 : x14_1 < a1
   ·rw [if_pos c8] at H
    have c8b0 : decide (x14_1 < a1) = true := decide_eq_true c8
    clear c8
    have H' := z0b H
    clear H
    go_wp2
    go_loopg [18] k1 (fun kq v18 w' => ∃ (x18_2 : Int) (x111002_2 : List Int) (u111002 : Value), v18 = .int .i64 x18_2 ∧ Aside0 (impl_drawn.l1 AT kq a0 x14_1 a1 x14_1 a0 x18_2 a0 a1 x111002_2 = some (r1, r2, r3)) ∧ Aside0 (kq ≤ k1) ∧ Aside0 (Kd.R (Kd.int .i64) 3 w' w.heap.size (fun _ => True) u111002 x111002_2) ∧ Aside0 (w'.heap[gb109]? = some (.cells #[.int .i64 0, .int .i64 0, (.slice none 0 0)] 27 (0, 0))) ∧ Aside0 (w'.heap[gb110]? = some (.cells #[.int .i64 a0, .int .i64 a1, u111002] 27 (0, 0))) ∧ Aside0 (Below w.heap.size w w'))
    case atStart => exact ⟨(0), (x111002_1), (u111002), (by first | rfl | (simp; done) | (simp [*]; done)), H', ⟨Nat.le_refl _⟩, ⟨by (with_reducible repeat (first | apply Kd.R_alloc | apply Kd.R_drewN | apply Kd.R_drew)); exact Ha_.out⟩, ⟨by (with_reducible repeat (first | refine z1b ?_ _ | refine z3b ?_ | refine z2b ?_ _)); exact BK109.out⟩, ⟨by (with_reducible repeat (first | refine z1b ?_ _ | refine z3b ?_ | refine z2b ?_ _)); exact BK110.out⟩, ⟨dV HB.out⟩⟩
    case round =>
     clear H'
     try clear c1
     try clear p2
     try clear c6
     try clear c8
     try clear c8b0
     try clear hcz7_0
     try clear hcz7_1
     try clear hcz7_2
     try clear hfz7_0
     try clear hfz7_1
     try clear hfz7_2
     try clear p2
     obtain ⟨x18_2, x111002_2, u111002, rfl, HA, HK2, Ha_, BK109, BK110, HB⟩ := hrel
     cases gk with
     | zero => exact absurd HA.out (by simp [impl_drawn.l1])
     | succ k2 =>
      have H := HA.out
      clear HA
      simp only [impl_drawn.l1] at H
      by_cases c9 : x18_2 < a0
      ·rw [if_pos c9] at H
       have c9b0 : decide (x18_2 < a0) = true := decide_eq_true c9
       clear c9
       replace H := Option.bind_eq_some_iff.mp H
       obtain ⟨t111, A100, H⟩ := H
       (try dsimp only at H)
       have A10 := z0b A100
       clear A100
       by_cases c11 : x111002_2.length < 17592186044416
       ·rw [if_pos c11] at H
        have LMc11 := z0b c11
        clear c11
        obtain ⟨y112, hy112⟩ : ∃ y_ : List Int, y_ = (x111002_2 ++ [t111]) := ⟨_, rfl⟩
        replace H : (impl_drawn.l1 AT k2 a0 x14_1 a1 x14_1 a0 (wrap64 (x18_2 + 1)) a0 a1 y112) = some (r1, r2, r3) := by first | (rw [hy112]; with_reducible exact H) | (have H2_ := (Option.bind_some _ _).symm.trans H; rw [hy112]; with_reducible exact H2_) | (have H2_ := (Option.bind_some _ _).symm.trans H; with_reducible exact H2_) | with_reducible exact H | (rw [hy112]; exact H) | exact H
        have Ny112 := z0b hy112
        clear hy112
        have H' := z0b H
        clear H
        try go_wp2
        have n_ := a4 (Kd.R_drew Ha_.out) (z3b BK109.out) (z3b BK110.out) (below_drew1 HB.out); clear Ha_ BK109 BK110 HB; obtain ⟨Ha_, BK109, BK110, HB⟩ := n_
        refine start_ (n := 10) (S := fun w' => w'.cell? ⟨gb110, 0, none⟩ = some (.int .i64 a0) ∧ w'.cell? ⟨gb110, 1, none⟩ = some (.int .i64 a1) ∧ w'.cell? ⟨gb110, 2, none⟩ = some (u111002)) (ds := [9]) (bsb_ 10 0) (by kernel_rfl) rfl rfl ⟨(x3b BK110.out 0).trans rfl, (x3b BK110.out 1).trans rfl, (x3b BK110.out 2).trans rfl⟩ (fun hHeld => ?_); refine with_tabW impl_drawn.tab8 impl_drawn.bits8 (fun HT_ HW_ => ?_)
        generalize wr.drew = w12 at Ha_ BK109 BK110 HB hHeld ⊢
        refine pz 0 (some 21) ?_ (bsb_ 10 1) rfl rfl HT_.out (by kernel_rfl) (fun _ _ _ h => h) (Or.inl ⟨by rfl, ?_⟩) ?_ ?_ ?_
        rotate_left
        ·intro w'
         go_simp
         with_reducible rfl
        rotate_left
        ·simp only [Act.put, s1b_, s2b_, s3b_, i64_w, i32_w]
         rfl
        refine pz 2 (some 23) ?_ (bsb_ 10 5) rfl rfl HT_.out (by kernel_rfl) (fun _ _ _ h => h) (Or.inl ⟨by rfl, ?_⟩) ?_ ?_ ?_
        rotate_left
        ·intro w'
         go_simp
         with_reducible rfl
        rotate_left
        ·simp only [Act.put, s1b_, s2b_, s3b_, i64_w, i32_w]
         rfl
        refine pz 3 (some 24) ?_ (bsb_ 10 13) rfl rfl HT_.out (by kernel_rfl) (fun _ _ _ h => h) (Or.inl ⟨by rfl, ?_⟩) ?_ ?_ ?_
        rotate_left
        ·intro w'
         go_simp
         with_reducible rfl
        rotate_left
        ·simp only [Act.put, s1b_, s2b_, s3b_, i64_w, i32_w]
         rfl
        refine pz 4 (some 25) ?_ (bsb_ 10 29) rfl rfl HT_.out (by kernel_rfl) (fun _ _ _ h => h) (Or.inl ⟨by rfl, ?_⟩) ?_ ?_ ?_
        rotate_left
        ·intro w'
         go_simp
         with_reducible rfl
        rotate_left
        ·simp only [Act.put, s1b_, s2b_, s3b_, i64_w, i32_w]
         rfl
        refine take_ (i := 1) (N := some 22) (v := ?_) (a' := ?_) (bsb_ 10 31) rfl rfl (take_ofW HT_.out HW_.out (by kernel_rfl)) (fun _ _ _ h => h) (Or.inl ⟨by rfl, ?_⟩) hHeld ?_ ?_
        rotate_left
        ·rintro w' ⟨s0, s1, s2⟩
         go_simp
         with_reducible rfl
        rotate_left
        ·simp only [Act.put, s1b_, s2b_, s3b_, i64_w, i32_w]
         rfl
        refine one_ (i := 5) (N := some 26) (bsb_ 10 63) rfl rfl (one_of HT_.out (by kernel_rfl)) (by decide) (fun K hK => ?_)
        refine Ext.goesV_ HEF.out #[.int .i64 x18_2, .int .i64 x14_1] (by rfl) rfl rfl rfl (by (try simp only [List.map_toArray, List.map_cons, List.map_nil]); first | done | rfl | (simp only [List.length_drop, List.length_take]; rfl)) ?_
        with_reducible refine (HAT.out x18_2 x14_1 t111 _ (dV HB.out) A10.out).mono ?_
        rintro e w13 ⟨rfl, hb⟩
        refine ⟨_, rfl, ?_⟩
        have n_ := a4 (Kd.R_below (rV Ha_.out) hb) (bU BK109.out hb) (bU BK110.out hb) (dU HB.out hb); clear Ha_ BK109 BK110 HB; obtain ⟨Ha_, BK109, BK110, HB⟩ := n_
        (try clear hb)
        refine hK.out _ _ ⟨(x3b BK110.out 0).trans rfl, (x3b BK110.out 1).trans rfl, (x3b BK110.out 2).trans rfl⟩ (fun hHeld => ?_)
        clear hK K
        refine norm_ (a' := ?_) ?_ ?_
        rotate_left
        ·show Act.put _ (some 26) _ = _
         simp only [Act.put, s1b_, s2b_, s3b_, i64_w, i32_w]
         rfl
        refine one_ (i := 6) (N := some 27) (bsb_ 10 127) rfl rfl (one_of HT_.out (by kernel_rfl)) (by decide) (fun K hK => ?_)
        refine value_ (w1 := ?_) (v := ?_) (by rfl) rfl ?_ ?_
        rotate_left 2
        ·go_simp
         constructor
         ·rfl
         ·rfl
        refine hK.out _ _ ⟨(x3b (z2b BK110.out _) 0).trans rfl, (x3b (z2b BK110.out _) 1).trans rfl, (x3b (z2b BK110.out _) 2).trans rfl⟩ (fun hHeld => ?_)
        clear hK K
        refine norm_ (a' := ?_) ?_ ?_
        rotate_left
        ·show Act.put _ (some 27) _ = _
         simp only [Act.put, s1b_, s2b_, s3b_, i64_w, i32_w]
         rfl
        refine one_ (i := 7) (N := some 28) (bsb_ 10 255) rfl rfl (one_of HT_.out (by kernel_rfl)) (by decide) (fun K hK => ?_)
        refine Kd.R_append_step (Kd.int .i64) (w0 := w) w.heap.size (by rfl) (.tmp 22) (.tmp 27) 25 3 (.int .i64 0) 8 rfl Tryz.underlying25 info3 rfl (by decide) (by omega) u111002 x111002_2 t111 [.int .i64 t111] (fun _ => True) (fun _ => False) rfl rfl ?aP (fun _ hk => hk.elim) ?aF ?aO ?aB ?aS ?aL ?_
        (case aP => exact rfl)
        (case aB => exact (dV HB.out))
        (case aF => exact (fun _ _ => trivial))
        (case aO => exact (rV Ha_.out))
        (case aS => exact (below_size (dV HB.out)))
        (case aL => have := LMc11.out; omega)
        intro v113 w14 ho hb hg hat
        rw [← Ny112.out] at ho
        have n_ := a4 (blk_grown (bV BK109.out) hg (Kd.R_ne Ha_.out BK109.out (by decide))) (blk_grown (bV BK110.out) hg (Kd.R_ne Ha_.out BK110.out (by decide))) (hb) (ho); clear BK109 BK110 HB Ha_; obtain ⟨BK109, BK110, HB, HO114⟩ := n_
        clear ho hb hg hat
        obtain ⟨Ao15, co15, eo15⟩ := Kd.R_slice HO114.out
        (first | subst eo15 | (injection eo15 with f1_ f2_ f3_; have f4_ := f1_.symm; have f5_ := f3_.symm; clear f1_ f2_ f3_; subst f4_; subst f5_))
        refine hK.out _ _ ⟨(x3b BK110.out 0).trans rfl, (x3b BK110.out 1).trans rfl, (x3b BK110.out 2).trans rfl⟩ (fun hHeld => ?_)
        clear hK K
        refine norm_ (a' := ?_) ?_ ?_
        rotate_left
        ·show Act.put _ (some 28) _ = _
         simp only [Act.put, s1b_, s2b_, s3b_, i64_w, i32_w]
         rfl
        refine pz 8 (some 29) ?_ (bsb_ 10 511) rfl rfl HT_.out (by kernel_rfl) (fun _ _ _ h => h) (Or.inl ⟨by rfl, ?_⟩) ?_ ?_ ?_
        rotate_left
        ·intro w'
         go_simp
         with_reducible rfl
        rotate_left
        ·simp only [Act.put, s1b_, s2b_, s3b_, i64_w, i32_w]
         rfl
        refine last_ (i := 9) (N := none) (bsb_ 10 1023) rfl rfl (one_of HT_.out (by kernel_rfl)) (by decide) (fun K hK => ?_)
        have hs16 : w14.cell? ⟨gb110, 2, none⟩ = some (u111002) := (x3b BK110.out 2).trans rfl
        have hfs16 := x2b BK110.out 2
        have hns16_0 := NB109_110.out
        have hms16_0 := NB110_109.out
        refine skip_ (w1 := ?_) (by rfl) rfl ?_ ?_
        rotate_left
        ·go_simp
         rfl
        refine hK.out _ _ ?_
        clear hK K
        refine done_ (done_of HT_.out (by kernel_rfl)) ?_
        try go_wp2
        go_roundg k2
        case measure => have := HK1.out; have := HK2.out; omega
        case rel => exact ⟨(wrap64 (x18_2 + 1)), (y112), (.slice Ao15 y112.length co15), (by first | rfl | (simp; done) | (simp [*]; done)), H', ⟨by have := HK1.out; have := HK2.out; omega⟩, ⟨by (with_reducible repeat (first | apply Kd.R_alloc | apply Kd.R_drewN | apply Kd.R_drew)); exact Kd.R_mono (Kd.R_far (p := ⟨gb110, 2, none⟩) (Kd.R_types HO114.out BK110.out (by decide)) (fun _ hk => hk.2) (.slice Ao15 y112.length co15)) (fun _ hk => trivial)⟩, ⟨by (with_reducible repeat (first | refine z1b ?_ _ | refine z3b ?_ | refine z2b ?_ _)); refine blk_far ?_ NB109_110.out _; (with_reducible repeat (first | refine z1b ?_ _ | refine z3b ?_ | refine z2b ?_ _)); exact BK109.out⟩, ⟨by (with_reducible repeat (first | refine z1b ?_ _ | refine z3b ?_ | refine z2b ?_ _)); refine blk_put (cs := #[.int .i64 a0, .int .i64 a1, u111002]) ?_ 2 _ rfl; (with_reducible repeat (first | refine z1b ?_ _ | refine z3b ?_ | refine z2b ?_ _)); exact BK110.out⟩, ⟨dV HB.out⟩⟩
       ·rw [if_neg c11] at H
        exact absurd H (by simp)
      ·rw [if_neg c9] at H
       have c9b0 : decide (x18_2 < a0) = false := decide_eq_false c9
       clear c9
       have H' := z0b H
       clear H
       go_wp2
       go_roundg k2
       case measure => have := HK1.out; have := HK2.out; omega
       case rel => exact ⟨(wrap64 (x14_1 + 1)), (x111002_2), (u111002), (by first | rfl | (simp; done) | (simp [*]; done)), H', ⟨by have := HK1.out; have := HK2.out; omega⟩, ⟨by (with_reducible repeat (first | apply Kd.R_alloc | apply Kd.R_drewN | apply Kd.R_drew)); exact Ha_.out⟩, ⟨by (with_reducible repeat (first | refine z1b ?_ _ | refine z3b ?_ | refine z2b ?_ _)); exact BK109.out⟩, ⟨by (with_reducible repeat (first | refine z1b ?_ _ | refine z3b ?_ | refine z2b ?_ _)); exact BK110.out⟩, ⟨dV HB.out⟩⟩
   ·rw [if_neg c8] at H
    have c8b0 : decide (x14_1 < a1) = false := decide_eq_false c8
    clear c8
    simp only [Option.some.injEq, Prod.mk.injEq] at H
    obtain ⟨rfl, rfl, rfl⟩ := H
    have hnb17 := NB110_109.out
    have hnc17 := NB109_110.out
    have hcz18_0 : wr.cell? ⟨gb110, 0, none⟩ = some (.int .i64 a0) := (x3b BK110.out 0).trans rfl
    have hcz18_1 : wr.cell? ⟨gb110, 1, none⟩ = some (.int .i64 a1) := (x3b BK110.out 1).trans rfl
    have hcz18_2 : wr.cell? ⟨gb110, 2, none⟩ = some (u111002) := (x3b BK110.out 2).trans rfl
    have hfz18_0 := x2b BK110.out 0
    have hfz18_1 := x2b BK110.out 1
    have hfz18_2 := x2b BK110.out 2
    have hcz19_0 : wr.cell? ⟨gb109, 0, none⟩ = some (.int .i64 0) := (x3b BK109.out 0).trans rfl
    have hcz19_1 : wr.cell? ⟨gb109, 1, none⟩ = some (.int .i64 0) := (x3b BK109.out 1).trans rfl
    have hcz19_2 : wr.cell? ⟨gb109, 2, none⟩ = some (.slice none 0 0) := (x3b BK109.out 2).trans rfl
    have hfz19_0 := x2b BK109.out 0
    have hfz19_1 := x2b BK109.out 1
    have hfz19_2 := x2b BK109.out 2
    obtain ⟨Ao20, co20, eo20⟩ := Kd.R_slice Ha_.out
    subst eo20
    go_wp2
    refine bodyPost_ret (results_cell_row rfl _ _ gb109 27 #[.int .i64 a0, .int .i64 a1, .slice Ao20 x111002_1.length co20] (0, 0) _ rfl (by (with_reducible repeat (first | refine z1b ?_ _ | refine z3b ?_ | refine z2b ?_ _)); refine blk_put (cs := #[.int .i64 a0, .int .i64 a1, .slice none 0 0]) ?_ 2 _ rfl; (with_reducible repeat (first | refine z1b ?_ _ | refine z3b ?_ | refine z2b ?_ _)); refine blk_put (cs := #[.int .i64 a0, .int .i64 0, .slice none 0 0]) ?_ 1 _ rfl; (with_reducible repeat (first | refine z1b ?_ _ | refine z3b ?_ | refine z2b ?_ _)); refine blk_put (cs := #[.int .i64 0, .int .i64 0, .slice none 0 0]) ?_ 0 _ rfl; (with_reducible repeat (first | refine z1b ?_ _ | refine z3b ?_ | refine z2b ?_ _)); exact BK109.out) Tryz.underlying27 rfl (by kernel_rfl)) rfl ?_
    exact ⟨_, by first | rfl | (simp [errW_none, errW_some] <;> rfl) | (simp [*, errW_none, errW_some] <;> rfl), by (with_reducible repeat (first | apply Kd.R_alloc | apply Kd.R_drewN | apply Kd.R_drew)); exact Kd.R_mono (Kd.R_far (p := ⟨gb109, 2, none⟩) (Kd.R_far (p := ⟨gb109, 1, none⟩) (Kd.R_far (p := ⟨gb109, 0, none⟩) (Kd.R_types Ha_.out BK109.out (by decide)) (fun _ hk => hk.2) (.int .i64 a0)) (fun _ hk => hk.2) (.int .i64 a1)) (fun _ hk => hk.2) (.slice Ao20 x111002_1.length co20)) (fun _ hk => trivial), dV HB.out⟩

theorem impl_drawn.row {AT : Int → Int → Option Int} {g : Int → Int → Int} {W H y : Int} (hW : 1 ≤ W) (hW2 : W ≤ 1024) (hH : H ≤ 1024) (hWH : W * H ≤ 1024) (hy : 0 ≤ y) (hyH : y < H) (hAT : ∀ x, 0 ≤ x → x < W → AT x y = some (g x y)) (d : Nat) : ∀ (k : Nat) (x : Int), 0 ≤ x → x + d = W →
  impl_drawn.l1 AT (k + d + 1) W y H y W x W H (Ext.pref W g (y * W + x).toNat) = impl_drawn.l0 AT k W H (y + 1) W H (Ext.pref W g ((y + 1) * W).toNat) := by
 have hb := Ext.row_bound hW hy hyH
 induction d with
 | zero =>
  intro k x h0 hd
  obtain rfl : x = W := by omega
  rw [impl_drawn.l1, if_neg (by omega), Ext.wrap_in (by omega) (by omega), Int.add_mul, Int.one_mul]
 | succ d ih =>
  intro k x h0 hd
  rw [show k + (d + 1) + 1 = (k + d + 1) + 1 by omega, impl_drawn.l1, if_pos (by omega), hAT x h0 (by omega), Option.bind_some, if_pos (by rw [Ext.pref_length]; omega), Ext.wrap_in (by omega) (by omega), ← Ext.pref_step g hy h0 (by omega)]
  exact ih k (x + 1) (by omega) (by omega)
theorem impl_drawn.rows {AT : Int → Int → Option Int} {g : Int → Int → Int} {W H : Int} (hW : 1 ≤ W) (hW2 : W ≤ 1024) (hH : H ≤ 1024) (hWH : W * H ≤ 1024) (hAT : ∀ x y, 0 ≤ x → x < W → 0 ≤ y → y < H → AT x y = some (g x y)) (d : Nat) : ∀ (k : Nat) (y : Int), 0 ≤ y → y + d = H → d * (W.toNat + 2) < k →
  impl_drawn.l0 AT k W H y W H (Ext.pref W g (y * W).toNat) = some (W, H, Ext.grid W H g) := by
 induction d with
 | zero =>
  intro k y h0 hd hk
  obtain ⟨k, rfl⟩ : ∃ m, k = m + 1 := ⟨k - 1, by omega⟩
  obtain rfl : y = H := by omega
  rw [impl_drawn.l0, if_neg (by omega)]
  unfold Ext.grid; rw [Int.mul_comm y W]
 | succ d ih =>
  intro k y h0 hd hk
  rw [Nat.add_mul] at hk
  obtain ⟨k, rfl⟩ : ∃ m, k = (m + W.toNat + 1) + 1 := ⟨k - (W.toNat + 2), by omega⟩
  rw [impl_drawn.l0, if_pos (by omega)]
  have := impl_drawn.row hW hW2 hH hWH h0 (show y < H by omega) (fun x h1 h2 => hAT x y h1 h2 h0 (by omega)) W.toNat k 0 (by omega) (by omega)
  rw [Int.add_zero] at this
  rw [this]
  exact ih k (y + 1) (by omega) (by omega) (by omega)
theorem impl_drawn.tells {AT : Int → Int → Option Int} {g : Int → Int → Int} {W H : Int} (hW : 1 ≤ W) (hW2 : W ≤ 1024) (hH0 : 0 ≤ H) (hH : H ≤ 1024) (hWH : W * H ≤ 1024) (hAT : ∀ x y, 0 ≤ x → x < W → 0 ≤ y → y < H → AT x y = some (g x y)) :
  impl_drawn.f AT 4000 W H = some (W, H, Ext.grid W H g) := by
 unfold impl_drawn.f
 have h2 : H.toNat * (W.toNat + 2) < 4000 := by
  have : ((H.toNat * W.toNat : Nat) : Int) = W * H := by
   rw [Int.natCast_mul, show ((H.toNat : Nat) : Int) = H by omega, show ((W.toNat : Nat) : Int) = W by omega, Int.mul_comm]
  rw [Nat.mul_add]; omega
 have := impl_drawn.rows hW hW2 hH hWH hAT H.toNat 4000 0 (by omega) (by omega) h2
 rw [Int.zero_mul] at this
 exact this

def impl_RampPicture_1.f (a0 : Int) (a1 : Int) (a2 : Int) : Option (Int) := if a2 = 1 then (some 0) else (if (wrap64 (a2 - 1)) = 0 then (none) else (some (wrap64 (Int.tdiv (wrap64 (a0 * 255)) (wrap64 (a2 - 1))))))
set_option maxHeartbeats 8000000 in
set_option maxRecDepth 100000 in
theorem impl_RampPicture_1.calls {g2_ : Nat} (a0 : Int) (a1 : Int) (a2 : Int) (r : Int) (w : World) (hb2_ : w.heap[g2_]? = some (.cells #[.int .i64 a2] 3 (0, 0))) (h : impl_RampPicture_1.f a0 a1 a2 = some r) :
  Calls Tryz.prog 14 #[.int .i64 a0, .int .i64 a1, .pointer (some ⟨g2_, 0, none⟩)] w fun e w' => e = .returned (.int .i64 r) ∧ Drawn0 w w' := by
 have hzc2_0 : w.cell? ⟨g2_, 0, none⟩ = some (.int .i64 a2) := (x3b hb2_ 0).trans rfl
 clear hb2_
 have H := h
 unfold impl_RampPicture_1.f at H
 clear h
 by_cases c4 : a2 = 1
 ·rw [if_pos c4] at H
  have c4b0 : (a2 == 1) = true := beq_iff_eq.mpr c4
  have c4b1 : (a2 != 1) = false := bne_eq_false_iff_eq.mpr c4
  clear c4
  obtain rfl := Option.some.inj H
  go_enter Tryz.func14, Tryz.ntmps14
  go_wp2
  go_ret
  exact ⟨by first | rfl | (simp; done) | (simp [*]; done), by repeat (first | exact Drawn0.refl _ | apply Drawn0.step)⟩
 ·rw [if_neg c4] at H
  have c4b0 : (a2 == 1) = false := beq_eq_false_iff_ne.mpr c4
  have c4b1 : (a2 != 1) = true := bne_iff_ne.mpr c4
  by_cases c5 : (wrap64 (a2 - 1)) = 0
  ·rw [if_pos c5] at H
   exact absurd H (by simp)
  ·rw [if_neg c5] at H
   have c5b0 : ((wrap64 (a2 - 1)) == 0) = false := beq_eq_false_iff_ne.mpr c5
   have c5b1 : ((wrap64 (a2 - 1)) != 0) = true := bne_iff_ne.mpr c5
   obtain rfl := Option.some.inj H
   go_enter Tryz.func14, Tryz.ntmps14
   go_wp2
   go_ret
   exact ⟨by first | rfl | (simp; done) | (simp [*]; done), by repeat (first | exact Drawn0.refl _ | apply Drawn0.step)⟩

def impl_RampPicture_1.drawn.f (w_ h_ : Int) (a2 : Int) : Option (Int × Int × List Int) := if 1 ≤ w_ ∧ w_ ≤ 1024 ∧ 0 ≤ h_ ∧ h_ ≤ 1024 ∧ w_ * h_ ≤ 1024 then (Ext.gridO w_ h_ fun x y => impl_RampPicture_1.f x y a2).map fun l => (w_, h_, l) else none
theorem impl_RampPicture_1.drawn.calls {g2_ : Nat} (w_ h_ : Int) (a2 : Int) (r1 r2 : Int) (r3 : List Int) (w : World) (hb2_ : w.heap[g2_]? = some (.cells #[.int .i64 a2] 3 (0, 0))) (h : impl_RampPicture_1.drawn.f w_ h_ a2 = some (r1, r2, r3)) :
  Calls Tryz.prog 13 #[.int .i64 w_, .int .i64 h_, .func (.func 14) #[] #[.pointer (some ⟨g2_, 0, none⟩)]] w fun e w' => ∃ v2_ : Value, e = .returned (.agg #[.int .i64 r1, .int .i64 r2, v2_]) ∧ Kd.R (Kd.int .i64) 3 w' w.heap.size (fun _ => True) v2_ r3 ∧ Below w.heap.size w w' := by
 unfold impl_RampPicture_1.drawn.f at h
 split at h
 ·rename_i hc_
  obtain ⟨l_, hl_, he_⟩ := Option.map_eq_some_iff.mp h
  obtain ⟨hat_, hg_⟩ := Ext.gridO_some hl_
  injection he_ with e1_ e2_; injection e2_ with e2_ e3_; subst e1_ e2_ e3_
  have ht_ := impl_drawn.tells (AT := fun x y => impl_RampPicture_1.f x y a2) hc_.1 hc_.2.1 hc_.2.2.1 hc_.2.2.2.1 hc_.2.2.2.2 hat_
  rw [hg_] at ht_
  exact impl_drawn.calls 4000 w_ h_ _ 14 #[.pointer (some ⟨g2_, 0, none⟩)] _ _ _ w (enters_ Tryz.func14 (by kernel_rfl) rfl) (fun x y r W hW hr => Ext.calls_app (by simp) ((impl_RampPicture_1.calls x y a2 r W (blk_below hb2_ hW) hr).mono fun e w' he => ⟨he.1, he.2.below⟩)) ht_
 ·exact absurd h (by simp)

abbrev impl_RampPicture_1.V.f := @impl_RampPicture_1.f
set_option linter.defProp false in
def impl_RampPicture_1.V.calls := @impl_RampPicture_1.calls

def impl_RampPicture.f (a0 : Int) (a1 : Int) : Option (Int × Int × List Int × Bool) := (impl_sized.f a0 a1).bind fun t117 => (if t117 = true then ((impl_RampPicture_1.drawn.f a0 a1 a0).bind fun bt118 => (some (bt118.1, bt118.2.1, bt118.2.2, true))) else (some (0, 0, ([] : List Int), false)))
set_option maxHeartbeats 8000000 in
set_option maxRecDepth 100000 in
theorem impl_RampPicture.calls (a0 : Int) (a1 : Int) (r1 : Int) (r2 : Int) (r3 : List Int) (r4 : Bool) (w : World) (h : impl_RampPicture.f a0 a1 = some (r1, r2, r3, r4)) :
  Calls Tryz.prog 6 #[.int .i64 a0, .int .i64 a1] w fun e w' => ∃ v2_ : Value, e = .returned (.tuple #[.agg #[.int .i64 r1, .int .i64 r2, v2_], .bool r4]) ∧ Kd.R (Kd.int .i64) 3 w' w.heap.size (fun _ => True) v2_ r3 ∧ Below w.heap.size w w' := by
 have hu27 := Tryz.underlying27
 have HB := z0b (Below.refl w.heap.size w)
 have H := h
 unfold impl_RampPicture.f at H
 clear h
 replace H := Option.bind_eq_some_iff.mp H
 obtain ⟨t117, A30, H⟩ := H
 (try dsimp only at H)
 have A3 := z0b A30
 clear A30
 by_cases c4 : t117 = true
 ·subst c4
  rw [if_pos rfl] at H
  replace H := Option.bind_eq_some_iff.mp H
  obtain ⟨⟨t118, t119, t120⟩, A50, H⟩ := H
  (try dsimp only at H)
  have A5 := z0b A50
  clear A50
  simp only [Option.some.injEq, Prod.mk.injEq] at H
  obtain ⟨rfl, rfl, rfl, rfl⟩ := H
  go_enter Tryz.func6, Tryz.ntmps6
  go_wp2_with (first | ((with_reducible refine gate_dst (N := 2) rfl ?_); refine box_event rfl (N := 2) rfl (cs := #[.int .i64 a0]) (t := 3) (by first | (go_simp; done) | (go_simp; rfl)) ?_; intro gb115 hg w6 hbox hb; have n_ := a4 (dU HB.out hb) (hbox) (gE hg HB.out) (gE hg HB.out); clear HB; obtain ⟨HB, BK115, GW115, GE115⟩ := n_; have gi_115 := GEc.mk GE115.out; clear hb hbox hg) | ((with_reducible refine gate_dst (N := 4) rfl ?_); refine box_event rfl (N := 4) rfl (cs := #[.int .i64 0, .int .i64 0, .slice none 0 0]) (t := 27) (by first | (go_simp; done) | (go_simp; rfl)) ?_; intro gb116 hg w7 hbox hb; have n_ := a7 (bU BK115.out hb) (dU HB.out hb) (hbox) (gE hg HB.out) (gE hg HB.out) (nL hg BK115.out) (nG hg BK115.out); clear BK115 HB; obtain ⟨BK115, HB, BK116, GW116, GE116, NB115_116, NB116_115⟩ := n_; have gi_116 := GEc.mk GE116.out; clear hb hbox hg; have hnb8 := NB115_116.out; have hnc8 := NB116_115.out; have hcz9_0 : w7.cell? ⟨gb115, 0, none⟩ = some (.int .i64 a0) := (x3b BK115.out 0).trans rfl; have hfz9_0 := x2b BK115.out 0) | ((with_reducible refine gate_callee (f := 12) rfl ?_); refine goesL_ (some 8) rfl rfl Tryz.func12 (by kernel_rfl) rfl #[.int .i64 a0, .int .i64 a1] rfl (by (try simp only [List.map_toArray, List.map_cons, List.map_nil]); first | done | rfl | (simp only [List.length_drop, List.length_take]; rfl)) ?_; (with_reducible refine (impl_sized.calls a0 a1 true _ A3.out).mono ?_); rintro e w' ⟨rfl, ⟨nd, rfl⟩⟩; refine ⟨_, rfl, ?_⟩; (try (rw [drewN_self w7]; generalize hq_ : World.drewN w7 _ = w7; have n0_ : Aside0 (w7.heap[gb115]? = some (.cells #[.int .i64 a0] 3 (0, 0))) := ⟨by rw [← hq_]; exact (bV BK115.out)⟩; have n1_ : Aside0 (w7.heap[gb116]? = some (.cells #[.int .i64 0, .int .i64 0, .slice none 0 0] 27 (0, 0))) := ⟨by rw [← hq_]; exact (bV BK116.out)⟩; have n2_ : Aside0 (Below w.heap.size w w7) := ⟨by rw [← hq_]; exact (dV HB.out)⟩; clear BK115 BK116 HB hq_; have BK115 := n0_; have BK116 := n1_; have HB := n2_; clear n0_ n1_ n2_)); have hcz10_0 : w7.cell? ⟨gb115, 0, none⟩ = some (.int .i64 a0) := (x3b BK115.out 0).trans rfl; have hfz10_0 := x2b BK115.out 0) | ((with_reducible refine gate_callee (f := 13) rfl ?_); refine goesL_ (some 14) rfl rfl Tryz.func13 (by kernel_rfl) rfl #[.int .i64 a0, .int .i64 a1, .func (.func 14) #[] #[.pointer (some ⟨gb115, 0, none⟩)]] rfl (by (try simp only [List.map_toArray, List.map_cons, List.map_nil]); first | done | rfl | (simp only [List.length_drop, List.length_take]; rfl)) ?_; (with_reducible refine (impl_RampPicture_1.drawn.calls a0 a1 a0 t118 t119 t120 _ ?side1 A5.out).mono ?_); (case side1 => exact by (with_reducible repeat (first | refine z1b ?_ _ | refine z3b ?_ | refine z2b ?_ _)); exact BK115.out); rintro e w11 ⟨v121, rfl, ho0, hb⟩; refine ⟨_, rfl, ?_⟩; have n_ := a4 (Kd.R_lower (Kd.R_newB ho0 (bV BK115.out)) (below_size (dV HB.out))) (bU BK115.out hb) (bU BK116.out hb) (dU HB.out hb); clear BK115 BK116 HB; obtain ⟨HO122, BK115, BK116, HB⟩ := n_; (try clear hb); (try clear ho0); have hcz12_0 : w11.cell? ⟨gb116, 0, none⟩ = some (.int .i64 0) := (x3b BK116.out 0).trans rfl; have hcz12_1 : w11.cell? ⟨gb116, 1, none⟩ = some (.int .i64 0) := (x3b BK116.out 1).trans rfl; have hcz12_2 : w11.cell? ⟨gb116, 2, none⟩ = some (.slice none 0 0) := (x3b BK116.out 2).trans rfl; have hfz12_0 := x2b BK116.out 0; have hfz12_1 := x2b BK116.out 1; have hfz12_2 := x2b BK116.out 2; obtain ⟨Ao13, co13, eo13⟩ := Kd.R_slice HO122.out; subst eo13))
  refine bodyPost_ret (results_ct rfl _ _ gb116 27 #[.int .i64 t118, .int .i64 t119, .slice Ao13 t120.length co13] (0, 0) _ rfl (by (with_reducible repeat (first | refine z1b ?_ _ | refine z3b ?_ | refine z2b ?_ _)); refine blk_put (cs := #[.int .i64 t118, .int .i64 t119, .slice none 0 0]) ?_ 2 _ rfl; (with_reducible repeat (first | refine z1b ?_ _ | refine z3b ?_ | refine z2b ?_ _)); refine blk_put (cs := #[.int .i64 t118, .int .i64 0, .slice none 0 0]) ?_ 1 _ rfl; (with_reducible repeat (first | refine z1b ?_ _ | refine z3b ?_ | refine z2b ?_ _)); refine blk_put (cs := #[.int .i64 0, .int .i64 0, .slice none 0 0]) ?_ 0 _ rfl; (with_reducible repeat (first | refine z1b ?_ _ | refine z3b ?_ | refine z2b ?_ _)); exact BK116.out) Tryz.underlying27 rfl (by kernel_rfl)) rfl ?_
  exact ⟨_, by first | rfl | (simp [errW_none, errW_some] <;> rfl) | (simp [*, errW_none, errW_some] <;> rfl), by (with_reducible repeat (first | apply Kd.R_alloc | apply Kd.R_drewN | apply Kd.R_drew)); exact Kd.R_mono (Kd.R_far (p := ⟨gb116, 2, none⟩) (Kd.R_far (p := ⟨gb116, 1, none⟩) (Kd.R_far (p := ⟨gb116, 0, none⟩) (Kd.R_types HO122.out BK116.out (by decide)) (fun _ hk => hk.2) (.int .i64 t118)) (fun _ hk => hk.2) (.int .i64 t119)) (fun _ hk => hk.2) (.slice Ao13 t120.length co13)) (fun _ hk => trivial), dV HB.out⟩
 ·replace c4 := Bool.eq_false_iff.mpr c4
  subst c4
  rw [if_neg (show ¬ (false = true) by decide)] at H
  simp only [Option.some.injEq, Prod.mk.injEq] at H
  obtain ⟨rfl, rfl, rfl, rfl⟩ := H
  go_enter Tryz.func6, Tryz.ntmps6
  go_wp2_with (first | ((with_reducible refine gate_dst (N := 2) rfl ?_); refine box_event rfl (N := 2) rfl (cs := #[.int .i64 a0]) (t := 3) (by first | (go_simp; done) | (go_simp; rfl)) ?_; intro gb115 hg w14 hbox hb; have n_ := a4 (dU HB.out hb) (hbox) (gE hg HB.out) (gE hg HB.out); clear HB; obtain ⟨HB, BK115, GW115, GE115⟩ := n_; have gi_115 := GEc.mk GE115.out; clear hb hbox hg) | ((with_reducible refine gate_dst (N := 4) rfl ?_); refine box_event rfl (N := 4) rfl (cs := #[.int .i64 0, .int .i64 0, .slice none 0 0]) (t := 27) (by first | (go_simp; done) | (go_simp; rfl)) ?_; intro gb116 hg w15 hbox hb; have n_ := a7 (bU BK115.out hb) (dU HB.out hb) (hbox) (gE hg HB.out) (gE hg HB.out) (nL hg BK115.out) (nG hg BK115.out); clear BK115 HB; obtain ⟨BK115, HB, BK116, GW116, GE116, NB115_116, NB116_115⟩ := n_; have gi_116 := GEc.mk GE116.out; clear hb hbox hg; have hnb16 := NB115_116.out; have hnc16 := NB116_115.out; have hcz17_0 : w15.cell? ⟨gb115, 0, none⟩ = some (.int .i64 a0) := (x3b BK115.out 0).trans rfl; have hfz17_0 := x2b BK115.out 0) | ((with_reducible refine gate_callee (f := 12) rfl ?_); refine goesL_ (some 8) rfl rfl Tryz.func12 (by kernel_rfl) rfl #[.int .i64 a0, .int .i64 a1] rfl (by (try simp only [List.map_toArray, List.map_cons, List.map_nil]); first | done | rfl | (simp only [List.length_drop, List.length_take]; rfl)) ?_; (with_reducible refine (impl_sized.calls a0 a1 false _ A3.out).mono ?_); rintro e w' ⟨rfl, ⟨nd, rfl⟩⟩; refine ⟨_, rfl, ?_⟩; (try (rw [drewN_self w15]; generalize hq_ : World.drewN w15 _ = w15; have n0_ : Aside0 (w15.heap[gb115]? = some (.cells #[.int .i64 a0] 3 (0, 0))) := ⟨by rw [← hq_]; exact (bV BK115.out)⟩; have n1_ : Aside0 (w15.heap[gb116]? = some (.cells #[.int .i64 0, .int .i64 0, .slice none 0 0] 27 (0, 0))) := ⟨by rw [← hq_]; exact (bV BK116.out)⟩; have n2_ : Aside0 (Below w.heap.size w w15) := ⟨by rw [← hq_]; exact (dV HB.out)⟩; clear BK115 BK116 HB hq_; have BK115 := n0_; have BK116 := n1_; have HB := n2_; clear n0_ n1_ n2_)); have hcz18_0 : w15.cell? ⟨gb116, 0, none⟩ = some (.int .i64 0) := (x3b BK116.out 0).trans rfl; have hcz18_1 : w15.cell? ⟨gb116, 1, none⟩ = some (.int .i64 0) := (x3b BK116.out 1).trans rfl; have hcz18_2 : w15.cell? ⟨gb116, 2, none⟩ = some (.slice none 0 0) := (x3b BK116.out 2).trans rfl; have hfz18_0 := x2b BK116.out 0; have hfz18_1 := x2b BK116.out 1; have hfz18_2 := x2b BK116.out 2))
  refine bodyPost_ret (results_ct rfl _ _ gb116 27 #[.int .i64 0, .int .i64 0, .slice none 0 0] (0, 0) _ rfl (by (with_reducible repeat (first | refine z1b ?_ _ | refine z3b ?_ | refine z2b ?_ _)); refine blk_put (cs := #[.int .i64 0, .int .i64 0, .slice none 0 0]) ?_ 2 _ rfl; (with_reducible repeat (first | refine z1b ?_ _ | refine z3b ?_ | refine z2b ?_ _)); refine blk_put (cs := #[.int .i64 0, .int .i64 0, .slice none 0 0]) ?_ 1 _ rfl; (with_reducible repeat (first | refine z1b ?_ _ | refine z3b ?_ | refine z2b ?_ _)); refine blk_put (cs := #[.int .i64 0, .int .i64 0, .slice none 0 0]) ?_ 0 _ rfl; (with_reducible repeat (first | refine z1b ?_ _ | refine z3b ?_ | refine z2b ?_ _)); exact BK116.out) Tryz.underlying27 rfl (by kernel_rfl)) rfl ?_
  exact ⟨_, by first | rfl | (simp [errW_none, errW_some] <;> rfl) | (simp [*, errW_none, errW_some] <;> rfl), by first | exact Kd.R_nil _ _ _ _ _ | exact Kd.N_nil _ _ _ _ _ | exact Kd.V_nil _ _ _ _ _ | exact Kd.Q_nil _ _ _ _ _ | exact Kd.S_nil _ _ _ _ _, dV HB.out⟩

def impl_celled.f (a0 : Int) (a1 : Int) : Option (Bool) := if a0 ≥ 1 then (if a0 ≤ 256 then (if a1 ≥ 1 then (if a1 ≤ 256 then (some (decide ((wrap64 (a0 * a1)) ≤ 256))) else (some false)) else (some false)) else (some false)) else (some false)
set_option maxHeartbeats 8000000 in
set_option maxRecDepth 100000 in
theorem impl_celled.calls (a0 : Int) (a1 : Int) (r : Bool) (w : World) (h : impl_celled.f a0 a1 = some r) :
  Calls Tryz.prog 29 #[.int .i64 a0, .int .i64 a1] w fun e w' => e = .returned (.bool r) ∧ Drawn0 w w' := by
 have H := h
 unfold impl_celled.f at H
 clear h
 by_cases c3 : a0 ≥ 1
 ·rw [if_pos c3] at H
  have c3b0 : decide (1 ≤ a0) = true := decide_eq_true c3
  clear c3
  by_cases c4 : a0 ≤ 256
  ·rw [if_pos c4] at H
   have c4b0 : decide (a0 ≤ 256) = true := decide_eq_true c4
   clear c4
   by_cases c5 : a1 ≥ 1
   ·rw [if_pos c5] at H
    have c5b0 : decide (1 ≤ a1) = true := decide_eq_true c5
    clear c5
    by_cases c6 : a1 ≤ 256
    ·rw [if_pos c6] at H
     have c6b0 : decide (a1 ≤ 256) = true := decide_eq_true c6
     clear c6
     obtain rfl := Option.some.inj H
     go_enter Tryz.func29, Tryz.ntmps29
     go_wp2
     go_ret
     exact ⟨by first | rfl | (simp; done) | (simp [*]; done), by repeat (first | exact Drawn0.refl _ | apply Drawn0.step)⟩
    ·rw [if_neg c6] at H
     have c6b0 : decide (a1 ≤ 256) = false := decide_eq_false c6
     clear c6
     obtain rfl := Option.some.inj H
     go_enter Tryz.func29, Tryz.ntmps29
     go_wp2
     go_ret
     exact ⟨by first | rfl | (simp; done) | (simp [*]; done), by repeat (first | exact Drawn0.refl _ | apply Drawn0.step)⟩
   ·rw [if_neg c5] at H
    have c5b0 : decide (1 ≤ a1) = false := decide_eq_false c5
    clear c5
    obtain rfl := Option.some.inj H
    go_enter Tryz.func29, Tryz.ntmps29
    go_wp2
    go_ret
    exact ⟨by first | rfl | (simp; done) | (simp [*]; done), by repeat (first | exact Drawn0.refl _ | apply Drawn0.step)⟩
  ·rw [if_neg c4] at H
   have c4b0 : decide (a0 ≤ 256) = false := decide_eq_false c4
   clear c4
   obtain rfl := Option.some.inj H
   go_enter Tryz.func29, Tryz.ntmps29
   go_wp2
   go_ret
   exact ⟨by first | rfl | (simp; done) | (simp [*]; done), by repeat (first | exact Drawn0.refl _ | apply Drawn0.step)⟩
 ·rw [if_neg c3] at H
  have c3b0 : decide (1 ≤ a0) = false := decide_eq_false c3
  clear c3
  obtain rfl := Option.some.inj H
  go_enter Tryz.func29, Tryz.ntmps29
  go_wp2
  go_ret
  exact ⟨by first | rfl | (simp; done) | (simp [*]; done), by repeat (first | exact Drawn0.refl _ | apply Drawn0.step)⟩

def impl_IsMatrix.f (a0_0 a0_1 : Int) (l0_2 : List Int) : Option Bool := if l0_2.length ≤ 140737488355328 then some (Ext.mtxB a0_0 a0_1 l0_2) else none
theorem impl_IsMatrix.calls (a0_0 a0_1 : Int) (A0_2 : Option Addr) (c0_2 : Nat) (l0_2 : List Int) (r : Bool) (w : World) (hr0_2 : Kd.C (Kd.int .i64) w A0_2 l0_2.length l0_2) (hc0_2 : l0_2.length ≤ c0_2) (h : impl_IsMatrix.f a0_0 a0_1 l0_2 = some r) :
  Calls Tryz.prog 16 #[.agg #[.int .i64 a0_0, .int .i64 a0_1, .slice A0_2 l0_2.length c0_2]] w fun e w' => e = .returned (.bool r) ∧ Below w.heap.size w w' := by
 unfold impl_IsMatrix.f at h
 split at h
 ·rename_i hl
  obtain rfl := Option.some.inj h
  exact Ext.IsMatrix a0_0 a0_1 A0_2 c0_2 l0_2 w hr0_2 hl
 ·exact absurd h (by simp)

end Go.Proofs.YtkcgnnepgebekaaGreatDoor.PFnDesk
