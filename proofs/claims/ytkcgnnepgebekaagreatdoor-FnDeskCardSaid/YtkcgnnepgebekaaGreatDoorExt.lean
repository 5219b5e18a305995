/- Contracts of the small functions that hand on or take function values (within, over slices.ContainsFunc and slices.IndexFunc), and of slices.Clone at a list that is not empty: what they return, at every argument and in every world; they change nothing that was there. -/
import Derived.Test.YtkcgnnepgebekaaGreatDoorProg
import Derived.WalkKit
import Derived.Below
import Derived.Deep.LoopGhost
import Derived.Deep.Draws
import Derived.Deep.QuietTactic
import Derived.BigQuiet
import Derived.Deep.RegionHeld3
import Derived.KernelRfl
import Derived.RowKit3
import Derived.Lib.SliceRun
import Derived.Test.YtkcgnnepgebekaaGreatDoorWMore
import Derived.Test.YtkcgnnepgebekaaGreatDoorWNEv
namespace Go.Proofs.YtkcgnnepgebekaaGreatDoor.Ext
open Go.RowKit Go.Proofs.YtkcgnnepgebekaaGreatDoorW.PrintWords Go.Proofs.YtkcgnnepgebekaaGreatDoorW.PrintLast Go.Proofs.YtkcgnnepgebekaaGreatDoorW.PrintMore
set_option linter.unusedVariables false
set_option linter.unusedSimpArgs false

theorem rd_nat (l : List Int) (j : Nat) (h : j < l.length) : rd l (j : Int) = l[j] := by
  unfold rd; rw [List.getD_eq_getElem?_getD, Int.toNat_natCast, List.getElem?_eq_getElem h, Option.getD_some]
/-- r is a place of an element at which p holds, or negative where there is none -/
def AnyAt (p : Int → Bool) (l : List Int) (r : Int) : Prop := decide (r ≥ 0) = l.any p
theorem any_hit {p : Int → Bool} {l : List Int} {j : Nat} (h : j < l.length) (hp : p (rd l j) = true) : AnyAt p l (j : Int) := by
  have : l.any p = true := List.any_eq_true.mpr ⟨l[j], List.getElem_mem h, by rw [← rd_nat l j h]; exact hp⟩
  unfold AnyAt; rw [this]; exact decide_eq_true (by omega)
theorem any_miss {p : Int → Bool} {l : List Int} (h : ∀ j : Nat, j < l.length → p (rd l j) = false) : AnyAt p l (-1) := by
  have : l.any p = false := by
    rw [List.any_eq_false]
    intro x hx
    obtain ⟨j, hj, rfl⟩ := List.mem_iff_getElem.mp hx
    rw [← rd_nat l j hj, h j hj]; simp
  unfold AnyAt; rw [this]; rfl

set_option maxHeartbeats 2000000 in
theorem IndexFunc (p : Int → Bool) (g : Nat) (lb : Array Value) (eg : ∀ args w, (callFunc g args).run Tryz.prog w = .ok (.enter g args) w) (A : Option Addr) (c : Nat) (l : List Int) (w : World)
    (hr : Kd.C (Kd.int .i64) w A l.length l) (hl : l.length ≤ 140737488355328)
    (hp : ∀ (x : Int) (n : Nat), Calls Tryz.prog g (#[.int .i64 x] ++ lb) (w.drewN n) fun e w' => e = .returned (.bool (p x)) ∧ ∃ m, w' = (w.drewN n).drewN m) :
    Calls Tryz.prog 70 #[.slice A l.length c, .func (.func g) #[] lb] w fun e w' => ∃ r, e = .returned (.int .i64 r) ∧ AnyAt p l r ∧ ∃ m, w' = w.drewN m := by
  have HR := Aside0.mk hr
  clear hr
  go_enter Tryz.func70, Tryz.ntmps70
  go_wp2
  go_loopg [5, 8] l.length (fun gg _ s8 wr => ∃ kk q : Nat, kk ≤ l.length ∧ l.length - kk ≤ gg ∧ s8 = .int .i64 kk ∧ wr = w.drewN q ∧ Aside0 (∀ j : Nat, j < kk → p (rd l j) = false))
  case atStart => exact ⟨0, 0, Nat.zero_le _, by omega, rfl, rfl, ⟨fun j hj => absurd hj (Nat.not_lt_zero _)⟩⟩
  case round =>
    obtain ⟨kk, q, hkk, hg, rfl, rfl, B⟩ := hrel
    by_cases hlt : kk < l.length
    · have hltz : (kk : Int) < (l.length : Int) := by omega
      obtain ⟨ad, e1, hcell⟩ := Kd.at_int HR.out (kk : Int) (by omega) hltz
      cases e1
      rw [Int.toNat_natCast] at hcell
      generalize hy : rd l kk = y at hcell
      have Y : Aside0 (rd l kk = y) := ⟨hy⟩
      clear hy
      have hcall := hp y
      clear hp
      go_wp2_with fail
      cases hq : p y with
      | true =>
        rw [hq] at hcall
        refine (hcall _).mono ?_
        rintro e w' ⟨rfl, q', rfl⟩
        clear hcall
        go_wp2
        go_ret
        exact ⟨_, rfl, any_hit hlt (by rw [Y.out]; exact hq), _, rfl⟩
      | false =>
        rw [hq] at hcall
        refine (hcall _).mono ?_
        rintro e w' ⟨rfl, q', rfl⟩
        clear hcall
        go_wp2
        go_roundg (l.length - (kk + 1))
        case measure => omega
        case rel =>
          refine ⟨kk + 1, _, by omega, by omega, by go_num, rfl, ⟨fun j hj => ?_⟩⟩
          by_cases e : j = kk
          · subst e; rw [Y.out]; exact hq
          · exact B.out j (by omega)
    · have hltz : ¬ (kk : Int) < (l.length : Int) := by omega
      have : kk = l.length := by omega
      subst this
      go_wp2
      go_ret
      exact ⟨_, rfl, any_miss B.out, q, rfl⟩

set_option maxHeartbeats 1000000 in
theorem ContainsFunc (p : Int → Bool) (g : Nat) (lb : Array Value) (eg : ∀ args w, (callFunc g args).run Tryz.prog w = .ok (.enter g args) w) (A : Option Addr) (c : Nat) (l : List Int) (w : World)
    (hr : Kd.C (Kd.int .i64) w A l.length l) (hl : l.length ≤ 140737488355328)
    (hp : ∀ (x : Int) (n : Nat), Calls Tryz.prog g (#[.int .i64 x] ++ lb) (w.drewN n) fun e w' => e = .returned (.bool (p x)) ∧ ∃ m, w' = (w.drewN n).drewN m) :
    Calls Tryz.prog 43 #[.slice A l.length c, .func (.func g) #[] lb] w fun e w' => e = .returned (.bool (l.any p)) ∧ ∃ m, w' = w.drewN m := by
  have hC := IndexFunc p g lb eg A c l w hr hl hp
  clear hr hp eg
  go_enter Tryz.func43, Tryz.ntmps43
  go_wp2_with (go_at_call 70; refine hC.mono ?_; rintro e w' ⟨r, rfl, ha, q, rfl⟩)
  go_ret
  exact ⟨by rw [← ha]; rfl, q, rfl⟩

/-- the first n points of a picture whose points are told by a function, row by row -/
def pref (W : Int) (g : Int → Int → Int) (n : Nat) : List Int := (List.range n).map fun i : Nat => g ((i : Int) % W) ((i : Int) / W)
/-- all points -/
def grid (W H : Int) (g : Int → Int → Int) : List Int := pref W g (W * H).toNat
theorem pref_length (W : Int) (g : Int → Int → Int) (n : Nat) : (pref W g n).length = n := by simp [pref]
theorem pref_succ (W : Int) (g : Int → Int → Int) (n : Nat) : pref W g (n + 1) = pref W g n ++ [g ((n : Int) % W) ((n : Int) / W)] := by
  unfold pref; rw [List.range_succ, List.map_append]; rfl
theorem at_place {W x y : Int} (hx : 0 ≤ x) (h : x < W) : (y * W + x) % W = x ∧ (y * W + x) / W = y := by
  constructor
  · rw [Int.add_comm, Int.add_mul_emod_self_right, Int.emod_eq_of_lt hx h]
  · rw [Int.add_comm, Int.add_mul_ediv_right _ _ (by omega), Int.ediv_eq_zero_of_lt hx h]; omega
theorem pref_step {W x y : Int} (g : Int → Int → Int) (hy : 0 ≤ y) (hx : 0 ≤ x) (h : x < W) : pref W g (y * W + (x + 1)).toNat = pref W g (y * W + x).toNat ++ [g x y] := by
  have h0 : 0 ≤ y * W := Int.mul_nonneg hy (by omega)
  have e : (y * W + (x + 1)).toNat = (y * W + x).toNat + 1 := by omega
  rw [e, pref_succ]
  have c : (((y * W + x).toNat : Nat) : Int) = y * W + x := by omega
  rw [c, (at_place hx h).1, (at_place hx h).2]
theorem row_bound {W H y : Int} (hW : 1 ≤ W) (hy : 0 ≤ y) (h : y < H) : 0 ≤ y * W ∧ y * W + W ≤ W * H := by
  have h1 : 0 ≤ y * W := Int.mul_nonneg hy (by omega)
  have h2 : (y + 1) * W ≤ H * W := Int.mul_le_mul_of_nonneg_right (by omega) (by omega)
  rw [Int.add_mul, Int.mul_comm H] at h2
  omega
/-- a list of values that are all there -/
def seqO : List (Option Int) → Option (List Int)
  | [] => some []
  | a :: r => a.bind fun x => (seqO r).map (x :: ·)
theorem seqO_some {L : List (Option Int)} {l : List Int} (h : seqO L = some l) : L = l.map some := by
  induction L generalizing l with
  | nil => simp only [seqO, Option.some.injEq] at h; subst h; rfl
  | cons a r ih =>
    simp only [seqO] at h
    obtain ⟨x, rfl, h⟩ := Option.bind_eq_some_iff.mp h
    obtain ⟨s, hs, rfl⟩ := Option.map_eq_some_iff.mp h
    rw [ih hs]; rfl
theorem seqO_map (l : List Int) : seqO (l.map some) = some l := by
  induction l with
  | nil => rfl
  | cons x l ih => simp [seqO, ih]
theorem seqO_mono {α : Type} {F G : α → Option Int} (h : ∀ a, LeO (F a) (G a)) (L : List α) : LeO (seqO (L.map F)) (seqO (L.map G)) := by
  induction L with
  | nil => exact LeO.refl _
  | cons a L ih => exact LeO.bind (h a) (fun _ => LeO.map _ ih)
/-- the points of a picture whose points are told by a function that may have no value -/
def gridO (W H : Int) (AT : Int → Int → Option Int) : Option (List Int) := seqO ((List.range (W * H).toNat).map fun i : Nat => AT ((i : Int) % W) ((i : Int) / W))
def gv (AT : Int → Int → Option Int) (x y : Int) : Int := (AT x y).getD 0
theorem gridO_some {W H : Int} {AT : Int → Int → Option Int} {l : List Int} (h : gridO W H AT = some l) : (∀ x y, 0 ≤ x → x < W → 0 ≤ y → y < H → AT x y = some (gv AT x y)) ∧ grid W H (gv AT) = l := by
  have e := seqO_some h
  have each : ∀ i : Nat, i < (W * H).toNat → ∃ v, AT ((i : Int) % W) ((i : Int) / W) = some v ∧ l[i]? = some v := by
    intro i hi
    have h1 : ((List.range (W * H).toNat).map fun i : Nat => AT ((i : Int) % W) ((i : Int) / W))[i]? = some (AT ((i : Int) % W) ((i : Int) / W)) := by
      rw [List.getElem?_map, List.getElem?_range hi]; rfl
    rw [e, List.getElem?_map] at h1
    obtain ⟨v, hv, hv2⟩ := Option.map_eq_some_iff.mp h1
    exact ⟨v, hv2.symm, hv⟩
  constructor
  · intro x y x0 x1 y0 y1
    have hb := row_bound (H := H) (show 1 ≤ W by omega) y0 y1
    have hp := at_place (W := W) (y := y) x0 x1
    obtain ⟨v, hv, _⟩ := each (y * W + x).toNat (by omega)
    have c : (((y * W + x).toNat : Nat) : Int) = y * W + x := by omega
    rw [c, hp.1, hp.2] at hv
    unfold gv; rw [hv]; rfl
  · have hl : l.length = (W * H).toNat := by have := congrArg List.length e; simpa using this.symm
    apply List.ext_getElem?
    intro i
    unfold grid pref
    by_cases hi : i < (W * H).toNat
    · obtain ⟨v, hv, hv2⟩ := each i hi
      rw [List.getElem?_map, List.getElem?_range hi, hv2]
      simp only [Option.map_some]; unfold gv; rw [hv]; rfl
    · rw [List.getElem?_eq_none (by simp; omega), List.getElem?_eq_none (by omega)]
theorem gridO_of {W H : Int} {AT : Int → Int → Option Int} {g : Int → Int → Int} (hW : 1 ≤ W) (hH : 0 ≤ H) (h : ∀ x y, 0 ≤ x → x < W → 0 ≤ y → y < H → AT x y = some (g x y)) : gridO W H AT = some (grid W H g) := by
  unfold gridO grid pref
  rw [← seqO_map, List.map_map]; congr 1
  apply List.map_congr_left
  intro i hi
  rw [List.mem_range] at hi
  have h3 : (i : Int) / W < H := by apply Int.ediv_lt_of_lt_mul (by omega); rw [Int.mul_comm]; omega
  exact h _ _ (Int.emod_nonneg _ (by omega)) (Int.emod_lt_of_pos _ (by omega)) (Int.ediv_nonneg (by omega) (by omega)) h3
theorem gridO_mono {W H : Int} {F G : Int → Int → Option Int} (h : ∀ x y, LeO (F x y) (G x y)) : LeO (gridO W H F) (gridO W H G) := seqO_mono (fun i : Nat => h ((i : Int) % W) ((i : Int) / W)) _
theorem calls_app {P : Program} {f : FuncId} {args lb full : Array Value} {w : World} {Q : Ending → World → Prop} (e : args ++ lb = full) (h : Calls P f full w Q) : Calls P f (args ++ lb) w Q := e ▸ h
theorem wrap_in {x : Int} (h1 : -9223372036854775808 ≤ x) (h2 : x ≤ 9223372036854775807) : wrap64 x = x := by unfold wrap64; omega

section
variable {P : Program} {ops : Array Oper} {Q : Exit → Act → World → Prop}
/-- a call of a function value: as 'goes_' has it for a function that is named -/
theorem goesV_ {oi : Oper} {N : Option Tmp} {a : Act} {w : World} {K : Act → World → Prop} {f : FuncId} {lb : Array Value} {o : Operand} {os : Array Operand} {ts : Array TypeId} (he : ∀ args w, (callFunc f args).run P w = .ok (.enter f args) w) (args : Array Value)
    (hw : Region.wanted oi (yielded ops a.tmps) = true) (hN : oi.dst = N) (hop : oi.op = .call { callee := .value o, args := os, argTypes := ts }) (ho : a.eval o = .func (.func f) #[] lb) (hargs : os.map a.eval = args)
    (h : Calls P f (args ++ lb) w fun e w' => ∃ v, e = .returned v ∧ K (a.put N v) w') : if Region.wanted oi (yielded ops a.tmps) = true then Oper.wp P oi a w K Q else K (a.put N undef) w := by
  refine call_ f (args ++ lb) hw hN ?_ h
  have he' := he (args ++ lb) w
  unfold execOp
  simp [hop, resolve, Deferred.ofValue, invoke, ho, hargs, he']
/-- the same, the whole arguments written out -/
theorem goesW_ {oi : Oper} {N : Option Tmp} {a : Act} {w : World} {K : Act → World → Prop} {f : FuncId} {lb : Array Value} {o : Operand} {os : Array Operand} {ts : Array TypeId} (he : ∀ args w, (callFunc f args).run P w = .ok (.enter f args) w) (args full : Array Value) (hfull : args ++ lb = full)
    (hw : Region.wanted oi (yielded ops a.tmps) = true) (hN : oi.dst = N) (hop : oi.op = .call { callee := .value o, args := os, argTypes := ts }) (ho : a.eval o = .func (.func f) #[] lb) (hargs : os.map a.eval = args)
    (h : Calls P f full w fun e w' => ∃ v, e = .returned v ∧ K (a.put N v) w') : if Region.wanted oi (yielded ops a.tmps) = true then Oper.wp P oi a w K Q else K (a.put N undef) w :=
  goesV_ he args hw hN hop ho hargs (hfull ▸ h)
theorem goesLW_ {rest : List Oper} {oi : Oper} {a : Act} {w : World} (N : Option Tmp) (hd : oi.dst = N) (hg : oi.guard = none) {f : FuncId} {lb : Array Value} {o : Operand} {os : Array Operand} {ts : Array TypeId} (he : ∀ args w, (callFunc f args).run P w = .ok (.enter f args) w) (args full : Array Value) (hfull : args ++ lb = full)
    (hop : oi.op = .call { callee := .value o, args := os, argTypes := ts }) (ho : a.eval o = .func (.func f) #[] lb) (hargs : os.map a.eval = args)
    (h : Calls P f full w fun e w' => ∃ v, e = .returned v ∧ wpList P ops Q rest (a.put N v) w') : wpList P ops Q (oi :: rest) a w := by
  refine wpList_plain hg fun K hK => ?_
  have he' := he (args ++ lb) w
  have hrun : (execOp a.eval oi).run P w = .ok (.enter f full) w := by
    rw [← hfull]
    unfold execOp
    simp [hop, resolve, Deferred.ofValue, invoke, ho, hargs, he']
  unfold Oper.wp
  rw [hrun, Oper.upon_enter]
  refine h.mono fun e w'' hh => ?_
  obtain ⟨v, rfl, hv⟩ := hh
  subst hd
  exact hK _ _ hv
end

/-- the literal in within -/
theorem within_1 (n m : Int) (g : Nat) (W : World) (hc : W.cell? ⟨g, 0, none⟩ = some (.int .i64 m)) :
    Calls Tryz.prog 44 #[.int .i64 n, .pointer (some ⟨g, 0, none⟩)] W fun e w' => e = .returned (.bool (decide (n < 0) || decide (n > m))) ∧ ∃ q, w' = W.drewN q := by
  by_cases h1 : n < 0
  · have b1 : decide (n < 0) = true := decide_eq_true h1
    go_enter Tryz.func44, Tryz.ntmps44
    go_wp2
    go_ret
    exact ⟨by simp [h1], 0, rfl⟩
  · have b1 : decide (n < 0) = false := decide_eq_false h1
    go_enter Tryz.func44, Tryz.ntmps44
    go_wp2
    go_ret
    exact ⟨by simp [h1], 0, rfl⟩

set_option maxHeartbeats 1000000 in
theorem within (A : Option Addr) (c : Nat) (l : List Int) (m : Int) (w : World) (hr : Kd.C (Kd.int .i64) w A l.length l) (hl : l.length ≤ 140737488355328) :
    Calls Tryz.prog 32 #[.slice A l.length c, .int .i64 m] w fun e w' => e = .returned (.bool (l.all fun n => decide (0 ≤ n ∧ n ≤ m))) ∧ Below w.heap.size w w' := by
  have hbx : Below w.heap.size w (w.alloc (.cells #[.int .i64 m] 3 (0, 0))) := (Below.refl _ _).alloc (Nat.le_refl _) _
  have hC := ContainsFunc (fun n => decide (n < 0) || decide (n > m)) 44 #[.pointer (some ⟨w.heap.size, 0, none⟩)] (fun args W => enters_ Tryz.func44 (by kernel_rfl) rfl args W) A c l (w.alloc (.cells #[.int .i64 m] 3 (0, 0))) (Kd.C_below hr hbx) hl
    (fun x n => within_1 x m w.heap.size _ (by simp))
  have e : (l.all fun n => decide (0 ≤ n ∧ n ≤ m)) = !(l.any fun n => decide (n < 0) || decide (n > m)) := by
    rw [List.not_any_eq_all_not]; congr 1; funext n
    by_cases h1 : n < 0 <;> by_cases h2 : n > m <;> simp [h1, h2] <;> omega
  rw [e]
  clear e hr
  go_enter Tryz.func32, Tryz.ntmps32
  go_wp2_with (go_at_call 43; refine hC.mono ?_; rintro e w' ⟨rfl, q, rfl⟩)
  go_ret
  exact ⟨rfl, pw_below_drewN hbx q⟩

theorem info_int : (Tryz.prog.info? 3).map (fun i => (i.zero, i.size, i.bytes)) = some (some (.int .i64 0), 1, 8) := by kernel_rfl
set_option maxHeartbeats 8000000 in
set_option maxRecDepth 100000 in
theorem Clone (A0 : Option Addr) (c0 : Nat) (l0 : List Int) (w : World) (hr0 : Kd.C (Kd.int .i64) w A0 l0.length l0) (hl : l0.length < 17592186044416) :
    Calls Tryz.prog 51 #[.slice A0 l0.length c0] w fun e w' => ∃ v0_ : Value, e = .returned (v0_) ∧ Kd.R (Kd.int .i64) 3 w' w.heap.size (fun _ => True) v0_ l0 ∧ Below w.heap.size w w' := by
  cases A0 with
  | none =>
    have e : l0 = [] := by
      cases l0 with
      | nil => rfl
      | cons x l =>
        obtain ⟨ad, he, _⟩ := Kd.at_int hr0 0 (by omega) (by simp only [List.length_cons]; omega)
        cases he
    subst e
    have qT : ∀ (w : World) (n c n' c' : Nat), (binOp .eql 25 (.slice none n c) (.slice none n' c')).run Tryz.prog w = .ok (.bool true) w := fun w n c n' c' => Lib.run_eql_slice_nil w _ _ none n c n' c' Tryz.underlying25
    clear hr0
    go_enter Tryz.func51, Tryz.ntmps51
    go_wp2
    go_ret
    exact ⟨_, rfl, Kd.R_nil _ _ _ _ _, Below.refl _ _⟩
  | some ad =>
    have qT : ∀ (w : World) (n c n' c' : Nat), (binOp .eql 25 (.slice (some ad) n c) (.slice none n' c')).run Tryz.prog w = .ok (.bool false) w := fun w n c n' c' => Lib.run_eql_slice_nil w _ _ (some ad) n c n' c' Tryz.underlying25
    have HR0 := Aside0.mk hr0
    clear hr0
    have HB := Aside0.mk (Below.refl w.heap.size w)
    have LM := Aside0.mk hl
    clear hl
    go_enter Tryz.func51, Tryz.ntmps51
    go_wp2_with (first | ((with_reducible refine gate_dst (N := 5) rfl ?_); refine Kd.R_lit (Kd.int .i64) _ 3 ?hg (N := 5) ?hd (xs := ([] : List Int)) (inner := []) (ok := fun _ => True) (okp := fun _ => True) ?hr ?hp (fun _ hk => hk) trivial (Below.refl _ _) (Nat.le_refl _) (by simp) ?_; (case hd => rfl); (case hg => rfl); (case hr => first | (go_simp; done) | (go_simp; rfl)); (case hp => exact (Reps.none _ _)); intro v188 w3 ho4 hb hg_ hnew_; clear hg_ hnew_; have n0_ := Aside0.mk ho4; have n1_ := Aside0.mk (below_step HB.out hb); clear HB; have HO189 := n0_; have HB := n1_; clear n0_ n1_; clear hb ho4) | ((with_reducible refine gate_builtin (b := .append) (xs := #[.tmp 5, .tmp 6]) rfl ?_); at_builtin; refine Kd.R_append_rows (Kd.int .i64) (w0 := w) w.heap.size rfl (.tmp 5) (.tmp 6) 25 3 (.int .i64 0) 8 rfl Tryz.underlying25 info_int rfl (by decide) (by omega) v188 ([] : List Int) l0 _ _ _ (fun _ => True) (fun _ => False) rfl rfl ?aO ?aR (fun _ _ h => h) (fun _ h => h.elim) ?aF ?aB ?aS ?aL ?_; (case aR => exact (Kd.C_below HR0.out HB.out)); (case aB => exact HB.out); (case aF => exact (fun _ _ => trivial)); (case aO => exact HO189.out); (case aS => exact (below_size HB.out)); (case aL => have := LM.out; simp only [List.length_nil]; omega); intro v191 w5 ho hb hg hat; have n0_ := Aside0.mk (hb); have n1_ := Aside0.mk (ho); clear HB; clear HO189; have HB := n0_; have HO192 := n1_; clear n0_ n1_; clear ho hb hg hat))
    go_ret
    exact ⟨_, rfl, HO192.out, HB.out⟩
end Go.Proofs.YtkcgnnepgebekaaGreatDoor.Ext
