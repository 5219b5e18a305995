/- What the library's contracts ask of the world (a variable of internal/bytealg's, a table of internal/strconv's: both lie in blocks that no call of this program writes), and those contracts, spelt as the walks of this claim want them: strings.Split, TrimSuffix, ReplaceAll, Join, strconv.Itoa, Atoi. -/
import Derived.Test.YtkcgnnepgebekaaGreatDoorExt
import Derived.Test.YtkcgnnepgebekaaGreatDoorShelf
import Derived.Lib.LaidTab
import Derived.Lib.AppendIntMem
import Derived.Lib.AtoiErrMem
import Derived.Lib.SplitLaws
import Derived.Below
import Derived.Maps.Own
namespace Go.Proofs.YtkcgnnepgebekaaGreatDoor.Ext
open Go.RowKit Go.Proofs.YtkcgnnepgebekaaGreatDoorW.PrintWords Go.Proofs.YtkcgnnepgebekaaGreatDoorW.PrintLast Go.Proofs.YtkcgnnepgebekaaGreatDoorW.PrintMore
set_option linter.unusedVariables false
set_option linter.unusedSimpArgs false
def Glob (w : World) : Prop := (∃ m, w.cell? ⟨0, 0, none⟩ = some (.int .i64 m)) ∧ Lib.TabIs Tryz.prog w "internal/strconv.uint64pow10" .u64 Lib.pow10Tab
theorem Glob.below {w w' : World} (h : Glob w) (hb : Below w.heap.size w w') : Glob w' := by
  have hgn : Tryz.prog.globalNamed "internal/strconv.uint64pow10" = some 5 := by kernel_rfl
  obtain ⟨⟨m, hm⟩, ht⟩ := h
  have ht2 := ht
  unfold Lib.TabIs World.var? at ht
  rw [hgn] at ht
  simp only [Option.bind_some] at ht
  have hlt : 5 < w.heap.size := by
    rcases Nat.lt_or_ge 5 w.heap.size with h' | h'
    · exact h'
    · rw [Array.getElem?_eq_none h'] at ht; cases ht
  refine ⟨⟨m, (hb.cell (by show 0 < w.heap.size; omega)).trans hm⟩, ?_⟩
  unfold Lib.TabIs World.var? at ht2 ⊢
  rw [hgn] at ht2 ⊢
  simp only [Option.bind_some] at ht2 ⊢
  rw [hb.block 5 hlt]
  exact ht2
def splitF (s sep : ByteArray) : Option (List ByteArray) := if s.size < 4294967281 ∧ 1 ≤ sep.size then some (Lib.splitB sep 0 (Lib.countB s sep) s) else none
theorem Split (s sep : ByteArray) (r : List ByteArray) (w : World) (hG : Glob w) (h : splitF s sep = some r) :
    Calls Tryz.prog 25 #[.string s, .string sep] w fun e w' => ∃ v0_ : Value, e = .returned (v0_) ∧ Kd.R Kd.string 9 w' w.heap.size (fun _ => True) v0_ r ∧ Below w.heap.size w w' := by
  unfold splitF at h
  split at h
  · rename_i hc
    obtain rfl := Option.some.inj h
    obtain ⟨m, hm⟩ := hG.1
    refine (Tryz.strings_Split s sep m w hc.1 hm hc.2).mono ?_
    rintro e w' ⟨rfl, rfl⟩
    have hl := Lib.splitB_all sep hc.2 0 _ s rfl
    have hle := Lib.countB_le sep hc.2 s.size s (Nat.le_refl _)
    refine ⟨_, rfl, Kd.R_of_own ?_ (fun _ _ => trivial), below_alloc (Below.refl _ _) _⟩
    have h2 := World.ownsRow_lit (base := w.heap.size) (e := 9) (size := 1) w ((Lib.splitB sep 0 (Lib.countB s sep) s).map Value.string).toArray (Lib.countB s sep + 1) (Nat.le_refl _) (by unfold maxLen; omega) (by simp [hl])
    rw [hl]
    simpa [encs] using h2
  · exact absurd h (by simp)
def trimF (s p : ByteArray) : Option ByteArray := if s.size ≤ 9223372036854775807 then some ⟨(Lib.trimSuffix s.data.toList p.data.toList).toArray⟩ else none
theorem Trim (s p r : ByteArray) (w : World) (h : trimF s p = some r) :
    Calls Tryz.prog 26 #[.string s, .string p] w fun e w' => e = .returned (.string r) ∧ Below w.heap.size w w' := by
  unfold trimF at h
  split at h
  · rename_i hc
    obtain rfl := Option.some.inj h
    refine (Tryz.strings_TrimSuffix s p w hc).mono ?_
    rintro e w' ⟨rfl, rfl⟩
    exact ⟨rfl, Below.refl _ _⟩
  · exact absurd h (by simp)
def replF (s o n : ByteArray) : Option ByteArray := if s.size < 4294967281 ∧ 1 ≤ o.size ∧ s.size + Lib.countB s o * n.size ≤ 140737488355328 then some ⟨(Lib.replaceAll s.data.toList o.data.toList n.data.toList).toArray⟩ else none
theorem Repl (s o n r : ByteArray) (w : World) (hG : Glob w) (h : replF s o n = some r) :
    Calls Tryz.prog 98 #[.string s, .string o, .string n] w fun e w' => e = .returned (.string r) ∧ Below w.heap.size w w' := by
  unfold replF at h
  split at h
  · rename_i hc
    obtain rfl := Option.some.inj h
    obtain ⟨m, hm⟩ := hG.1
    exact Tryz.strings_ReplaceAll s o n m w hc.1 hm hc.2.1 hc.2.2
  · exact absurd h (by simp)
def itoaF (n : Int) : Option ByteArray := if -9223372036854775808 ≤ n ∧ n ≤ 9223372036854775807 then some ⟨(Lib.itoa n).toArray⟩ else none
theorem Itoa (n : Int) (r : ByteArray) (w : World) (hG : Glob w) (h : itoaF n = some r) :
    Calls Tryz.prog 57 #[.int .i64 n] w fun e w' => e = .returned (.string r) ∧ Below w.heap.size w w' := by
  unfold itoaF at h
  split at h
  · rename_i hc
    obtain rfl := Option.some.inj h
    refine (Tryz.strconv_Itoa n hc.1 hc.2 w hG.2).mono ?_
    rintro e w' ⟨rfl, k, os, rfl⟩
    exact ⟨rfl, Lib.below_grow _ _ (Nat.le_refl _) _ _⟩
  · exact absurd h (by simp)
def atoiF (s : ByteArray) : Option (Int × Option Int) := if s.size ≤ 18 then (Lib.atoi s.data.toList).map fun n => (n, none) else none
theorem Atoi (s : ByteArray) (n : Int) (q : Option Int) (w : World) (h : atoiF s = some (n, q)) :
    Calls Tryz.prog 58 #[.string s] w fun e w' => e = .returned (.tuple #[.int .i64 n, .nilIface]) ∧ q = none ∧ Below w.heap.size w w' := by
  unfold atoiF at h
  split at h
  · rename_i hc
    obtain ⟨m, hm, he⟩ := Option.map_eq_some_iff.1 h
    cases he
    refine (Tryz.strconv_Atoi s _ hc hm w).mono ?_
    rintro e w' ⟨rfl, t, rfl⟩
    exact ⟨rfl, rfl, Lib.bytesWorld_below _ _ _⟩
  · exact absurd h (by simp)
def joinF (xs : List ByteArray) (sep : ByteArray) : Option ByteArray := if xs.length ≤ 140737488355328 ∧ (Lib.join (xs.map (·.data.toList)) sep.data.toList).length ≤ 140737488355328 then some ⟨(Lib.join (xs.map (·.data.toList)) sep.data.toList).toArray⟩ else none
theorem Join (A0 : Option Addr) (c0 : Nat) (xs : List ByteArray) (sep r : ByteArray) (w : World) (hr : Kd.C Kd.string w A0 xs.length xs) (hc : xs.length ≤ c0) (h : joinF xs sep = some r) :
    Calls Tryz.prog 128 #[.slice A0 xs.length c0, .string sep] w fun e w' => e = .returned (.string r) ∧ Below w.heap.size w w' := by
  unfold joinF at h
  split at h
  · rename_i hcc
    obtain rfl := Option.some.inj h
    cases xs with
    | nil =>
      refine (Tryz.strings_Join_none A0 c0 sep w).mono ?_
      rintro e w' ⟨rfl, rfl⟩
      exact ⟨rfl, Below.refl _ _⟩
    | cons x l =>
      obtain ⟨ad, he, hcell⟩ := Kd.at_string hr 0 (by omega) (by simp only [List.length_cons]; omega)
      subst he
      have hcells : ∀ (j : Nat) y, (x :: l)[j]? = some y → w.cell? (ad.add j) = some (.string y) := fun j y hy => by
        have hj : j < (x :: l).length := (List.getElem?_eq_some_iff.1 hy).1
        obtain ⟨ad2, he2, hc2⟩ := Kd.at_string hr (j : Int) (by omega) (by omega)
        cases he2
        rw [Int.toNat_natCast] at hc2
        rw [hc2, rdOf, Int.toNat_natCast, List.getD_eq_getElem?_getD, hy]
        rfl
      have h0 := hcells 0 x rfl
      rw [Addr.add, if_pos rfl] at h0
      obtain ⟨bk, o, sp⟩ := ad
      have hsp : sp = none := by
        cases sp with
        | none => rfl
        | some q => simp [World.cell?] at h0; split at h0 <;> simp at h0
      subst hsp
      have hbk : bk < w.heap.size := by
        rcases Nat.lt_or_ge bk w.heap.size with h' | h'
        · exact h'
        · simp [World.cell?, Array.getElem?_eq_none h'] at h0
      exact Tryz.strings_Join bk o c0 (x :: l) sep w (fun j y hy => by
        have := hcells j y hy
        rw [Addr.add] at this
        split at this
        · rename_i hz; subst hz; exact this
        · exact this) hbk hcc.1 hc hcc.2
  · exact absurd h (by simp)
theorem obj_far {w : World} {g : Nat} {o : Obj} (h : w.heap[g]? = some o) {p : Addr} (hp : g ≠ p.block) (u : Value) : (w.setCell p u).heap[g]? = some o := (Below.heap_setCell w p u g hp).trans h
/-! ### the map of (Desk).numbered: how many numbers each word wants -/
open Go.RowKit Go.WideMaps Go.Maps in
theorem mapLaw : Keyed Tryz.prog 9 := string_keyed Tryz.underlying9
theorem mapZero (w : World) : (zeroValue 3).run Tryz.prog w = .ok (.int .i64 0) w := by kernel_rfl
def mkeys : List (ByteArray × Int) := [(⟨#[102, 108, 97, 116]⟩, 3), (⟨#[114, 97, 109, 112]⟩, 2), (⟨#[98, 97, 121, 101, 114]⟩, 1), (⟨#[115, 112, 105, 114, 97, 108]⟩, 1), (⟨#[115, 112, 111, 116]⟩, 2), (⟨#[115, 104, 105, 102, 116]⟩, 2), (⟨#[114, 97, 110, 107]⟩, 3), (⟨#[108, 101, 118, 101, 108]⟩, 1)]
def mputs (D : DataW Unit) (l : List (ByteArray × Int)) : DataW Unit := l.foldl (fun D p => D.put (.string p.1.data.toList) (.lit (.int .i64 p.2))) D
def wantedD : DataW Unit := mputs (.map []) mkeys
def wanted (s : ByteArray) : Int := match wantedD.atKey (.string s.data.toList) (.lit (.int .i64 0)) with | .lit (.int .i64 c) => c | _ => 0
def IsWanted (o : Obj) : Prop := ∀ (w : World) (b : Nat), w.heap[b]? = some o → w.ownsMap (H := Unit) Tryz.prog 9 (plainElem Tryz.prog 3) b 8 wantedD
theorem looks {w : World} {b : Nat} {o : Obj} (h : w.heap[b]? = some o) (ho : IsWanted o) (s : ByteArray) (hs : s.size ≤ maxLen) : (Instr.lookup 90 (.map (some b)) (.string s) false).run Tryz.prog w = .ok (.int .i64 (wanted s)) w := by
  obtain ⟨c, hrun, hat, _⟩ := (ho w b h).lookup_int mapLaw Tryz.underlying90 Tryz.underlying3 (mapZero w) (Go.WideMaps.keyOf_string_mk Tryz.underlying9 hs)
  have : wanted s = c := by unfold wanted; rw [hat]
  rw [this]; exact hrun
section
variable {ops rest : List Oper} {Q : Exit → Act → World → Prop} {a : Act} {o : Oper} {opsA : Array Oper}
theorem ins (w : World) (hg : o.guard = none) (hd : o.dst = none) (k : ByteArray) (c : Int) (m : Nat) (hop : o.op = Op.insert 90 (.tmp m) (.const (.string k)) (.const (.int .i64 c))) (b n : Nat) (D : DataW Unit)
    (he : a.eval (.tmp m) = .map (some b)) (hown : w.ownsMap Tryz.prog 9 (plainElem Tryz.prog 3) b n D) (hn : n < 100) (hk : k.size ≤ maxLen) (hc : (Lit.int .i64 c).wf = true)
    (hK : ∀ w', w'.ownsMap Tryz.prog 9 (plainElem Tryz.prog 3) b (n + 1) (D.put (.string k.data.toList) (.lit (.int .i64 c))) → w.grownBy w' (some b) → wpList Tryz.prog opsA Q rest a w') : wpList Tryz.prog opsA Q (o :: rest) a w := by
  refine wpList_plain hg fun K' hK' => ?_
  obtain ⟨w', hrun, r1, r2⟩ := hown.update mapLaw Tryz.underlying90 (by unfold maxLen; omega) (Go.WideMaps.keyOf_string_mk Tryz.underlying9 hk) (plainElem_int Tryz.underlying3 hc)
  unfold Oper.wp
  have e1 : ∀ v, a.eval (.const v) = v := fun _ => rfl
  simp [execOp, hop, he, e1, hrun, Result.andThen]
  exact hK' _ _ (by rw [hd]; exact hK w' r1 r2)
theorem grown_below {w w1 w2 : World} {b : Nat} (h : Below w.heap.size w w1) (hg : w1.grownBy w2 (some b)) (hb : w.heap.size ≤ b) : Below w.heap.size w w2 := by
  refine ⟨hg.os.trans h.os, hg.tape.trans h.tape, hg.output.trans h.output, Nat.le_trans h.size hg.size, fun i hi => ?_⟩
  rw [hg.block i (Nat.lt_of_lt_of_le hi h.size) (by intro e; cases e; omega)]
  exact h.block i hi
theorem map8 {o0 o1 o2 o3 o4 o5 o6 o7 o8 : Oper} (W : World) (m : Nat) (h0 : o0.guard = none ∧ o0.op = Op.makeMap 90 none)
    (hs : [o1, o2, o3, o4, o5, o6, o7, o8].map (fun o => (o.guard, o.dst, o.op)) = mkeys.map (fun p => (none, none, Op.insert 90 (.tmp m) (.const (.string p.1)) (.const (.int .i64 p.2)))))
    (he : ∀ v, (a.put o0.dst v).eval (.tmp m) = v)
    (hK : ∀ (gb : Nat) (o : Obj) (w1 : World), gb = W.heap.size → IsWanted o → w1.heap[gb]? = some o → Below W.heap.size W w1 → wpList Tryz.prog opsA Q rest (a.put o0.dst (.map (some gb))) w1) :
    wpList Tryz.prog opsA Q (o0 :: o1 :: o2 :: o3 :: o4 :: o5 :: o6 :: o7 :: o8 :: rest) a W := by
  refine wpList_plain h0.1 fun K' hK' => ?_
  have hrun := run_makeMap (P := Tryz.prog) 90 W
  unfold Oper.wp
  simp [execOp, h0.2, hrun, Result.andThen]
  refine hK' _ _ ?_
  have hB := below_alloc (Below.refl W.heap.size W) (.map #[] 0)
  have hO := World.ownsMap_made (H := Unit) W Tryz.prog 9 (plainElem Tryz.prog 3)
  simp only [mkeys, List.map_cons, List.map_nil, List.cons.injEq, Prod.mk.injEq, and_true] at hs
  obtain ⟨⟨g1, d1, p1⟩, ⟨g2, d2, p2⟩, ⟨g3, d3, p3⟩, ⟨g4, d4, p4⟩, ⟨g5, d5, p5⟩, ⟨g6, d6, p6⟩, ⟨g7, d7, p7⟩, ⟨g8, d8, p8⟩⟩ := hs
  refine ins _ g1 d1 _ _ m p1 _ _ _ (he _) hO (by omega) (by decide) (by decide) fun w1 hO gr => ?_
  replace hB := grown_below hB gr (Nat.le_refl _)
  refine ins _ g2 d2 _ _ m p2 _ _ _ (he _) hO (by omega) (by decide) (by decide) fun w2 hO gr => ?_
  replace hB := grown_below hB gr (Nat.le_refl _)
  refine ins _ g3 d3 _ _ m p3 _ _ _ (he _) hO (by omega) (by decide) (by decide) fun w3 hO gr => ?_
  replace hB := grown_below hB gr (Nat.le_refl _)
  refine ins _ g4 d4 _ _ m p4 _ _ _ (he _) hO (by omega) (by decide) (by decide) fun w4 hO gr => ?_
  replace hB := grown_below hB gr (Nat.le_refl _)
  refine ins _ g5 d5 _ _ m p5 _ _ _ (he _) hO (by omega) (by decide) (by decide) fun w5 hO gr => ?_
  replace hB := grown_below hB gr (Nat.le_refl _)
  refine ins _ g6 d6 _ _ m p6 _ _ _ (he _) hO (by omega) (by decide) (by decide) fun w6 hO gr => ?_
  replace hB := grown_below hB gr (Nat.le_refl _)
  refine ins _ g7 d7 _ _ m p7 _ _ _ (he _) hO (by omega) (by decide) (by decide) fun w7 hO gr => ?_
  replace hB := grown_below hB gr (Nat.le_refl _)
  refine ins _ g8 d8 _ _ m p8 _ _ _ (he _) hO (by omega) (by decide) (by decide) fun w8 hO gr => ?_
  replace hB := grown_below hB gr (Nat.le_refl _)
  obtain ⟨es, clock, hb, F, hs, hD⟩ := hO
  exact hK _ _ w8 rfl (fun w b h => ⟨es, clock, h, F, hs, hD⟩) hb hB
end
end Go.Proofs.YtkcgnnepgebekaaGreatDoor.Ext
