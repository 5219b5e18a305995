/- The contract of impl.IsMatrix (it marks the ranks that it has seen in an array of its own): what it returns, at every argument and in every world; it changes nothing that was there. -/
import Derived.Test.YtkcgnnepgebekaaGreatDoorExt
namespace Go.Proofs.YtkcgnnepgebekaaGreatDoor.Ext
open Go.RowKit Go.Proofs.YtkcgnnepgebekaaGreatDoorW.PrintWords Go.Proofs.YtkcgnnepgebekaaGreatDoorW.PrintLast Go.Proofs.YtkcgnnepgebekaaGreatDoorW.PrintMore
set_option linter.unusedVariables false
set_option linter.unusedSimpArgs false

def celB (a b : Int) : Bool := decide (1 ≤ a ∧ a ≤ 256 ∧ 1 ≤ b ∧ b ≤ 256 ∧ a * b ≤ 256)
theorem mul_small {a b : Int} (h : 1 ≤ a ∧ a ≤ 256 ∧ 1 ≤ b ∧ b ≤ 256) : 1 ≤ a * b ∧ a * b ≤ 65536 := by
  have h1 := Int.mul_le_mul_of_nonneg_right h.2.1 (show 0 ≤ b by omega)
  have h2 := Int.mul_le_mul_of_nonneg_right h.1 (show 0 ≤ b by omega)
  omega
set_option maxHeartbeats 1000000 in
theorem celled (a b : Int) (w : World) : Calls Tryz.prog 29 #[.int .i64 a, .int .i64 b] w fun e w' => e = .returned (.bool (celB a b)) ∧ w = w' := by
  by_cases h : 1 ≤ a ∧ a ≤ 256 ∧ 1 ≤ b ∧ b ≤ 256
  · have hm := mul_small h
    obtain ⟨h1, h2, h3, h4⟩ := h
    have e : celB a b = decide (a * b ≤ 256) := by unfold celB; exact decide_eq_decide.mpr (by omega)
    rw [e]; clear e
    go_enter Tryz.func29, Tryz.ntmps29
    go_wp2
    go_ret
    exact ⟨rfl, rfl⟩
  · have e : celB a b = false := by unfold celB; exact decide_eq_false (by omega)
    rw [e]; clear e
    by_cases h1 : 1 ≤ a
    · by_cases h2 : a ≤ 256
      · by_cases h3 : 1 ≤ b
        · have h4 : 256 < b := by omega
          clear h
          go_enter Tryz.func29, Tryz.ntmps29
          go_wp2
          go_ret
          exact ⟨rfl, rfl⟩
        · have h4 : b < 1 := by omega
          clear h h3
          go_enter Tryz.func29, Tryz.ntmps29
          go_wp2
          go_ret
          exact ⟨rfl, rfl⟩
      · have h4 : 256 < a := by omega
        clear h h2
        go_enter Tryz.func29, Tryz.ntmps29
        go_wp2
        go_ret
        exact ⟨rfl, rfl⟩
    · have h4 : a < 1 := by omega
      clear h h1
      go_enter Tryz.func29, Tryz.ntmps29
      go_wp2
      go_ret
      exact ⟨rfl, rfl⟩

/-- from what is seen on: all in the range and none twice -/
def nwB (n : Int) : List Int → List Int → Bool
  | [], _ => true
  | v :: r, seen => if (0 ≤ v ∧ v < n) ∧ v ∉ seen then nwB n r (v :: seen) else false
def mtxB (W H : Int) (l : List Int) : Bool := if celB W H = true ∧ (l.length : Int) = W * H then nwB l.length l [] else false
/-- what is seen, as cells -/
def marked (S : List Bool) (seen : List Int) : Prop := S.length = 256 ∧ ∀ i : Int, 0 ≤ i → i < 256 → (S.getD i.toNat false = true ↔ i ∈ seen)
theorem zero86 : Tryz.zeroCells62 = ((List.replicate 256 false).map Value.bool).toArray := by kernel_rfl
theorem marked_nil : marked (List.replicate 256 false) [] := by
  refine ⟨List.length_replicate, fun i h0 h1 => ?_⟩
  rw [List.getD_eq_getElem?_getD, List.getElem?_replicate, if_pos (by omega)]; simp
theorem marked_set {S : List Bool} {seen : List Int} (h : marked S seen) {v : Int} (h0 : 0 ≤ v) (h1 : v < 256) : marked (S.set v.toNat true) (v :: seen) := by
  refine ⟨by rw [List.length_set]; exact h.1, fun i i0 i1 => ?_⟩
  have := h.2 i i0 i1
  have hl := h.1
  rw [List.getD_eq_getElem?_getD, List.getElem?_set]
  by_cases e : v.toNat = i.toNat
  · rw [if_pos e, if_pos (by omega)]
    have : i = v := by omega
    simp [this]
  · rw [if_neg e, ← List.getD_eq_getElem?_getD, this, List.mem_cons]
    constructor
    · exact fun h => .inr h
    · intro h; rcases h with h | h
      · omega
      · exact h
theorem cell_of {S : List Bool} {seen : List Int} (h : marked S seen) {v : Int} (h0 : 0 ≤ v) (h1 : v < 256) : ((S.map Value.bool).toArray)[v.toNat]? = some (.bool (decide (v ∈ seen))) := by
  have hl := h.1
  have h2 := h.2 v h0 h1
  rw [List.getD_eq_getElem?_getD, List.getElem?_eq_getElem (by omega), Option.getD_some] at h2
  rw [List.getElem?_toArray, List.getElem?_map, List.getElem?_eq_getElem (by omega)]
  simp only [Option.map_some, Option.some.injEq, Value.bool.injEq]
  rw [Bool.eq_iff_iff, decide_eq_true_iff]; exact h2
theorem cells_set (S : List Bool) (i : Nat) : ((S.map Value.bool).toArray).setIfInBounds i (.bool true) = ((S.set i true).map Value.bool).toArray := by
  rw [List.setIfInBounds_toArray, List.map_set]
theorem drop_rd (l : List Int) {k : Nat} (h : k < l.length) : l.drop k = rd l (k : Int) :: l.drop (k + 1) := by
  rw [List.drop_eq_getElem_cons h, rd_nat l k h]
set_option maxHeartbeats 2000000 in
theorem IsMatrix1 (a0 a1 : Int) (A : Option Addr) (c : Nat) (l : List Int) (w : World) 
    (hr : Kd.C (Kd.int .i64) w A l.length l) (hl : l.length ≤ 256) (hc : celB a0 a1 = true) (hln : ((l.length : Int) != wrap64 (a0 * a1)) = false) :
    Calls Tryz.prog 16 #[.agg #[.int .i64 a0, .int .i64 a1, .slice A l.length c]] w fun e w' => e = .returned (.bool (nwB l.length l [])) ∧ Below w.heap.size w w' := by
  have HR := Aside0.mk hr
  clear hr
  have HC := Aside0.mk hc
  clear hc
  have HB0 := Aside0.mk (Below.refl w.heap.size w)
  go_enter Tryz.func16, Tryz.ntmps16
  go_wp2_with (go_at_call 29; refine (celled a0 a1 _).mono ?_; rintro e w' ⟨rfl, rfl⟩; rw [HC.out])
  go_loopg [26] l.length (fun gg s26 wr => ∃ (kk : Nat) (S : List Bool) (seen : List Int), kk ≤ l.length ∧ l.length - kk ≤ gg ∧ s26 = .int .i64 kk ∧ Aside0 (marked S seen) ∧ Aside0 (nwB l.length (l.drop kk) seen = nwB l.length l []) ∧ Aside0 (Below w.heap.size w wr) ∧ Aside0 (wr.heap[w.heap.size]? = some (.cells #[.int .i64 a0, .int .i64 a1, .slice A l.length c] 31 (0, 0))) ∧ Aside0 (wr.heap[w.heap.size + 1]? = some (.cells (S.map Value.bool).toArray 62 (0, 0))))
  case atStart =>
    refine ⟨0, _, [], Nat.zero_le _, by omega, rfl, ⟨marked_nil⟩, ⟨rfl⟩, ⟨below_alloc (below_alloc HB0.out _) _⟩, ⟨blk_alloc (blk_new _ _) _⟩, ⟨?_⟩⟩
    rw [← zero86]
    have := blk_new (w.alloc (Obj.cells #[Value.int IntKind.i64 a0, Value.int IntKind.i64 a1, Value.slice A l.length c] 31)) (Obj.cells Tryz.zeroCells62 62)
    have e : (w.alloc (Obj.cells #[Value.int IntKind.i64 a0, Value.int IntKind.i64 a1, Value.slice A l.length c] 31)).heap.size = w.heap.size + 1 := Array.size_push _
    rw [e] at this
    exact this
  case round =>
    obtain ⟨kk, S, seen, hkk, hg, rfl, HM, HN, HB, HP, HS⟩ := hrel
    have hc1 := blk_cell HP.out 2
    have hc1' : wr.cell? ⟨w.heap.size, 2, none⟩ = some (.slice A l.length c) := hc1.trans rfl
    clear hc1
    by_cases hlt : kk < l.length
    · have hltz : (kk : Int) < (l.length : Int) := by omega
      obtain ⟨ad, e1, hcell⟩ := Kd.at_int (Kd.C_below HR.out HB.out) (kk : Int) (by omega) hltz
      cases e1
      rw [Int.toNat_natCast] at hcell
      have hdr := drop_rd l hlt
      generalize hy : rd l kk = y at hcell hdr
      clear hy
      have HD := Aside0.mk hdr
      clear hdr
      by_cases h1 : y < 0
      · have hres : Aside0 (nwB l.length l [] = false) := ⟨by rw [← HN.out, HD.out, nwB, if_neg (by omega)]⟩
        go_wp2
        go_ret
        exact ⟨by rw [hres.out]; rfl, HB.out⟩
      · by_cases h2 : (l.length : Int) ≤ y
        · have hres : Aside0 (nwB l.length l [] = false) := ⟨by rw [← HN.out, HD.out, nwB, if_neg (by omega)]⟩
          go_wp2
          go_ret
          exact ⟨by rw [hres.out]; rfl, HB.out⟩
        · have h1' : 0 ≤ y := by omega
          have h2' : y < (l.length : Int) := by omega
          have h256 : y < 256 := by omega
          have hcs := (blk_cell HS.out y.toNat).trans (cell_of HM.out h1' h256)
          by_cases h3 : y ∈ seen
          · have hres : Aside0 (nwB l.length l [] = false) := ⟨by rw [← HN.out, HD.out, nwB, if_neg (fun z => z.2 h3)]⟩
            rw [decide_eq_true h3] at hcs
            clear h1 h2
            go_wp2
            go_ret
            exact ⟨by rw [hres.out]; rfl, HB.out⟩
          · rw [decide_eq_false h3] at hcs
            clear h1 h2
            have hfz := blk_frozen HS.out y.toNat
            go_wp2
            go_roundg (l.length - (kk + 1))
            case measure => omega
            case rel =>
              refine ⟨kk + 1, S.set y.toNat true, y :: seen, by omega, by omega, by go_num, ⟨marked_set HM.out h1' h256⟩, ⟨?_⟩, ⟨HB.out.setCell (by show w.heap.size ≤ w.heap.size + 1; omega) _⟩, ⟨blk_far HP.out (by show w.heap.size ≠ w.heap.size + 1; omega) _⟩, ⟨blk_put HS.out _ _ (cells_set S _)⟩⟩
              rw [← HN.out, HD.out, nwB, if_pos ⟨⟨h1', h2'⟩, h3⟩]
    · have hltz : ¬ (kk : Int) < (l.length : Int) := by omega
      have : kk = l.length := by omega
      subst this
      have hres : Aside0 (nwB l.length l [] = true) := ⟨by rw [← HN.out, List.drop_length, nwB]⟩
      go_wp2
      go_ret
      exact ⟨by rw [hres.out]; rfl, HB.out⟩
set_option maxHeartbeats 1000000 in
theorem IsMatrix (a0 a1 : Int) (A : Option Addr) (c : Nat) (l : List Int) (w : World) (hr : Kd.C (Kd.int .i64) w A l.length l) (hl : l.length ≤ 140737488355328) :
    Calls Tryz.prog 16 #[.agg #[.int .i64 a0, .int .i64 a1, .slice A l.length c]] w fun e w' => e = .returned (.bool (mtxB a0 a1 l)) ∧ Below w.heap.size w w' := by
  by_cases hc : celB a0 a1 = true
  · have hcc := hc
    unfold celB at hcc
    rw [decide_eq_true_iff] at hcc
    have hm := mul_small ⟨hcc.1, hcc.2.1, hcc.2.2.1, hcc.2.2.2.1⟩
    have hw : wrap64 (a0 * a1) = a0 * a1 := by unfold wrap64; omega
    by_cases hn : (l.length : Int) = a0 * a1
    · have e : mtxB a0 a1 l = nwB l.length l [] := by unfold mtxB; rw [if_pos ⟨hc, hn⟩]
      rw [e]
      exact IsMatrix1 a0 a1 A c l w hr (by omega) hc (by rw [hw]; exact bne_eq_false_iff_eq.mpr hn)
    · have e : mtxB a0 a1 l = false := by unfold mtxB; rw [if_neg (fun z => hn z.2)]
      have hln : ((l.length : Int) != wrap64 (a0 * a1)) = true := by rw [hw]; exact bne_iff_ne.mpr hn
      rw [e]
      have HC := Aside0.mk hc
      clear hc hw hn hm hcc e hr
      have HB0 := Aside0.mk (Below.refl w.heap.size w)
      go_enter Tryz.func16, Tryz.ntmps16
      go_wp2_with (go_at_call 29; refine (celled a0 a1 _).mono ?_; rintro e w' ⟨rfl, rfl⟩; rw [HC.out])
      go_ret
      exact ⟨rfl, below_alloc HB0.out _⟩
  · have e : mtxB a0 a1 l = false := by unfold mtxB; rw [if_neg (fun z => hc z.1)]
    have hc' : celB a0 a1 = false := by simpa using hc
    rw [e]
    have HC := Aside0.mk hc'
    clear hc hc' e hr
    have HB0 := Aside0.mk (Below.refl w.heap.size w)
    go_enter Tryz.func16, Tryz.ntmps16
    go_wp2_with (go_at_call 29; refine (celled a0 a1 _).mono ?_; rintro e w' ⟨rfl, rfl⟩; rw [HC.out])
    go_ret
    exact ⟨rfl, below_alloc HB0.out _⟩
end Go.Proofs.YtkcgnnepgebekaaGreatDoor.Ext
