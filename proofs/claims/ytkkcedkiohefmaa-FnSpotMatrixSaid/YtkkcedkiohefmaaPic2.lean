/- Plain facts, the second part: sums over a torus, ranks, matrices, grown and shrunk plates, lengths of texts (no program in sight). -/
import Derived.Test.YtkkcedkiohefmaaPic
set_option linter.unusedVariables false
set_option linter.unusedSimpArgs false
namespace Go.Proofs.Ytkkcedkiohefmaa.Pic

def S1 (g : Int → Int) : Nat → Int
  | 0 => 0
  | n + 1 => S1 g n + g n
theorem S1_congr {g h : Int → Int} {n : Nat} (e : ∀ i : Int, 0 ≤ i → i < n → g i = h i) : S1 g n = S1 h n := by
  induction n with
  | zero => rfl
  | succ n ih => rw [S1, S1, ih (fun i h0 h1 => e i h0 (by omega)), e n (by omega) (by omega)]
theorem S1_const (c : Int) (n : Nat) : S1 (fun _ => c) n = n * c := by
  induction n with
  | zero => simp [S1]
  | succ n ih => simp only [S1, ih]; rw [Int.natCast_add, Int.add_mul]; simp
theorem S1_app (g : Int → Int) (a b : Nat) : S1 g (a + b) = S1 g a + S1 (fun i => g (a + i)) b := by
  induction b with
  | zero => simp [S1]
  | succ b ih =>
    rw [← Nat.add_assoc, S1, ih, S1, Int.natCast_add]; omega
theorem S1_up (g : Int → Int) (n : Nat) : S1 (fun x => g (x + 1)) n + g 0 = S1 g n + g n := by
  induction n with
  | zero => rfl
  | succ n ih => simp only [S1]; rw [show (((n + 1 : Nat) : Int)) = (n : Int) + 1 by omega]; omega
theorem S1_turn {g : Int → Int} {n : Nat} (hp : ∀ x, g (x + n) = g x) : S1 (fun x => g (x + 1)) n = S1 g n := by
  have h := S1_up g n
  have h0 := hp 0
  rw [Int.zero_add] at h0; omega
theorem S1_turns {n : Nat} (a : Nat) : ∀ {g : Int → Int}, (∀ x, g (x + n) = g x) → S1 (fun x => g (x + a)) n = S1 g n := by
  induction a with
  | zero => intro g hp; exact S1_congr (fun i _ _ => by simp)
  | succ a ih =>
    intro g hp
    have hp2 : ∀ x, (fun x => g (x + 1)) (x + n) = (fun x => g (x + 1)) x := fun x => by
      show g (x + n + 1) = g (x + 1)
      rw [← hp (x + 1)]; congr 1; omega
    have h := ih (g := fun x => g (x + 1)) hp2
    rw [S1_turn hp] at h
    rw [← h]; exact S1_congr (fun i _ _ => by show g _ = g _; congr 1; omega)
theorem S1_ring {g : Int → Int} {n : Nat} (hp : ∀ x, g (x + n) = g x) (a : Int) : S1 (fun x => g (x + a)) n = S1 g n := by
  by_cases h : 0 ≤ a
  · have := S1_turns a.toNat hp
    rw [← this]; exact S1_congr (fun i _ _ => by show g _ = g _; congr 1; omega)
  · have hp2 : ∀ x, (fun x => g (x + a)) (x + n) = (fun x => g (x + a)) x := fun x => by
      show g (x + n + a) = g (x + a)
      rw [← hp (x + a)]; congr 1; omega
    have := S1_turns (g := fun x => g (x + a)) (-a).toNat hp2
    rw [← this]; exact S1_congr (fun i _ _ => by show g _ = g _; congr 1; omega)
theorem S1_grid (F : Int → Int → Int) {W : Nat} (hW : 0 < W) (h : Nat) : S1 (fun i => F (i % W) (i / W)) (W * h) = S1 (fun y => S1 (fun x => F x y) W) h := by
  induction h with
  | zero => rfl
  | succ h ih =>
    rw [Nat.mul_add, Nat.mul_one, S1_app, ih, S1]
    congr 1
    apply S1_congr
    intro i h0 h1
    show F ((((W * h : Nat) : Int) + i) % W) ((((W * h : Nat) : Int) + i) / W) = F i h
    have e : ((W * h : Nat) : Int) + i = i + W * h := by rw [Int.natCast_mul]; omega
    rw [e, Int.add_mul_emod_self_left, Int.emod_eq_of_lt h0 h1, Int.add_mul_ediv_left _ _ (by omega), Int.ediv_eq_zero_of_lt h0 h1, Int.zero_add]
def tot : List Int → Int
  | [] => 0
  | v :: r => v + tot r
theorem at_cons (v : Int) (l : List Int) {i : Int} (h0 : 0 ≤ i) : at_ (v :: l) (1 + i) = at_ l i := by
  unfold at_; rw [show (1 + i).toNat = i.toNat + 1 by omega]; rfl
theorem tot_S1 (l : List Int) : tot l = S1 (at_ l) l.length := by
  induction l with
  | nil => rfl
  | cons v l ih =>
    rw [tot, ih, List.length_cons, Nat.add_comm, S1_app]
    have e : S1 (at_ (v :: l)) 1 = v := by show 0 + v = v; omega
    rw [e]; congr 1
    exact S1_congr (fun i h0 _ => (at_cons v l h0).symm)
theorem list_ext {l m : List Int} (h : l.length = m.length) (e : ∀ i : Int, 0 ≤ i → i < l.length → at_ l i = at_ m i) : l = m := by
  apply List.ext_getElem h
  intro i h1 h2
  have := e i (by omega) (by omega)
  rw [at_nat l i h1, at_nat m i h2] at this; exact this
theorem tab_val (f : Int → Int) {d : Nat} {i : Int} (h0 : 0 ≤ i) (h : i < d) : at_ (tab f d 0) i = f i := by
  unfold at_
  rw [List.getD_eq_getElem?_getD, tab_at f d 0 i.toNat (by omega), Option.getD_some]; congr 1; omega
theorem tab_congr {f g : Int → Int} {d : Nat} (e : ∀ i : Int, 0 ≤ i → i < d → f i = g i) : tab f d 0 = tab g d 0 := by
  apply list_ext (by rw [tab_length, tab_length])
  intro i h0 h1
  rw [tab_length] at h1
  rw [tab_val f h0 h1, tab_val g h0 h1, e i h0 h1]
def lowA (F M : List Int) (r : Int) : List Int := tab (fun j => if at_ F j = 1 ∧ at_ M j < r then 1 else 0) F.length 0
def lowB (F M : List Int) (r : Int) : List Int := tab (fun j => if at_ F j = 1 ∨ at_ M j < r then 1 else 0) F.length 0
def cellsB (M : List Int) (r : Int) : List Int := tab (fun j => if at_ M j < r then 1 else 0) M.length 0
def Cel (W H : Int) : Prop := 1 ≤ W ∧ W ≤ 256 ∧ 1 ≤ H ∧ H ≤ 256 ∧ W * H ≤ 256
instance (W H : Int) : Decidable (Cel W H) := inferInstanceAs (Decidable (_ ∧ _))
theorem Cel.area {W H : Int} (h : Cel W H) : 1 ≤ W * H ∧ W * H ≤ 256 := by
  refine ⟨?_, h.2.2.2.2⟩
  have := Int.mul_pos (show 0 < W by have := h.1; omega) (show 0 < H by have := h.2.2.1; omega); omega
def newL (n : Int) : List Int → List Int → Prop
  | [], _ => True
  | v :: r, seen => (0 ≤ v ∧ v < n) ∧ v ∉ seen ∧ newL n r (v :: seen)
instance decNewL (n : Int) : ∀ (r seen : List Int), Decidable (newL n r seen)
  | [], _ => isTrue trivial
  | v :: r, seen => by unfold newL; exact @instDecidableAnd _ _ inferInstance (@instDecidableAnd _ _ inferInstance (decNewL n r (v :: seen)))
def Mtx (W H : Int) (l : List Int) : Prop := Cel W H ∧ (l.length : Int) = W * H ∧ newL l.length l []
instance (W H : Int) (l : List Int) : Decidable (Mtx W H l) := inferInstanceAs (Decidable (_ ∧ _))
theorem newL_of {n : Int} {L : List Int} (hin : ∀ i : Int, 0 ≤ i → i < L.length → 0 ≤ at_ L i ∧ at_ L i < n) (hone : ∀ i j : Int, 0 ≤ i → i < L.length → 0 ≤ j → j < L.length → at_ L i = at_ L j → i = j) :
    ∀ (d : Nat) (j : Int) (seen : List Int), 0 ≤ j → (L.length : Int) - j = d → (∀ v ∈ seen, ∃ i : Int, 0 ≤ i ∧ i < j ∧ at_ L i = v) → newL n (L.drop j.toNat) seen := by
  intro d
  induction d with
  | zero => intro j seen j0 hd _; rw [drop_end L (by omega)]; trivial
  | succ d ih =>
    intro j seen j0 hd hs
    rw [drop_at L j0 (by omega)]
    refine ⟨hin j j0 (by omega), fun hm => ?_, ih (j + 1) _ (by omega) (by omega) (fun v hv => ?_)⟩
    · obtain ⟨i, i0, i1, e⟩ := hs _ hm
      have := hone i j i0 (by omega) j0 (by omega) e; omega
    · rcases List.mem_cons.mp hv with e | e
      · exact ⟨j, j0, by omega, e.symm⟩
      · obtain ⟨i, i0, i1, e⟩ := hs v e
        exact ⟨i, i0, by omega, e⟩
def five (W H : Int) (l : List Int) (x y : Int) : Int := pt W H l x y + around W H l x y
def lst (W H : Int) (l : List Int) (n : Int) : List Int := tab (leastF W H l n) (W * H).toNat 0
def ngv (l : List Int) : List Int := tab (fun i => 1 - at_ l i) l.length 0
def crossA (R C : List Int) : List Int := tab (fun i => at_ C (i % C.length)) ((C.length : Int) * R.length).toNat 0
def crossB (R C : List Int) : List Int := tab (fun i => at_ R (i / C.length)) ((C.length : Int) * R.length).toNat 0
def expand : List Int → Int → List Int
  | [], _ => []
  | n :: r, i => List.replicate n.toNat (i % 2) ++ expand r (i + 1)
def runDots : List Int → Int → Int
  | [], _ => 0
  | n :: r, i => n * (i % 2) + runDots r (i + 1)
def Runs : List Int → Int → Prop
  | [], _ => True
  | n :: r, i => 0 ≤ n ∧ (0 < i → 1 ≤ n) ∧ Runs r (i + 1)
def selL (p : Int) : List Int → Int → Int
  | [], _ => 0
  | v :: r, i => (if (i / p) % 2 = 1 then v else 0) + selL p r (i + 1)
def bitF (p i : Int) : Int := if (i / p) % 2 = 1 then 1 else 0
end Go.Proofs.Ytkkcedkiohefmaa.Pic
