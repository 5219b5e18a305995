/- Plain facts, the second part (no program in sight). -/
import Derived.Test.YtkcgnnepgebekaaGreatDoorPic
set_option linter.unusedVariables false
set_option linter.unusedSimpArgs false
namespace Go.Proofs.YtkcgnnepgebekaaGreatDoor.Pic

def S1 (g : Int → Int) : Nat → Int
  | 0 => 0
  | n + 1 => S1 g n + g n
def tot : List Int → Int
  | [] => 0
  | v :: r => v + tot r
def lowA (F M : List Int) (r : Int) : List Int := tab (fun j => if at_ F j = 1 ∧ at_ M j < r then 1 else 0) F.length 0
def lowB (F M : List Int) (r : Int) : List Int := tab (fun j => if at_ F j = 1 ∨ at_ M j < r then 1 else 0) F.length 0
def cellsB (M : List Int) (r : Int) : List Int := tab (fun j => if at_ M j < r then 1 else 0) M.length 0
def Cel (W H : Int) : Prop := 1 ≤ W ∧ W ≤ 256 ∧ 1 ≤ H ∧ H ≤ 256 ∧ W * H ≤ 256
instance (W H : Int) : Decidable (Cel W H) := inferInstanceAs (Decidable (_ ∧ _))
theorem Cel.area {W H : Int} (h : Cel W H) : 1 ≤ W * H ∧ W * H ≤ 256 := by
  refine ⟨?_, h.2.2.2.2⟩
  have := Int.mul_pos (show 0 < W by have := h.1; omega) (show 0 < H by have := h.2.2.1; omega); omega
def newL (n : Int) : List Int → List Int → Prop
  | [], _ => True
  | v :: r, seen => (0 ≤ v ∧ v < n) ∧ v ∉ seen ∧ newL n r (v :: seen)
instance decNewL (n : Int) : ∀ (r seen : List Int), Decidable (newL n r seen)
  | [], _ => isTrue trivial
  | v :: r, seen => by unfold newL; exact @instDecidableAnd _ _ inferInstance (@instDecidableAnd _ _ inferInstance (decNewL n r (v :: seen)))
def Mtx (W H : Int) (l : List Int) : Prop := Cel W H ∧ (l.length : Int) = W * H ∧ newL l.length l []
instance (W H : Int) (l : List Int) : Decidable (Mtx W H l) := inferInstanceAs (Decidable (_ ∧ _))
def five (W H : Int) (l : List Int) (x y : Int) : Int := pt W H l x y + around W H l x y
def lst (W H : Int) (l : List Int) (n : Int) : List Int := tab (leastF W H l n) (W * H).toNat 0
def ngv (l : List Int) : List Int := tab (fun i => 1 - at_ l i) l.length 0
theorem gcdF_pos : ∀ (d : Nat) (a b : Int), b.natAbs < d → 0 ≤ a → 0 ≤ b → 0 ≤ gcdF d a b := by
  intro d
  induction d with
  | zero => intro a b h _ _; omega
  | succ d ih =>
    intro a b h a0 b0
    unfold gcdF
    by_cases e : b = 0
    · rw [if_pos e]; exact a0
    · rw [if_neg e]
      refine ih b _ ?_ b0 (Int.tmod_nonneg _ a0)
      rw [Int.natAbs_tmod]
      have := Nat.mod_lt a.natAbs (show 0 < b.natAbs by omega)
      omega

def crossA (R C : List Int) : List Int := tab (fun i => at_ C (i % C.length)) ((C.length : Int) * R.length).toNat 0
def crossB (R C : List Int) : List Int := tab (fun i => at_ R (i / C.length)) ((C.length : Int) * R.length).toNat 0
def expand : List Int → Int → List Int
  | [], _ => []
  | n :: r, i => List.replicate n.toNat (i % 2) ++ expand r (i + 1)
def runDots : List Int → Int → Int
  | [], _ => 0
  | n :: r, i => n * (i % 2) + runDots r (i + 1)
def Runs : List Int → Int → Prop
  | [], _ => True
  | n :: r, i => 0 ≤ n ∧ (0 < i → 1 ≤ n) ∧ Runs r (i + 1)
def selL (p : Int) : List Int → Int → Int
  | [], _ => 0
  | v :: r, i => (if (i / p) % 2 = 1 then v else 0) + selL p r (i + 1)
def bitF (p i : Int) : Int := if (i / p) % 2 = 1 then 1 else 0
end Go.Proofs.YtkcgnnepgebekaaGreatDoor.Pic
