/- Plain facts on pictures, plates and fields as lists of numbers (no program in sight). -/
set_option linter.unusedVariables false
set_option linter.unusedSimpArgs false
namespace Go.Proofs.YtkcgnnepgebekaaGreatDoor.Pic

theorem mul_bd {x y c d : Int} (h0 : 0 ≤ x) (h1 : x ≤ c) (k0 : 0 ≤ y) (k1 : y ≤ d) : 0 ≤ x * y ∧ x * y ≤ c * d := by
  refine ⟨Int.mul_nonneg h0 k0, ?_⟩
  exact Int.le_trans (Int.mul_le_mul_of_nonneg_right h1 k0) (Int.mul_le_mul_of_nonneg_left k1 (by omega))

def at_ (l : List Int) (i : Int) : Int := l.getD i.toNat 0
theorem at_nat (l : List Int) (j : Nat) (h : j < l.length) : at_ l (j : Int) = l[j] := by
  unfold at_; rw [List.getD_eq_getElem?_getD, Int.toNat_natCast, List.getElem?_eq_getElem h, Option.getD_some]
theorem at_mem {l : List Int} {i : Int} (h0 : 0 ≤ i) (h : i < l.length) : at_ l i ∈ l := by
  have hj : i.toNat < l.length := by omega
  have := at_nat l i.toNat hj
  rw [show ((i.toNat : Nat) : Int) = i by omega] at this
  rw [this]; exact List.getElem_mem hj
theorem drop_at (l : List Int) {i : Int} (h0 : 0 ≤ i) (h : i < l.length) : l.drop i.toNat = at_ l i :: l.drop (i + 1).toNat := by
  have hj : i.toNat < l.length := by omega
  rw [List.drop_eq_getElem_cons hj, ← at_nat l i.toNat hj, show ((i.toNat : Nat) : Int) = i by omega, show (i + 1).toNat = i.toNat + 1 by omega]
theorem drop_end (l : List Int) {i : Int} (h : (l.length : Int) ≤ i) : l.drop i.toNat = [] := List.drop_eq_nil_of_le (by omega)
def Sz (W H : Int) : Prop := 1 ≤ W ∧ W ≤ 64 ∧ 1 ≤ H ∧ H ≤ 64 ∧ W * H ≤ 1024
instance (W H : Int) : Decidable (Sz W H) := inferInstanceAs (Decidable (_ ∧ _))
def In (m v : Int) : Prop := 0 ≤ v ∧ v ≤ m
instance (m v : Int) : Decidable (In m v) := inferInstanceAs (Decidable (_ ∧ _))
def All (m : Int) (l : List Int) : Prop := ∀ v ∈ l, In m v
instance (m : Int) (l : List Int) : Decidable (All m l) := inferInstanceAs (Decidable (∀ v ∈ l, In m v))
def Up (W H : Int) (l : List Int) (m : Int) : Prop := Sz W H ∧ (l.length : Int) = W * H ∧ All m l
instance (W H : Int) (l : List Int) (m : Int) : Decidable (Up W H l m) := inferInstanceAs (Decidable (_ ∧ _))
def Fld (W H : Int) (l : List Int) : Prop := Up W H l 1 ∧ (l.length : Int) ≤ 256
instance (W H : Int) (l : List Int) : Decidable (Fld W H l) := inferInstanceAs (Decidable (_ ∧ _))
theorem Sz.area {W H : Int} (h : Sz W H) : 1 ≤ W * H ∧ W * H ≤ 1024 := by
  refine ⟨?_, h.2.2.2.2⟩
  have := Int.mul_pos (show 0 < W by have := h.1; omega) (show 0 < H by have := h.2.2.1; omega); omega
theorem Sz.row {W H i : Int} (h : Sz W H) (h0 : 0 ≤ i) (h1 : i < W * H) : 0 ≤ i % W ∧ i % W < W ∧ 0 ≤ i / W ∧ i / W < H := by
  have hW := h.1
  refine ⟨Int.emod_nonneg _ (by omega), Int.emod_lt_of_pos _ (by omega), Int.ediv_nonneg h0 (by omega), ?_⟩
  apply Int.ediv_lt_of_lt_mul (by omega); rw [Int.mul_comm]; exact h1
theorem All.cons {m v : Int} {l : List Int} : All m (v :: l) ↔ In m v ∧ All m l := by simp [All]
theorem Fld.len {W H : Int} {l : List Int} (h : Fld W H l) : 1 ≤ (l.length : Int) ∧ (l.length : Int) ≤ 256 ∧ (l.length : Int) = W * H := by
  have := h.1.1.area; have := h.1.2.1; have := h.2; omega
theorem Up.set {W H : Int} {l : List Int} {m i v : Int} (h : Up W H l m) (hv : In m v) : Up W H (l.set i.toNat v) m := by
  refine ⟨h.1, by rw [List.length_set]; exact h.2.1, ?_⟩
  intro x hx
  rcases List.mem_or_eq_of_mem_set hx with e | e
  · exact h.2.2 x e
  · subst e; exact hv
theorem Fld.set {W H : Int} {l : List Int} {i v : Int} (h : Fld W H l) (hv : In 1 v) : Fld W H (l.set i.toNat v) := ⟨h.1.set hv, by rw [List.length_set]; exact h.2⟩

def rnd (d n : Int) : Int := if n - d % n < d % n then n - d % n else d % n
def far (W H i k : Int) : Int := rnd (i % W - k % W) W * rnd (i % W - k % W) W + rnd (i / W - k / W) H * rnd (i / W - k / W) H
def weight (W H i k : Int) : Int := 4096 / (1 + far W H i k)
def crowdL (W H i : Int) : List Int → Int → Int
  | [], _ => 0
  | v :: r, k => (if v = 1 then weight W H i k else 0) + crowdL W H i r (k + 1)
def crowd (W H : Int) (l : List Int) (i : Int) : Int := crowdL W H i l 0
def bestL (f : Int → Int) (ink : Int) : List Int → Int → Int → Int → Int
  | [], _, best, _ => best
  | v :: r, j, best, most => if v = ink then (if best < 0 ∨ f j > most then bestL f ink r (j + 1) j (f j) else bestL f ink r (j + 1) best most) else bestL f ink r (j + 1) best most
def ptight (W H : Int) (l : List Int) : Int := bestL (fun j => 1 * crowd W H l j) 1 l 0 (-1) 0
def pvoid (W H : Int) (l : List Int) : Int := bestL (fun j => -1 * crowd W H l j) 0 l 0 (-1) 0
def swapF (W H : Int) (l : List Int) : List Int × Bool :=
  if ptight W H l < 0 ∨ pvoid W H l < 0 then (l, false)
  else ((l.set (ptight W H l).toNat 0).set (pvoid W H (l.set (ptight W H l).toNat 0)).toNat 1, pvoid W H (l.set (ptight W H l).toNat 0) != ptight W H l)
def pswap (W H : Int) (l : List Int) : List Int × Bool := if Fld W H l then swapF W H l else (l, false)
def evenF (W H : Int) : Nat → List Int → Int → List Int × Int
  | 0, l, n => (l, n)
  | d + 1, l, n => if (swapF W H l).2 = true then evenF W H d (swapF W H l).1 (n + 1) else (l, n)
def peven (W H : Int) (l : List Int) (most : Int) : List Int × Int := if Fld W H l ∧ 0 ≤ most ∧ most ≤ 64 then evenF W H most.toNat l 0 else (l, 0)
def rankA (W H : Int) : Nat → List Int → List Int → List Int
  | 0, _, M => M
  | d + 1, F, M => rankA W H d (F.set (ptight W H F).toNat 0) (M.set (ptight W H F).toNat d)
def rankB (W H : Int) : Nat → Int → List Int → List Int → List Int
  | 0, _, _, M => M
  | d + 1, n, F, M => rankB W H d (n + 1) (F.set (pvoid W H F).toNat 1) (M.set (pvoid W H F).toNat n)
def cnt (v : Int) : List Int → Nat
  | [] => 0
  | x :: r => (if x = v then 1 else 0) + cnt v r
theorem cnt_le (v : Int) : ∀ l : List Int, cnt v l ≤ l.length := by
  intro l
  induction l with
  | nil => exact Nat.le_refl _
  | cons x l ih => unfold cnt; rw [List.length_cons]; split <;> omega
def rankF (W H : Int) (l : List Int) : List Int := rankB W H (cnt 0 l) (cnt 1 l) l (rankA W H (cnt 1 l) l (List.replicate l.length 0))
def prank (W H : Int) (l : List Int) : Int × Int × List Int × Bool := if Fld W H l then (W, H, rankF W H l, true) else (0, 0, [], false)
def sd (c i : Int) : Int := if (i * 7) % c = 0 then 1 else 0
def seedL (c : Int) : Nat → Int → List Int
  | 0, _ => []
  | d + 1, i => sd c i :: seedL c d (i + 1)
def seedOk (W H c : Int) : Prop := Sz W H ∧ W * H ≤ 256 ∧ 1 ≤ c ∧ c ≤ 100
instance (W H c : Int) : Decidable (seedOk W H c) := inferInstanceAs (Decidable (_ ∧ _))
def seed (W H c : Int) : Int × Int × List Int × Bool := if seedOk W H c then (W, H, seedL c (W * H).toNat 0, true) else (0, 0, [], false)
def dotC (W : Int) : List Int → Int → List Int
  | [], _ => []
  | v :: r, c => (if v = 1 then 35 else 46) :: (if c = W - 1 then 10 :: dotC W r 0 else dotC W r (c + 1))
def scanI : List Int → Int → Int → Int → List Int → Option (Int × Int × List Int)
  | [], run, W, H, pix => if run = 0 then some (W, H, pix) else none
  | b :: R, run, W, H, pix => if b = 46 ∨ b = 35 then scanI R (run + 1) W H (pix ++ [if b = 35 then 1 else 0])
      else if b = 10 then (if H = 0 then scanI R 0 run (H + 1) pix else if run = W then scanI R 0 W (H + 1) pix else none) else none
def scanS : List Int → Int → Int → List Int → Int × Int × List Int
  | [], W, H, pix => (W, H, pix)
  | b :: R, W, H, pix => if b = 35 then scanS R W H (pix ++ [1]) else if b = 46 then scanS R W H (pix ++ [0])
      else if b = 10 then (if H + 1 = 1 then scanS R pix.length (H + 1) pix else scanS R W (H + 1) pix) else scanS R W H pix
theorem dotC_len (W : Int) : ∀ (r : List Int) (c : Int), (dotC W r c).length ≤ 2 * r.length := by
  intro r
  induction r with
  | nil => intro c; exact Nat.le_refl _
  | cons v r ih =>
    intro c
    have h0 := ih 0; have h1 := ih (c + 1)
    unfold dotC
    rw [List.length_cons, List.length_cons]
    by_cases e : c = W - 1
    · rw [if_pos e, List.length_cons]; omega
    · rw [if_neg e]; omega
def finI : Option (Int × Int × List Int) → Int × Int × List Int × Bool
  | none => (0, 0, [], false)
  | some (W, H, l) => if Up W H l 1 then (W, H, l, true) else (0, 0, [], false)
def finS (B : List Int) (x : Int × Int × List Int) : Int × Int × List Int × Bool := if Up x.1 x.2.1 x.2.2 1 ∧ dotC x.1 x.2.2 0 = B then (x.1, x.2.1, x.2.2, true) else (0, 0, [], false)
def tab (f : Int → Int) : Nat → Int → List Int
  | 0, _ => []
  | d + 1, i => f i :: tab f d (i + 1)
def pt (W H : Int) (l : List Int) (x y : Int) : Int := at_ l (y % H * W + x % W)
theorem pt_idx {W H : Int} (hW : 1 ≤ W) (hH : 1 ≤ H) (x y : Int) : 0 ≤ y % H * W + x % W ∧ y % H * W + x % W < W * H := by
  have a1 := Int.emod_nonneg x (show W ≠ 0 by omega); have a2 := Int.emod_lt_of_pos x (show 0 < W by omega)
  have b1 := Int.emod_nonneg y (show H ≠ 0 by omega); have b2 := Int.emod_lt_of_pos y (show 0 < H by omega)
  have c1 := Int.mul_nonneg b1 (show 0 ≤ W by omega)
  have c2 := Int.mul_le_mul_of_nonneg_right (show y % H ≤ H - 1 by omega) (show 0 ≤ W by omega)
  rw [Int.sub_mul, Int.one_mul, Int.mul_comm H W] at c2
  omega
theorem xy_idx {W H x y : Int} (x0 : 0 ≤ x) (x1 : x < W) (y0 : 0 ≤ y) (y1 : y < H) : 0 ≤ y * W + x ∧ y * W + x < W * H := by
  have := pt_idx (W := W) (H := H) (by omega) (by omega) x y
  rw [Int.emod_eq_of_lt x0 x1, Int.emod_eq_of_lt y0 y1] at this; exact this
def around (W H : Int) (l : List Int) (x y : Int) : Int := pt W H l (x - 1) y + pt W H l (x + 1) y + pt W H l x (y - 1) + pt W H l x (y + 1)
def near (W H : Int) (l : List Int) (i : Int) : Int := at_ l i + around W H l (i % W) (i / W)
def leastF (W H : Int) (l : List Int) (n i : Int) : Int := if n ≤ near W H l i then 1 else 0
def least (W H : Int) (l : List Int) (n : Int) : Int × Int × List Int := if Up W H l 1 then (W, H, tab (leastF W H l n) (W * H).toNat 0) else (0, 0, [])
def p2 (j : Int) : Int := if j = 0 then 1 else if j = 1 then 2 else if j = 2 then 4 else if j = 3 then 8 else 16
def gcdF : Nat → Int → Int → Int
  | 0, a, _ => a
  | d + 1, a, b => if b = 0 then a else gcdF d b (Int.tmod a b)
theorem gcdF_ne : ∀ (d : Nat) (a b : Int), b.natAbs < d → (a ≠ 0 ∨ b ≠ 0) → gcdF d a b ≠ 0 := by
  intro d
  induction d with
  | zero => intro a b h _; omega
  | succ d ih =>
    intro a b h hn
    unfold gcdF
    by_cases e : b = 0
    · rw [if_pos e]; exact hn.resolve_right (fun x => x e)
    · rw [if_neg e]
      refine ih b _ ?_ (.inl e)
      rw [Int.natAbs_tmod]
      have := Nat.mod_lt a.natAbs (show 0 < b.natAbs by omega)
      omega

def marks (m : Int) : Nat → List Int
  | 0 => []
  | d + 1 => m :: marks (m + 1) d
end Go.Proofs.YtkcgnnepgebekaaGreatDoor.Pic
