/- Plain facts on pictures, plates and fields as lists of numbers: sizes, amounts, weights, crowds, best points, steps, marks (no program in sight). -/
set_option linter.unusedVariables false
set_option linter.unusedSimpArgs false
namespace Go.Proofs.Ytmahpennnnajcaa.Pic

/-! ### numbers -/
theorem mul_bd {x y c d : Int} (h0 : 0 ≤ x) (h1 : x ≤ c) (k0 : 0 ≤ y) (k1 : y ≤ d) : 0 ≤ x * y ∧ x * y ≤ c * d := by
  refine ⟨Int.mul_nonneg h0 k0, ?_⟩
  exact Int.le_trans (Int.mul_le_mul_of_nonneg_right h1 k0) (Int.mul_le_mul_of_nonneg_left k1 (by omega))

/-! ### lists, read by numbers -/
/-- element i -/
def at_ (l : List Int) (i : Int) : Int := l.getD i.toNat 0
theorem at_nat (l : List Int) (j : Nat) (h : j < l.length) : at_ l (j : Int) = l[j] := by
  unfold at_; rw [List.getD_eq_getElem?_getD, Int.toNat_natCast, List.getElem?_eq_getElem h, Option.getD_some]
theorem at_mem {l : List Int} {i : Int} (h0 : 0 ≤ i) (h : i < l.length) : at_ l i ∈ l := by
  have hj : i.toNat < l.length := by omega
  have := at_nat l i.toNat hj
  rw [show ((i.toNat : Nat) : Int) = i by omega] at this
  rw [this]; exact List.getElem_mem hj
theorem drop_at (l : List Int) {i : Int} (h0 : 0 ≤ i) (h : i < l.length) : l.drop i.toNat = at_ l i :: l.drop (i + 1).toNat := by
  have hj : i.toNat < l.length := by omega
  rw [List.drop_eq_getElem_cons hj, ← at_nat l i.toNat hj, show ((i.toNat : Nat) : Int) = i by omega, show (i + 1).toNat = i.toNat + 1 by omega]
theorem drop_end (l : List Int) {i : Int} (h : (l.length : Int) ≤ i) : l.drop i.toNat = [] := List.drop_eq_nil_of_le (by omega)
theorem at_set {l : List Int} {i j v : Int} (h0 : 0 ≤ i) (h : i < l.length) (j0 : 0 ≤ j) : at_ (l.set i.toNat v) j = if j = i then v else at_ l j := by
  unfold at_
  rw [List.getD_eq_getElem?_getD, List.getD_eq_getElem?_getD, List.getElem?_set]
  by_cases e : j = i
  · subst e; rw [if_pos rfl, if_pos (by omega), if_pos rfl]; rfl
  · rw [if_neg (by omega), if_neg e]

/-! ### sizes, pictures, plates, fields -/
def Sz (W H : Int) : Prop := 1 ≤ W ∧ W ≤ 64 ∧ 1 ≤ H ∧ H ≤ 64 ∧ W * H ≤ 1024
instance (W H : Int) : Decidable (Sz W H) := inferInstanceAs (Decidable (_ ∧ _))
def In (m v : Int) : Prop := 0 ≤ v ∧ v ≤ m
instance (m v : Int) : Decidable (In m v) := inferInstanceAs (Decidable (_ ∧ _))
def All (m : Int) (l : List Int) : Prop := ∀ v ∈ l, In m v
instance (m : Int) (l : List Int) : Decidable (All m l) := inferInstanceAs (Decidable (∀ v ∈ l, In m v))
/-- a picture with amounts up to m -/
def Up (W H : Int) (l : List Int) (m : Int) : Prop := Sz W H ∧ (l.length : Int) = W * H ∧ All m l
instance (W H : Int) (l : List Int) (m : Int) : Decidable (Up W H l m) := inferInstanceAs (Decidable (_ ∧ _))
/-- a field -/
def Fld (W H : Int) (l : List Int) : Prop := Up W H l 1 ∧ (l.length : Int) ≤ 256
instance (W H : Int) (l : List Int) : Decidable (Fld W H l) := inferInstanceAs (Decidable (_ ∧ _))
theorem Sz.area {W H : Int} (h : Sz W H) : 1 ≤ W * H ∧ W * H ≤ 1024 := by
  refine ⟨?_, h.2.2.2.2⟩
  have := Int.mul_pos (show 0 < W by have := h.1; omega) (show 0 < H by have := h.2.2.1; omega); omega
theorem Sz.row {W H i : Int} (h : Sz W H) (h0 : 0 ≤ i) (h1 : i < W * H) : 0 ≤ i % W ∧ i % W < W ∧ 0 ≤ i / W ∧ i / W < H := by
  have hW := h.1
  refine ⟨Int.emod_nonneg _ (by omega), Int.emod_lt_of_pos _ (by omega), Int.ediv_nonneg h0 (by omega), ?_⟩
  apply Int.ediv_lt_of_lt_mul (by omega); rw [Int.mul_comm]; exact h1
theorem All.cons {m v : Int} {l : List Int} : All m (v :: l) ↔ In m v ∧ All m l := by simp [All]
theorem Fld.len {W H : Int} {l : List Int} (h : Fld W H l) : 1 ≤ (l.length : Int) ∧ (l.length : Int) ≤ 256 ∧ (l.length : Int) = W * H := by
  have := h.1.1.area; have := h.1.2.1; have := h.2; omega
theorem Up.set {W H : Int} {l : List Int} {m i v : Int} (h : Up W H l m) (hv : In m v) : Up W H (l.set i.toNat v) m := by
  refine ⟨h.1, by rw [List.length_set]; exact h.2.1, ?_⟩
  intro x hx
  rcases List.mem_or_eq_of_mem_set hx with e | e
  · exact h.2.2 x e
  · subst e; exact hv
theorem Fld.set {W H : Int} {l : List Int} {i v : Int} (h : Fld W H l) (hv : In 1 v) : Fld W H (l.set i.toNat v) := ⟨h.1.set hv, by rw [List.length_set]; exact h.2⟩

/-! ### weights and crowds -/
/-- the shorter way round -/
def rnd (d n : Int) : Int := if n - d % n < d % n then n - d % n else d % n
theorem rnd_bd {d n : Int} (hn : 1 ≤ n) : 0 ≤ rnd d n ∧ rnd d n ≤ n := by
  have h1 := Int.emod_nonneg d (show n ≠ 0 by omega); have h2 := Int.emod_lt_of_pos d (show 0 < n by omega)
  unfold rnd; split <;> omega
def far (W H i k : Int) : Int := rnd (i % W - k % W) W * rnd (i % W - k % W) W + rnd (i / W - k / W) H * rnd (i / W - k / W) H
theorem far_bd {W H : Int} (h : Sz W H) (i k : Int) : 0 ≤ far W H i k ∧ far W H i k ≤ 8192 := by
  have a := rnd_bd (d := i % W - k % W) h.1; have b := rnd_bd (d := i / W - k / W) h.2.2.1
  have ha := mul_bd (c := 64) (d := 64) a.1 (by have := h.2.1; omega) a.1 (by have := h.2.1; omega)
  have hb := mul_bd (c := 64) (d := 64) b.1 (by have := h.2.2.2.1; omega) b.1 (by have := h.2.2.2.1; omega)
  unfold far; omega
def weight (W H i k : Int) : Int := 4096 / (1 + far W H i k)
theorem weight_bd {W H : Int} (h : Sz W H) (i k : Int) : 0 ≤ weight W H i k ∧ weight W H i k ≤ 4096 := by
  have := far_bd h i k
  exact ⟨Int.ediv_nonneg (by omega) (by omega), by unfold weight; exact Int.ediv_le_self _ (by omega)⟩
/-- the crowd at i of the points from k on -/
def crowdL (W H i : Int) : List Int → Int → Int
  | [], _ => 0
  | v :: r, k => (if v = 1 then weight W H i k else 0) + crowdL W H i r (k + 1)
def crowd (W H : Int) (l : List Int) (i : Int) : Int := crowdL W H i l 0
theorem crowdL_bd {W H : Int} (h : Sz W H) (i : Int) (l : List Int) : ∀ k, 0 ≤ crowdL W H i l k ∧ crowdL W H i l k ≤ 4096 * l.length := by
  induction l with
  | nil => intro k; simp [crowdL]
  | cons v l ih =>
    intro k
    have := ih (k + 1); have := weight_bd h i k
    simp only [crowdL, List.length_cons]; split <;> omega
/-- the first point with an amount and the greatest f -/
def bestL (f : Int → Int) (ink : Int) : List Int → Int → Int → Int → Int
  | [], _, best, _ => best
  | v :: r, j, best, most => if v = ink then (if best < 0 ∨ f j > most then bestL f ink r (j + 1) j (f j) else bestL f ink r (j + 1) best most) else bestL f ink r (j + 1) best most
def ptight (W H : Int) (l : List Int) : Int := bestL (fun j => 1 * crowd W H l j) 1 l 0 (-1) 0
def pvoid (W H : Int) (l : List Int) : Int := bestL (fun j => -1 * crowd W H l j) 0 l 0 (-1) 0
theorem bestL_in (f : Int → Int) (ink : Int) (L : List Int) : ∀ (r : List Int) (j best most : Int), L.drop j.toNat = r → 0 ≤ j → (best = -1 ∨ 0 ≤ best ∧ best < L.length ∧ at_ L best = ink) →
    (bestL f ink r j best most = -1 ∨ 0 ≤ bestL f ink r j best most ∧ bestL f ink r j best most < L.length ∧ at_ L (bestL f ink r j best most) = ink) := by
  intro r
  induction r with
  | nil => intro j best most _ _ h; exact h
  | cons v r ih =>
    intro j best most hd h0 h
    have hj : j < L.length := by
      have : (L.drop j.toNat).length = r.length + 1 := by rw [hd]; rfl
      rw [List.length_drop] at this; omega
    rw [drop_at L h0 hj] at hd
    injection hd with hv hr
    unfold bestL
    split
    · rename_i e
      split
      · exact ih (j + 1) j (f j) hr (by omega) (.inr ⟨h0, hj, by rw [hv]; exact e⟩)
      · exact ih (j + 1) best most hr (by omega) h
    · exact ih (j + 1) best most hr (by omega) h
theorem bestL_has (f : Int → Int) (ink : Int) : ∀ (r : List Int) (j best most : Int), 0 ≤ j → (0 ≤ best ∨ ink ∈ r) → 0 ≤ bestL f ink r j best most := by
  intro r
  induction r with
  | nil => intro j best most _ h; rcases h with h | h; exact h; simp at h
  | cons v r ih =>
    intro j best most h0 h
    unfold bestL
    split
    · split
      · exact ih (j + 1) j (f j) (by omega) (.inl h0)
      · rename_i hb; exact ih (j + 1) best most (by omega) (.inl (by omega))
    · rename_i hv
      apply ih (j + 1) best most (by omega)
      rcases h with h | h
      · exact .inl h
      · rcases List.mem_cons.mp h with e | e
        · exact absurd e.symm hv
        · exact .inr e
theorem tight_in (W H : Int) (l : List Int) : ptight W H l = -1 ∨ 0 ≤ ptight W H l ∧ ptight W H l < l.length ∧ at_ l (ptight W H l) = 1 := bestL_in _ 1 l l 0 (-1) 0 rfl (by omega) (.inl rfl)
theorem void_in (W H : Int) (l : List Int) : pvoid W H l = -1 ∨ 0 ≤ pvoid W H l ∧ pvoid W H l < l.length ∧ at_ l (pvoid W H l) = 0 := bestL_in _ 0 l l 0 (-1) 0 rfl (by omega) (.inl rfl)
theorem tight_has {W H : Int} {l : List Int} (h : (1 : Int) ∈ l) : 0 ≤ ptight W H l := bestL_has _ 1 l 0 (-1) 0 (by omega) (.inr h)
theorem void_has {W H : Int} {l : List Int} (h : (0 : Int) ∈ l) : 0 ≤ pvoid W H l := bestL_has _ 0 l 0 (-1) 0 (by omega) (.inr h)
theorem mem_set_self {l : List Int} {i v : Int} (h0 : 0 ≤ i) (h : i < l.length) : v ∈ l.set i.toNat v := List.mem_iff_getElem.mpr ⟨i.toNat, by rw [List.length_set]; omega, by rw [List.getElem_set]; simp⟩

/-! ### steps -/
/-- one step, on a field -/
def swapF (W H : Int) (l : List Int) : List Int × Bool :=
  if ptight W H l < 0 ∨ pvoid W H l < 0 then (l, false)
  else ((l.set (ptight W H l).toNat 0).set (pvoid W H (l.set (ptight W H l).toNat 0)).toNat 1, pvoid W H (l.set (ptight W H l).toNat 0) != ptight W H l)
def pswap (W H : Int) (l : List Int) : List Int × Bool := if Fld W H l then swapF W H l else (l, false)
theorem swapF_field {W H : Int} {l : List Int} (h : Fld W H l) : Fld W H (swapF W H l).1 := by
  unfold swapF; split
  · exact h
  · exact (h.set ⟨by omega, by omega⟩).set ⟨by omega, by omega⟩
theorem swap_len (W H : Int) (l : List Int) : (pswap W H l).1.length = l.length := by
  unfold pswap; split
  · unfold swapF; split <;> simp
  · rfl
/-- d steps at most, n done -/
def evenF (W H : Int) : Nat → List Int → Int → List Int × Int
  | 0, l, n => (l, n)
  | d + 1, l, n => if (swapF W H l).2 = true then evenF W H d (swapF W H l).1 (n + 1) else (l, n)
def peven (W H : Int) (l : List Int) (most : Int) : List Int × Int := if Fld W H l ∧ 0 ≤ most ∧ most ≤ 64 then evenF W H most.toNat l 0 else (l, 0)
theorem evenF_field {W H : Int} : ∀ (d : Nat) (l : List Int) (n : Int), Fld W H l → Fld W H (evenF W H d l n).1 := by
  intro d
  induction d with
  | zero => intro l n h; exact h
  | succ d ih =>
    intro l n h
    unfold evenF
    split
    · exact ih _ _ (swapF_field h)
    · exact h

theorem swapF_len (W H : Int) (l : List Int) : (swapF W H l).1.length = l.length := by unfold swapF; split <;> simp
theorem evenF_len {W H : Int} : ∀ (d : Nat) (l : List Int) (n : Int), (evenF W H d l n).1.length = l.length := by
  intro d
  induction d with
  | zero => intro l n; rfl
  | succ d ih =>
    intro l n
    unfold evenF
    split
    · rw [ih, swapF_len]
    · rfl
theorem even_len (W H : Int) (l : List Int) (most : Int) : (peven W H l most).1.length = l.length := by
  unfold peven; split
  · exact evenF_len _ _ _
  · rfl

/-! ### ranks -/
def rankA (W H : Int) : Nat → List Int → List Int → List Int
  | 0, _, M => M
  | d + 1, F, M => rankA W H d (F.set (ptight W H F).toNat 0) (M.set (ptight W H F).toNat d)
def rankB (W H : Int) : Nat → Int → List Int → List Int → List Int
  | 0, _, _, M => M
  | d + 1, n, F, M => rankB W H d (n + 1) (F.set (pvoid W H F).toNat 1) (M.set (pvoid W H F).toNat n)
theorem rankA_len (W H : Int) : ∀ (d : Nat) (F M : List Int), (rankA W H d F M).length = M.length := by
  intro d
  induction d with
  | zero => intro F M; rfl
  | succ d ih => intro F M; rw [rankA, ih, List.length_set]
theorem rankB_len (W H : Int) : ∀ (d : Nat) (n : Int) (F M : List Int), (rankB W H d n F M).length = M.length := by
  intro d
  induction d with
  | zero => intro n F M; rfl
  | succ d ih => intro n F M; rw [rankB, ih, List.length_set]
/-- how many v -/
def cnt (v : Int) : List Int → Nat
  | [] => 0
  | x :: r => (if x = v then 1 else 0) + cnt v r
theorem cnt_pos {v : Int} : ∀ {l : List Int}, 1 ≤ cnt v l → v ∈ l := by
  intro l
  induction l with
  | nil => intro h; simp [cnt] at h
  | cons x l ih =>
    intro h
    unfold cnt at h
    by_cases e : x = v
    · rw [e]; exact List.mem_cons_self
    · rw [if_neg e] at h; exact List.mem_cons_of_mem _ (ih (by omega))
theorem cnt_le (v : Int) : ∀ l : List Int, cnt v l ≤ l.length := by
  intro l
  induction l with
  | nil => exact Nat.le_refl _
  | cons x l ih => unfold cnt; rw [List.length_cons]; split <;> omega
theorem cnt_two {l : List Int} (h : All 1 l) : cnt 0 l + cnt 1 l = l.length := by
  induction l with
  | nil => rfl
  | cons x l ih =>
    have h1 := All.cons.mp h
    have := ih h1.2
    have hx := h1.1
    unfold cnt; rw [List.length_cons]
    unfold In at hx
    by_cases e : x = 0
    · rw [if_pos e, if_neg (by omega)]; omega
    · rw [if_neg e, if_pos (by omega)]; omega
theorem cnt_set {v u : Int} : ∀ {l : List Int} {i : Nat} (h : i < l.length), l[i] = v → u ≠ v → cnt v (l.set i u) + 1 = cnt v l := by
  intro l
  induction l with
  | nil => intro i h; simp at h
  | cons x l ih =>
    intro i h e hu
    cases i with
    | zero =>
      simp only [List.getElem_cons_zero] at e
      simp only [List.set_cons_zero, cnt]
      rw [if_neg hu, if_pos e]; omega
    | succ i =>
      simp only [List.getElem_cons_succ] at e
      simp only [List.set_cons_succ, cnt]
      have := ih (i := i) (by simpa using h) e hu
      omega
theorem cnt_at {v u : Int} {l : List Int} {i : Int} (h0 : 0 ≤ i) (h : i < l.length) (e : at_ l i = v) (hu : u ≠ v) : cnt v (l.set i.toNat u) + 1 = cnt v l := by
  have hj : i.toNat < l.length := by omega
  refine cnt_set hj ?_ hu
  rw [← at_nat l i.toNat hj, show ((i.toNat : Nat) : Int) = i by omega]; exact e
def rankF (W H : Int) (l : List Int) : List Int := rankB W H (cnt 0 l) (cnt 1 l) l (rankA W H (cnt 1 l) l (List.replicate l.length 0))
theorem rankF_len (W H : Int) (l : List Int) : (rankF W H l).length = l.length := by unfold rankF; rw [rankB_len, rankA_len, List.length_replicate]
def prank (W H : Int) (l : List Int) : Int × Int × List Int × Bool := if Fld W H l then (W, H, rankF W H l, true) else (0, 0, [], false)
theorem prank_len (W H : Int) (l : List Int) : (prank W H l).2.2.1.length ≤ l.length := by
  unfold prank; split
  · exact Nat.le_of_eq (rankF_len W H l)
  · exact Nat.zero_le _

/-! ### seeds -/
def sd (c i : Int) : Int := if (i * 7) % c = 0 then 1 else 0
def seedL (c : Int) : Nat → Int → List Int
  | 0, _ => []
  | d + 1, i => sd c i :: seedL c d (i + 1)
theorem seedL_length (c : Int) (d : Nat) : ∀ i, (seedL c d i).length = d := by
  induction d with
  | zero => intro i; rfl
  | succ d ih => intro i; simp [seedL, ih]
theorem seedL_at (c : Int) (d : Nat) : ∀ (i : Int) (j : Nat), j < d → (seedL c d i)[j]? = some (sd c (i + j)) := by
  induction d with
  | zero => intro i j h; omega
  | succ d ih =>
    intro i j h
    cases j with
    | zero => simp [seedL]
    | succ j => simp only [seedL, List.getElem?_cons_succ]; rw [ih (i + 1) j (by omega)]; rw [show i + 1 + (j : Int) = i + ((j + 1 : Nat) : Int) by omega]
theorem seedL_range (c : Int) (n : Nat) : (List.range n).map (fun i : Nat => sd c i) = seedL c n 0 := by
  apply List.ext_getElem?
  intro j
  by_cases h : j < n
  · rw [seedL_at c n 0 j h, List.getElem?_map, List.getElem?_range h]; simp
  · rw [List.getElem?_eq_none (by simp; omega), List.getElem?_eq_none (by rw [seedL_length]; omega)]
def seedOk (W H c : Int) : Prop := Sz W H ∧ W * H ≤ 256 ∧ 1 ≤ c ∧ c ≤ 100
instance (W H c : Int) : Decidable (seedOk W H c) := inferInstanceAs (Decidable (_ ∧ _))
def seed (W H c : Int) : Int × Int × List Int × Bool := if seedOk W H c then (W, H, seedL c (W * H).toNat 0, true) else (0, 0, [], false)
theorem seed_len (W H c : Int) : (seed W H c).2.2.1.length ≤ 1048576 := by
  unfold seed; split
  · rename_i h
    show (seedL c (W * H).toNat 0).length ≤ _
    rw [seedL_length]; have := h.2.1; omega
  · exact Nat.zero_le _

/-! ### texts -/
/-- the rest of a plate as bytes, from column c on -/
def dotC (W : Int) : List Int → Int → List Int
  | [], _ => []
  | v :: r, c => (if v = 1 then 35 else 46) :: (if c = W - 1 then 10 :: dotC W r 0 else dotC W r (c + 1))
/-- a strict reader -/
def scanI : List Int → Int → Int → Int → List Int → Option (Int × Int × List Int)
  | [], run, W, H, pix => if run = 0 then some (W, H, pix) else none
  | b :: R, run, W, H, pix => if b = 46 ∨ b = 35 then scanI R (run + 1) W H (pix ++ [if b = 35 then 1 else 0])
      else if b = 10 then (if H = 0 then scanI R 0 run (H + 1) pix else if run = W then scanI R 0 W (H + 1) pix else none) else none
/-- a lax reader -/
def scanS : List Int → Int → Int → List Int → Int × Int × List Int
  | [], W, H, pix => (W, H, pix)
  | b :: R, W, H, pix => if b = 35 then scanS R W H (pix ++ [1]) else if b = 46 then scanS R W H (pix ++ [0])
      else if b = 10 then (if H + 1 = 1 then scanS R pix.length (H + 1) pix else scanS R W (H + 1) pix) else scanS R W H pix
theorem dotC_len (W : Int) : ∀ (r : List Int) (c : Int), (dotC W r c).length ≤ 2 * r.length := by
  intro r
  induction r with
  | nil => intro c; exact Nat.le_refl _
  | cons v r ih =>
    intro c
    have h0 := ih 0; have h1 := ih (c + 1)
    unfold dotC
    rw [List.length_cons, List.length_cons]
    by_cases e : c = W - 1
    · rw [if_pos e, List.length_cons]; omega
    · rw [if_neg e]; omega
theorem dotC_byte (W : Int) : ∀ (r : List Int) (c : Int), ∀ b ∈ dotC W r c, 0 ≤ b ∧ b ≤ 255 := by
  intro r
  induction r with
  | nil => intro c b h; simp [dotC] at h
  | cons v r ih =>
    intro c b h
    unfold dotC at h
    rcases List.mem_cons.mp h with e | e
    · subst e; split <;> omega
    · split at e
      · rcases List.mem_cons.mp e with e | e
        · subst e; omega
        · exact ih _ b e
      · exact ih _ b e
theorem rows_nil {W c : Int} {n : Nat} (h1 : c < W) (h0 : 0 ≤ c) (e : c = n * W) : n = 0 ∧ c = 0 := by
  cases n with
  | zero => simp at e; exact ⟨rfl, e⟩
  | succ n =>
    have := Int.mul_nonneg (show (0 : Int) ≤ n by omega) (show 0 ≤ W by omega)
    have e2 : ((n + 1 : Nat) : Int) * W = n * W + W := by rw [Int.natCast_add, Int.add_mul]; simp
    omega
theorem rows_cons {W c a : Int} {n : Nat} (hW : 1 ≤ W) (h1 : c < W) (h0 : 0 ≤ c) (ha : 0 ≤ a) (e : a + 1 + c = n * W) : ∃ m : Nat, n = m + 1 ∧ ((m : Int) * W + W = a + 1 + c) := by
  cases n with
  | zero => simp at e; omega
  | succ n =>
    have e2 : ((n + 1 : Nat) : Int) * W = n * W + W := by rw [Int.natCast_add, Int.add_mul]; simp
    exact ⟨n, rfl, by omega⟩
theorem scanI_dot {W : Int} (hW : 1 ≤ W) : ∀ (r : List Int) (c V H : Int) (n : Nat) (pix : List Int), All 1 r → 0 ≤ c → c < W → 0 ≤ H → (0 < H → V = W) → 0 < H + n → (r.length : Int) + c = n * W →
    scanI (dotC W r c) c V H pix = some (W, H + n, pix ++ r) := by
  intro r
  induction r with
  | nil =>
    intro c V H n pix hA h0 h1 hH hV hn hl
    obtain ⟨e1, e2⟩ := rows_nil h1 h0 (by simpa using hl)
    subst e1; subst e2
    unfold dotC scanI; rw [if_pos rfl, hV (by simpa using hn)]; simp
  | cons v r ih =>
    intro c V H n pix hA h0 h1 hH hV hn hl
    obtain ⟨hv, hr⟩ := All.cons.mp hA
    obtain ⟨m, rfl, hm⟩ := rows_cons hW h1 h0 (show 0 ≤ (r.length : Int) by omega) (by simpa using hl)
    have hb : (if (if v = 1 then (35 : Int) else 46) = 35 then (1 : Int) else 0) = v := by unfold In at hv; by_cases e : v = 1 <;> simp [e] <;> omega
    have hc : (if v = 1 then (35 : Int) else 46) = 46 ∨ (if v = 1 then (35 : Int) else 46) = 35 := by split <;> simp
    unfold dotC scanI
    rw [if_pos hc, hb]
    by_cases e : c = W - 1
    · rw [if_pos e]
      have ihm := fun V' hV' => ih 0 V' (H + 1) m (pix ++ [v]) hr (by omega) (by omega) (by omega) hV' (by omega) (by omega)
      unfold scanI
      rw [if_neg (by decide), if_pos rfl]
      by_cases eH : H = 0
      · rw [if_pos eH, ihm (c + 1) (fun _ => by omega)]
        simp only [List.append_assoc, List.singleton_append]
        rw [show H + 1 + (m : Int) = H + ((m + 1 : Nat) : Int) by omega]
      · rw [if_neg eH, if_pos (by rw [hV (by omega)]; omega), ihm V (fun _ => hV (by omega))]
        simp only [List.append_assoc, List.singleton_append]
        rw [show H + 1 + (m : Int) = H + ((m + 1 : Nat) : Int) by omega]
    · rw [if_neg e, ih (c + 1) V H (m + 1) (pix ++ [v]) hr (by omega) (by omega) hH hV hn (by rw [Int.natCast_add, Int.add_mul]; simp; omega)]
      simp only [List.append_assoc, List.singleton_append]
theorem scanS_dot {W : Int} (hW : 1 ≤ W) : ∀ (r : List Int) (c V H : Int) (n : Nat) (pix : List Int), All 1 r → 0 ≤ c → c < W → 0 ≤ H → (H = 0 → (pix.length : Int) = c) → (0 < H → V = W) → 0 < H + n → (r.length : Int) + c = n * W →
    scanS (dotC W r c) V H pix = (W, H + n, pix ++ r) := by
  intro r
  induction r with
  | nil =>
    intro c V H n pix hA h0 h1 hH hP hV hn hl
    obtain ⟨e1, e2⟩ := rows_nil h1 h0 (by simpa using hl)
    subst e1; subst e2
    unfold dotC scanS; rw [hV (by simpa using hn)]; simp
  | cons v r ih =>
    intro c V H n pix hA h0 h1 hH hP hV hn hl
    obtain ⟨hv, hr⟩ := All.cons.mp hA
    obtain ⟨m, rfl, hm⟩ := rows_cons hW h1 h0 (show 0 ≤ (r.length : Int) by omega) (by simpa using hl)
    have step : ∀ R, scanS ((if v = 1 then (35 : Int) else 46) :: R) V H pix = scanS R V H (pix ++ [v]) := by
      intro R
      unfold In at hv
      by_cases e : v = 1
      · subst e; rfl
      · have : v = 0 := by omega
        subst this; rfl
    unfold dotC
    rw [step]
    by_cases e : c = W - 1
    · rw [if_pos e]
      have ihm := fun V' hV' => ih 0 V' (H + 1) m (pix ++ [v]) hr (by omega) (by omega) (by omega) (by omega) hV' (by omega) (by omega)
      unfold scanS
      rw [if_neg (by decide), if_neg (by decide), if_pos rfl]
      by_cases eH : H = 0
      · have hp := hP eH
        rw [if_pos (by omega), ihm _ (fun _ => by simp; omega)]
        simp only [List.append_assoc, List.singleton_append]
        rw [show H + 1 + (m : Int) = H + ((m + 1 : Nat) : Int) by omega]
      · rw [if_neg (by omega), ihm V (fun _ => hV (by omega))]
        simp only [List.append_assoc, List.singleton_append]
        rw [show H + 1 + (m : Int) = H + ((m + 1 : Nat) : Int) by omega]
    · rw [if_neg e, ih (c + 1) V H (m + 1) (pix ++ [v]) hr (by omega) (by omega) hH (fun z => by have := hP z; simp; omega) hV hn (by rw [Int.natCast_add, Int.add_mul]; simp; omega)]
      simp only [List.append_assoc, List.singleton_append]
theorem scanI_inv : ∀ (R : List Int) (run V H : Int) (pix : List Int) (W G : Int) (l : List Int), 0 ≤ run → 0 ≤ H → 1 ≤ W → scanI R run V H pix = some (W, G, l) →
    (0 < H → V = W) ∧ ∃ more, l = pix ++ more ∧ ((run = W ∧ R = 10 :: dotC W more 0) ∨ (run < W ∧ R = dotC W more run)) := by
  intro R
  induction R with
  | nil =>
    intro run V H pix W G l h0 hH hW h
    unfold scanI at h
    split at h
    · injection h with h; injection h with h1 h2; injection h2 with h2 h3
      subst h1; subst h3
      exact ⟨fun _ => rfl, [], by simp, .inr ⟨by omega, rfl⟩⟩
    · exact absurd h (by simp)
  | cons b R ih =>
    intro run V H pix W G l h0 hH hW h
    unfold scanI at h
    by_cases hb : b = 46 ∨ b = 35
    · rw [if_pos hb] at h
      obtain ⟨h1, more, h2, h3⟩ := ih _ _ _ _ _ _ _ (by omega) hH hW h
      have hbv : (if (if b = 35 then (1 : Int) else 0) = 1 then (35 : Int) else 46) = b := by
        rcases hb with e | e <;> subst e <;> rfl
      refine ⟨h1, (if b = 35 then 1 else 0) :: more, by rw [h2]; simp, .inr ?_⟩
      rcases h3 with ⟨e1, e2⟩ | ⟨e1, e2⟩
      · exact ⟨by omega, by rw [dotC, hbv, if_pos (by omega), e2]⟩
      · exact ⟨by omega, by rw [dotC, hbv, if_neg (by omega), e2]⟩
    · rw [if_neg hb] at h
      by_cases h10 : b = 10
      · rw [if_pos h10] at h
        subst h10
        by_cases eH : H = 0
        · rw [if_pos eH] at h
          obtain ⟨h1, more, h2, h3⟩ := ih _ _ _ _ _ _ _ (by omega) (by omega) hW h
          have e := h1 (by omega)
          refine ⟨fun z => by omega, more, h2, .inl ⟨e, ?_⟩⟩
          rcases h3 with ⟨e1, _⟩ | ⟨_, e2⟩
          · omega
          · rw [e2]
        · rw [if_neg eH] at h
          by_cases er : run = V
          · rw [if_pos er] at h
            obtain ⟨h1, more, h2, h3⟩ := ih _ _ _ _ _ _ _ (by omega) (by omega) hW h
            have e := h1 (by omega)
            refine ⟨fun _ => e, more, h2, .inl ⟨by omega, ?_⟩⟩
            rcases h3 with ⟨e1, _⟩ | ⟨_, e2⟩
            · omega
            · rw [e2]
          · rw [if_neg er] at h; exact absurd h (by simp)
      · rw [if_neg h10] at h; exact absurd h (by simp)
def finI : Option (Int × Int × List Int) → Int × Int × List Int × Bool
  | none => (0, 0, [], false)
  | some (W, H, l) => if Up W H l 1 then (W, H, l, true) else (0, 0, [], false)
def finS (B : List Int) (x : Int × Int × List Int) : Int × Int × List Int × Bool := if Up x.1 x.2.1 x.2.2 1 ∧ dotC x.1 x.2.2 0 = B then (x.1, x.2.1, x.2.2, true) else (0, 0, [], false)
theorem plate_scan {W H : Int} {l : List Int} (h : Up W H l 1) : scanI (dotC W l 0) 0 0 0 [] = some (W, H, l) ∧ scanS (dotC W l 0) 0 0 [] = (W, H, l) := by
  have ha := h.1.area; have hW := h.1.1; have hH := h.1.2.2.1; have hl := h.2.1
  have e : ((H.toNat : Nat) : Int) = H := by omega
  have e2 : (l.length : Int) + 0 = (H.toNat : Nat) * W := by rw [e, Int.mul_comm H W]; omega
  have a := scanI_dot hW l 0 0 0 H.toNat [] h.2.2 (by omega) (by omega) (by omega) (by omega) (by omega) e2
  have b := scanS_dot hW l 0 0 0 H.toNat [] h.2.2 (by omega) (by omega) (by omega) (fun _ => rfl) (by omega) (by omega) e2
  rw [e, Int.zero_add, List.nil_append] at a b
  exact ⟨a, b⟩
theorem scan_plate {B : List Int} {W H : Int} {l : List Int} (h : scanI B 0 0 0 [] = some (W, H, l)) (hu : Up W H l 1) : B = dotC W l 0 := by
  have hW := hu.1.1
  obtain ⟨_, more, h2, h3⟩ := scanI_inv B 0 0 0 [] W H l (by omega) (by omega) hW h
  rw [List.nil_append] at h2; subst h2
  rcases h3 with ⟨e, _⟩ | ⟨_, e⟩
  · omega
  · exact e
/-- both readers tell the same -/
theorem scans (B : List Int) : finS B (scanS B 0 0 []) = finI (scanI B 0 0 0 []) := by
  by_cases hc : Up (scanS B 0 0 []).1 (scanS B 0 0 []).2.1 (scanS B 0 0 []).2.2 1 ∧ dotC (scanS B 0 0 []).1 (scanS B 0 0 []).2.2 0 = B
  · have := (plate_scan hc.1).1
    rw [hc.2] at this
    unfold finS; rw [if_pos hc, this]; unfold finI; simp only; rw [if_pos hc.1]
  · unfold finS; rw [if_neg hc]
    cases e : scanI B 0 0 0 [] with
    | none => rfl
    | some x =>
      obtain ⟨W, H, l⟩ := x
      unfold finI; simp only
      by_cases hu : Up W H l 1
      · have h1 := scan_plate e hu
        have h2 := (plate_scan hu).2
        rw [← h1] at h2
        exact absurd (by rw [h2]; exact ⟨hu, h1.symm⟩) hc
      · rw [if_neg hu]
theorem finI_long {B : List Int} (h : 2048 < B.length) : finI (scanI B 0 0 0 []) = (0, 0, [], false) := by
  cases e : scanI B 0 0 0 [] with
  | none => rfl
  | some x =>
    obtain ⟨W, H, l⟩ := x
    unfold finI; simp only
    by_cases hu : Up W H l 1
    · have h1 := scan_plate e hu
      have h2 := dotC_len W l 0
      have := hu.1.area; have := hu.2.1
      rw [← h1] at h2
      omega
    · rw [if_neg hu]
theorem finI_len (o : Option (Int × Int × List Int)) : (finI o).2.2.1.length ≤ 1048576 := by
  cases o with
  | none => exact Nat.zero_le _
  | some x =>
    obtain ⟨W, H, l⟩ := x
    unfold finI; simp only
    split
    · rename_i hu
      have := hu.1.area; have := hu.2.1
      show l.length ≤ _
      omega
    · exact Nat.zero_le _

/-! ### lists told point by point, and neighbours on the ring -/
def tab (f : Int → Int) : Nat → Int → List Int
  | 0, _ => []
  | d + 1, i => f i :: tab f d (i + 1)
theorem tab_length (f : Int → Int) (d : Nat) : ∀ i, (tab f d i).length = d := by
  induction d with
  | zero => intro i; rfl
  | succ d ih => intro i; simp [tab, ih]
theorem tab_at (f : Int → Int) (d : Nat) : ∀ (i : Int) (j : Nat), j < d → (tab f d i)[j]? = some (f (i + j)) := by
  induction d with
  | zero => intro i j h; omega
  | succ d ih =>
    intro i j h
    cases j with
    | zero => simp [tab]
    | succ j => simp only [tab, List.getElem?_cons_succ]; rw [ih (i + 1) j (by omega)]; rw [show i + 1 + (j : Int) = i + ((j + 1 : Nat) : Int) by omega]
theorem tab_range (f : Int → Int) (n : Nat) : (List.range n).map (fun i : Nat => f i) = tab f n 0 := by
  apply List.ext_getElem?
  intro j
  by_cases h : j < n
  · rw [tab_at f n 0 j h, List.getElem?_map, List.getElem?_range h]; simp
  · rw [List.getElem?_eq_none (by simp; omega), List.getElem?_eq_none (by rw [tab_length]; omega)]
theorem tab_all {f : Int → Int} {m : Int} (h : ∀ i, In m (f i)) : ∀ (d : Nat) (i : Int), All m (tab f d i) := by
  intro d
  induction d with
  | zero => intro i v hv; simp [tab] at hv
  | succ d ih => intro i; exact All.cons.mpr ⟨h i, ih (i + 1)⟩
def pt (W H : Int) (l : List Int) (x y : Int) : Int := at_ l (y % H * W + x % W)
theorem pt_idx {W H : Int} (hW : 1 ≤ W) (hH : 1 ≤ H) (x y : Int) : 0 ≤ y % H * W + x % W ∧ y % H * W + x % W < W * H := by
  have a1 := Int.emod_nonneg x (show W ≠ 0 by omega); have a2 := Int.emod_lt_of_pos x (show 0 < W by omega)
  have b1 := Int.emod_nonneg y (show H ≠ 0 by omega); have b2 := Int.emod_lt_of_pos y (show 0 < H by omega)
  have c1 := Int.mul_nonneg b1 (show 0 ≤ W by omega)
  have c2 := Int.mul_le_mul_of_nonneg_right (show y % H ≤ H - 1 by omega) (show 0 ≤ W by omega)
  rw [Int.sub_mul, Int.one_mul, Int.mul_comm H W] at c2
  omega
theorem pt_in {W H m : Int} {l : List Int} (h : Up W H l m) (x y : Int) : In m (pt W H l x y) := by
  have := pt_idx h.1.1 h.1.2.2.1 x y; have := h.2.1
  exact h.2.2 _ (at_mem (by omega) (by omega))
theorem pt_eq {W H : Int} (l : List Int) {x y : Int} (x0 : 0 ≤ x) (x1 : x < W) (y0 : 0 ≤ y) (y1 : y < H) : pt W H l x y = at_ l (y * W + x) := by
  unfold pt; rw [Int.emod_eq_of_lt x0 x1, Int.emod_eq_of_lt y0 y1]
theorem xy_idx {W H x y : Int} (x0 : 0 ≤ x) (x1 : x < W) (y0 : 0 ≤ y) (y1 : y < H) : 0 ≤ y * W + x ∧ y * W + x < W * H := by
  have := pt_idx (W := W) (H := H) (by omega) (by omega) x y
  rw [Int.emod_eq_of_lt x0 x1, Int.emod_eq_of_lt y0 y1] at this; exact this
theorem xy_of (W i : Int) : i / W * W + i % W = i := by rw [Int.mul_comm, Int.mul_ediv_add_emod]
def around (W H : Int) (l : List Int) (x y : Int) : Int := pt W H l (x - 1) y + pt W H l (x + 1) y + pt W H l x (y - 1) + pt W H l x (y + 1)
def near (W H : Int) (l : List Int) (i : Int) : Int := at_ l i + around W H l (i % W) (i / W)
def leastF (W H : Int) (l : List Int) (n i : Int) : Int := if n ≤ near W H l i then 1 else 0
theorem leastF_in (W H : Int) (l : List Int) (n i : Int) : In 1 (leastF W H l n i) := by unfold leastF; split <;> exact ⟨by omega, by omega⟩
def least (W H : Int) (l : List Int) (n : Int) : Int × Int × List Int := if Up W H l 1 then (W, H, tab (leastF W H l n) (W * H).toNat 0) else (0, 0, [])
theorem least_up {W H : Int} {l : List Int} (h : Up W H l 1) (n : Int) : Up W H (tab (leastF W H l n) (W * H).toNat 0) 1 := by
  have := h.1.area
  exact ⟨h.1, by rw [tab_length]; omega, tab_all (leastF_in W H l n) _ _⟩
theorem least_len (W H : Int) (l : List Int) (n : Int) : (least W H l n).2.2.length ≤ 1048576 := by
  unfold least; split
  · rename_i h; have := h.1.area; show (tab _ _ _).length ≤ _; rw [tab_length]; omega
  · exact Nat.zero_le _

/-! ### powers of two, and a common divisor -/
def p2 (j : Int) : Int := if j = 0 then 1 else if j = 1 then 2 else if j = 2 then 4 else if j = 3 then 8 else 16
theorem p2_step {j : Int} (h0 : 0 ≤ j) (h1 : j ≤ 3) : p2 (j + 1) = 2 * p2 j := by
  have : j = 0 ∨ j = 1 ∨ j = 2 ∨ j = 3 := by omega
  rcases this with rfl | rfl | rfl | rfl <;> rfl
theorem p2_bd (j : Int) : 1 ≤ p2 j ∧ p2 j ≤ 16 := by unfold p2; repeat' split <;> omega
def gcdF : Nat → Int → Int → Int
  | 0, a, _ => a
  | d + 1, a, b => if b = 0 then a else gcdF d b (Int.tmod a b)
theorem gcdF_ne : ∀ (d : Nat) (a b : Int), b.natAbs < d → (a ≠ 0 ∨ b ≠ 0) → gcdF d a b ≠ 0 := by
  intro d
  induction d with
  | zero => intro a b h _; omega
  | succ d ih =>
    intro a b h hn
    unfold gcdF
    by_cases e : b = 0
    · rw [if_pos e]; exact hn.resolve_right (fun x => x e)
    · rw [if_neg e]
      refine ih b _ ?_ (.inl e)
      rw [Int.natAbs_tmod]
      have := Nat.mod_lt a.natAbs (show 0 < b.natAbs by omega)
      omega

/-! ### marks -/
def marks (m : Int) : Nat → List Int
  | 0 => []
  | d + 1 => m :: marks (m + 1) d
theorem marks_length (d : Nat) : ∀ m, (marks m d).length = d := by
  induction d with
  | zero => intro m; rfl
  | succ d ih => intro m; simp [marks, ih]
theorem marks_at (d : Nat) : ∀ (m : Int) (j : Nat), j < d → (marks m d)[j]? = some (m + j) := by
  induction d with
  | zero => intro m j h; omega
  | succ d ih =>
    intro m j h
    cases j with
    | zero => simp [marks]
    | succ j => simp only [marks, List.getElem?_cons_succ]; rw [ih (m + 1) j (by omega)]; simp only [Option.some.injEq]; omega
end Go.Proofs.Ytmahpennnnajcaa.Pic
