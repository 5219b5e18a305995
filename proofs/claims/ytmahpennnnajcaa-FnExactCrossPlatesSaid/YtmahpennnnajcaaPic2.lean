/- Plain facts, the second part: sums over a torus, ranks, matrices, grown and shrunk plates, lengths of texts (no program in sight). -/
import Derived.Test.YtmahpennnnajcaaPic
set_option linter.unusedVariables false
set_option linter.unusedSimpArgs false
namespace Go.Proofs.Ytmahpennnnajcaa.Pic

/-! ### sums over the first n numbers -/
def S1 (g : Int → Int) : Nat → Int
  | 0 => 0
  | n + 1 => S1 g n + g n
theorem S1_congr {g h : Int → Int} {n : Nat} (e : ∀ i : Int, 0 ≤ i → i < n → g i = h i) : S1 g n = S1 h n := by
  induction n with
  | zero => rfl
  | succ n ih => rw [S1, S1, ih (fun i h0 h1 => e i h0 (by omega)), e n (by omega) (by omega)]
theorem S1_add (g h : Int → Int) (n : Nat) : S1 (fun i => g i + h i) n = S1 g n + S1 h n := by
  induction n with
  | zero => rfl
  | succ n ih => simp only [S1, ih]; omega
theorem S1_mul (c : Int) (g : Int → Int) (n : Nat) : S1 (fun i => c * g i) n = c * S1 g n := by
  induction n with
  | zero => simp [S1]
  | succ n ih => simp only [S1, ih, Int.mul_add]
theorem S1_mulr (c : Int) (g : Int → Int) (n : Nat) : S1 (fun i => g i * c) n = S1 g n * c := by
  induction n with
  | zero => simp [S1]
  | succ n ih => simp only [S1, ih, Int.add_mul]
theorem S1_le {g h : Int → Int} {n : Nat} (e : ∀ i : Int, 0 ≤ i → i < n → g i ≤ h i) : S1 g n ≤ S1 h n := by
  induction n with
  | zero => exact Int.le_refl _
  | succ n ih =>
    have h1 := ih (fun i h0 h1 => e i h0 (by omega)); have h2 := e n (by omega) (by omega)
    simp only [S1]; omega
theorem S1_const (c : Int) (n : Nat) : S1 (fun _ => c) n = n * c := by
  induction n with
  | zero => simp [S1]
  | succ n ih => simp only [S1, ih]; rw [Int.natCast_add, Int.add_mul]; simp
theorem S1_app (g : Int → Int) (a b : Nat) : S1 g (a + b) = S1 g a + S1 (fun i => g (a + i)) b := by
  induction b with
  | zero => simp [S1]
  | succ b ih =>
    rw [← Nat.add_assoc, S1, ih, S1, Int.natCast_add]; omega
theorem S1_swap (f : Int → Int → Int) (n m : Nat) : S1 (fun i => S1 (fun j => f i j) m) n = S1 (fun j => S1 (fun i => f i j) n) m := by
  induction n with
  | zero => simp only [S1]; rw [S1_const]; simp
  | succ n ih => simp only [S1]; rw [S1_add, ih]
theorem S1_up (g : Int → Int) (n : Nat) : S1 (fun x => g (x + 1)) n + g 0 = S1 g n + g n := by
  induction n with
  | zero => rfl
  | succ n ih => simp only [S1]; rw [show (((n + 1 : Nat) : Int)) = (n : Int) + 1 by omega]; omega
theorem S1_turn {g : Int → Int} {n : Nat} (hp : ∀ x, g (x + n) = g x) : S1 (fun x => g (x + 1)) n = S1 g n := by
  have h := S1_up g n
  have h0 := hp 0
  rw [Int.zero_add] at h0; omega
theorem S1_turns {n : Nat} (a : Nat) : ∀ {g : Int → Int}, (∀ x, g (x + n) = g x) → S1 (fun x => g (x + a)) n = S1 g n := by
  induction a with
  | zero => intro g hp; exact S1_congr (fun i _ _ => by simp)
  | succ a ih =>
    intro g hp
    have hp2 : ∀ x, (fun x => g (x + 1)) (x + n) = (fun x => g (x + 1)) x := fun x => by
      show g (x + n + 1) = g (x + 1)
      rw [← hp (x + 1)]; congr 1; omega
    have h := ih (g := fun x => g (x + 1)) hp2
    rw [S1_turn hp] at h
    rw [← h]; exact S1_congr (fun i _ _ => by show g _ = g _; congr 1; omega)
/-- a sum over a ring does not depend on where it begins -/
theorem S1_ring {g : Int → Int} {n : Nat} (hp : ∀ x, g (x + n) = g x) (a : Int) : S1 (fun x => g (x + a)) n = S1 g n := by
  by_cases h : 0 ≤ a
  · have := S1_turns a.toNat hp
    rw [← this]; exact S1_congr (fun i _ _ => by show g _ = g _; congr 1; omega)
  · have hp2 : ∀ x, (fun x => g (x + a)) (x + n) = (fun x => g (x + a)) x := fun x => by
      show g (x + n + a) = g (x + a)
      rw [← hp (x + a)]; congr 1; omega
    have := S1_turns (g := fun x => g (x + a)) (-a).toNat hp2
    rw [← this]; exact S1_congr (fun i _ _ => by show g _ = g _; congr 1; omega)
theorem S1_grid (F : Int → Int → Int) {W : Nat} (hW : 0 < W) (h : Nat) : S1 (fun i => F (i % W) (i / W)) (W * h) = S1 (fun y => S1 (fun x => F x y) W) h := by
  induction h with
  | zero => rfl
  | succ h ih =>
    rw [Nat.mul_add, Nat.mul_one, S1_app, ih, S1]
    congr 1
    apply S1_congr
    intro i h0 h1
    show F ((((W * h : Nat) : Int) + i) % W) ((((W * h : Nat) : Int) + i) / W) = F i h
    have e : ((W * h : Nat) : Int) + i = i + W * h := by rw [Int.natCast_mul]; omega
    rw [e, Int.add_mul_emod_self_left, Int.emod_eq_of_lt h0 h1, Int.add_mul_ediv_left _ _ (by omega), Int.ediv_eq_zero_of_lt h0 h1, Int.zero_add]
/-- the sum over a torus does not depend on where it begins -/
theorem S1_torus {F : Int → Int → Int} {W H : Nat} (hW : 0 < W) (hx : ∀ x y, F (x + W) y = F x y) (hy : ∀ x y, F x (y + H) = F x y) (a b : Int) : S1 (fun i => F (i % W + a) (i / W + b)) (W * H) = S1 (fun i => F (i % W) (i / W)) (W * H) := by
  rw [S1_grid (fun x y => F (x + a) (y + b)) hW H, S1_grid F hW H]
  have h1 : ∀ y, S1 (fun x => F (x + a) y) W = S1 (fun x => F x y) W := fun y => S1_ring (g := fun x => F x y) (fun x => hx x y) a
  rw [S1_congr (h := fun y => S1 (fun x => F x (y + b)) W) (fun y _ _ => h1 (y + b))]
  exact S1_ring (g := fun y => S1 (fun x => F x y) W) (fun y => S1_congr (fun x _ _ => hy x y)) b

/-! ### the sum of a list -/
def tot : List Int → Int
  | [] => 0
  | v :: r => v + tot r
theorem at_cons (v : Int) (l : List Int) {i : Int} (h0 : 0 ≤ i) : at_ (v :: l) (1 + i) = at_ l i := by
  unfold at_; rw [show (1 + i).toNat = i.toNat + 1 by omega]; rfl
theorem tot_S1 (l : List Int) : tot l = S1 (at_ l) l.length := by
  induction l with
  | nil => rfl
  | cons v l ih =>
    rw [tot, ih, List.length_cons, Nat.add_comm, S1_app]
    have e : S1 (at_ (v :: l)) 1 = v := by show 0 + v = v; omega
    rw [e]; congr 1
    exact S1_congr (fun i h0 _ => (at_cons v l h0).symm)
theorem tot_app (l m : List Int) : tot (l ++ m) = tot l + tot m := by
  induction l with
  | nil => simp [tot]
  | cons v l ih => simp only [List.cons_append, tot, ih]; omega
theorem cnt_tot {l : List Int} (h : All 1 l) : ((cnt 1 l : Nat) : Int) = tot l := by
  induction l with
  | nil => rfl
  | cons v l ih =>
    obtain ⟨hv, hl⟩ := All.cons.mp h
    have := ih hl
    unfold In at hv
    unfold cnt tot
    by_cases e : v = 1
    · rw [if_pos e]; omega
    · rw [if_neg e]; omega
theorem tot_bd {m : Int} {l : List Int} (h : All m l) : 0 ≤ tot l ∧ tot l ≤ l.length * m := by
  induction l with
  | nil => simp [tot]
  | cons v l ih =>
    obtain ⟨hv, hl⟩ := All.cons.mp h
    have := ih hl
    unfold In at hv
    rw [tot, List.length_cons, Int.natCast_add, Int.add_mul]; simp; omega
theorem list_ext {l m : List Int} (h : l.length = m.length) (e : ∀ i : Int, 0 ≤ i → i < l.length → at_ l i = at_ m i) : l = m := by
  apply List.ext_getElem h
  intro i h1 h2
  have := e i (by omega) (by omega)
  rw [at_nat l i h1, at_nat m i h2] at this; exact this
theorem tab_val (f : Int → Int) {d : Nat} {i : Int} (h0 : 0 ≤ i) (h : i < d) : at_ (tab f d 0) i = f i := by
  unfold at_
  rw [List.getD_eq_getElem?_getD, tab_at f d 0 i.toNat (by omega), Option.getD_some]; congr 1; omega
theorem tab_congr {f g : Int → Int} {d : Nat} (e : ∀ i : Int, 0 ≤ i → i < d → f i = g i) : tab f d 0 = tab g d 0 := by
  apply list_ext (by rw [tab_length, tab_length])
  intro i h0 h1
  rw [tab_length] at h1
  rw [tab_val f h0 h1, tab_val g h0 h1, e i h0 h1]
theorem tab_self (l : List Int) : tab (at_ l) l.length 0 = l := by
  apply list_ext (by rw [tab_length])
  intro i h0 h1
  rw [tab_length] at h1
  rw [tab_val _ h0 h1]

/-! ### crowds as sums -/
theorem crowdL_S1 {W H i : Int} : ∀ {l : List Int} (k : Int), All 1 l → crowdL W H i l k = S1 (fun j => at_ l j * weight W H i (k + j)) l.length := by
  intro l
  induction l with
  | nil => intro k _; rfl
  | cons v l ih =>
    intro k h
    obtain ⟨hv, hl⟩ := All.cons.mp h
    rw [crowdL, ih (k + 1) hl, List.length_cons, Nat.add_comm, S1_app]
    unfold In at hv
    have e : S1 (fun j => at_ (v :: l) j * weight W H i (k + j)) 1 = v * weight W H i k := by show 0 + v * weight W H i (k + ((0 : Nat) : Int)) = _; simp
    rw [e]
    congr 1
    · have : v = 0 ∨ v = 1 := by omega
      rcases this with e | e <;> subst e <;> simp
    · apply S1_congr
      intro j h0 _
      show _ = at_ (v :: l) (((1 : Nat) : Int) + j) * _
      rw [show ((1 : Nat) : Int) = 1 from rfl, at_cons v l h0]; congr 2; omega
theorem rnd_neg {d n : Int} (hn : 1 ≤ n) : rnd (-d) n = rnd d n := by
  have h1 := Int.emod_nonneg d (show n ≠ 0 by omega); have h2 := Int.emod_lt_of_pos d (show 0 < n by omega)
  have e : (-d) % n = if d % n = 0 then 0 else n - d % n := by
    by_cases h : d % n = 0
    · rw [if_pos h]; exact Int.emod_eq_zero_of_dvd (Int.dvd_neg.mpr (Int.dvd_of_emod_eq_zero h))
    · rw [if_neg h, Int.neg_emod, if_neg (fun hd => h (Int.emod_eq_zero_of_dvd hd))]; omega
  unfold rnd; rw [e]
  by_cases h : d % n = 0
  · rw [if_pos h, h]
  · rw [if_neg h]; split <;> split <;> omega
theorem rnd_mod {x n : Int} : rnd (x + n) n = rnd x n := by unfold rnd; rw [Int.add_emod_right]
theorem rnd_sub_mod (x y n : Int) : rnd (x % n - y) n = rnd (x - y) n := by unfold rnd; rw [Int.emod_sub_emod]
theorem far_comm {W H : Int} (h : Sz W H) (i k : Int) : far W H i k = far W H k i := by
  unfold far
  rw [show i % W - k % W = -(k % W - i % W) by omega, show i / W - k / W = -(k / W - i / W) by omega, rnd_neg h.1, rnd_neg h.2.2.1]
theorem weight_comm {W H : Int} (h : Sz W H) (i k : Int) : weight W H i k = weight W H k i := by unfold weight; rw [far_comm h]
theorem weight_self {W H : Int} (h : Sz W H) (i : Int) : weight W H i i = 4096 := by
  have hW := h.1; have hH := h.2.2.1
  unfold weight far rnd
  rw [Int.sub_self, Int.sub_self, Int.zero_emod, Int.zero_emod, if_neg (by omega), if_neg (by omega)]; rfl
/-- the weights of a point add up to the same sum at every point -/
theorem weights_same {W H : Int} (h : Sz W H) (k : Int) : S1 (fun i => weight W H i k) (W * H).toNat = S1 (fun i => weight W H 0 i) (W * H).toNat := by
  obtain ⟨hW, hW2, hH, hH2, _⟩ := h
  obtain ⟨w, rfl⟩ : ∃ w : Nat, W = w := ⟨W.toNat, by omega⟩
  obtain ⟨v, rfl⟩ : ∃ v : Nat, H = v := ⟨H.toNat, by omega⟩
  have hs : Sz w v := ⟨hW, hW2, hH, hH2, by assumption⟩
  let F : Int → Int → Int := fun x y => 4096 / (1 + (rnd x w * rnd x w + rnd y v * rnd y v))
  have e0 : ((w : Int) * v).toNat = w * v := by omega
  rw [e0]
  have e1 : S1 (fun i => weight w v i k) (w * v) = S1 (fun i => F (i % w + -(k % w)) (i / w + -(k / w))) (w * v) := S1_congr (fun i _ _ => rfl)
  have e2 : S1 (fun i => weight w v 0 i) (w * v) = S1 (fun i => F (i % w) (i / w)) (w * v) := S1_congr (fun i _ _ => by
    rw [weight_comm hs]
    show 4096 / (1 + far w v i 0) = F (i % w) (i / w)
    unfold far
    rw [Int.zero_emod, Int.zero_ediv, Int.sub_zero, Int.sub_zero])
  rw [e1, e2]
  exact S1_torus (by omega) (fun x y => by show 4096 / _ = 4096 / _; rw [rnd_mod]) (fun x y => by show 4096 / _ = 4096 / _; rw [rnd_mod]) _ _
theorem crowds_sum {W H : Int} {l : List Int} (h : Up W H l 1) : S1 (fun i => crowd W H l i) l.length = S1 (fun i => weight W H 0 i) l.length * tot l := by
  have hl := h.2.1; have ha := h.1.area
  have e : S1 (fun i => crowd W H l i) l.length = S1 (fun i => S1 (fun j => at_ l j * weight W H i j) l.length) l.length :=
    S1_congr (fun i _ _ => by unfold crowd; rw [crowdL_S1 0 h.2.2]; exact S1_congr (fun j _ _ => by rw [Int.zero_add]))
  rw [e, S1_swap]
  have e2 : ∀ j, S1 (fun i => at_ l j * weight W H i j) l.length = at_ l j * S1 (fun i => weight W H 0 i) l.length := fun j => by
    rw [S1_mul (at_ l j) (fun i => weight W H i j), show l.length = (W * H).toNat by omega, weights_same h.1 j]
  rw [S1_congr (h := fun j => at_ l j * S1 (fun i => weight W H 0 i) l.length) (fun j _ _ => e2 j), S1_mulr, ← tot_S1, Int.mul_comm]

/-! ### steps keep the dots -/
theorem set_set_same {l : List Int} {i : Nat} {v : Int} (h : i < l.length) (e : l[i] = v) : (l.set i 0).set i v = l := by
  rw [List.set_set]
  apply List.ext_getElem (by simp)
  intro j h1 h2
  rw [List.getElem_set]
  split
  · rename_i hj; subst hj; exact e.symm
  · rfl
theorem swapF_keeps {W H : Int} {l : List Int} (hb : (swapF W H l).2 = false) : (swapF W H l).1 = l := by
  unfold swapF at hb ⊢
  by_cases h : ptight W H l < 0 ∨ pvoid W H l < 0
  · rw [if_pos h]
  · rw [if_neg h] at hb ⊢
    have hti := (tight_in W H l).resolve_left (by omega)
    simp only [bne_eq_false_iff_eq] at hb
    simp only
    rw [hb]
    have hj : (ptight W H l).toNat < l.length := by omega
    have := at_nat l (ptight W H l).toNat hj
    rw [show (((ptight W H l).toNat : Nat) : Int) = ptight W H l by omega, hti.2.2] at this
    exact set_set_same hj this.symm
theorem swapF_cnt {W H : Int} {l : List Int} (hA : All 1 l) : cnt 1 (swapF W H l).1 = cnt 1 l := by
  unfold swapF
  by_cases h : ptight W H l < 0 ∨ pvoid W H l < 0
  · rw [if_pos h]
  · rw [if_neg h]
    have hti := (tight_in W H l).resolve_left (by omega)
    have h1 := cnt_at (v := 1) (u := 0) hti.1 hti.2.1 hti.2.2 (by omega)
    have h3 := void_has (W := W) (H := H) (mem_set_self (l := l) (v := 0) hti.1 hti.2.1)
    have h4 := (void_in W H (l.set (ptight W H l).toNat 0)).resolve_left (by omega)
    have h5 := cnt_at (v := 0) (u := 1) h4.1 h4.2.1 h4.2.2 (by omega)
    have hA2 : All 1 (l.set (ptight W H l).toNat 0) := by
      intro x hx
      rcases List.mem_or_eq_of_mem_set hx with e | e
      · exact hA x e
      · subst e; exact ⟨by omega, by omega⟩
    have hA3 : All 1 ((l.set (ptight W H l).toNat 0).set (pvoid W H (l.set (ptight W H l).toNat 0)).toNat 1) := by
      intro x hx
      rcases List.mem_or_eq_of_mem_set hx with e | e
      · exact hA2 x e
      · subst e; exact ⟨by omega, by omega⟩
    have c1 := cnt_two hA2; have c2 := cnt_two hA3
    rw [List.length_set] at c2
    simp only; omega
theorem evenF_cnt {W H : Int} : ∀ (d : Nat) (l : List Int) (n : Int), Fld W H l → cnt 1 (evenF W H d l n).1 = cnt 1 l := by
  intro d
  induction d with
  | zero => intro l n _; rfl
  | succ d ih =>
    intro l n h
    unfold evenF
    split
    · rw [ih _ _ (swapF_field h), swapF_cnt h.1.2.2]
    · rfl
/-- the number of steps, and what a further one would do if they ended ahead of the limit -/
theorem evenF_end {W H : Int} : ∀ (d : Nat) (l : List Int) (n : Int), n ≤ (evenF W H d l n).2 ∧ (evenF W H d l n).2 ≤ n + d ∧ ((evenF W H d l n).2 < n + d → (swapF W H (evenF W H d l n).1).2 = false) := by
  intro d
  induction d with
  | zero => intro l n; exact ⟨Int.le_refl _, by simp [evenF], fun h => by simp [evenF] at h⟩
  | succ d ih =>
    intro l n
    unfold evenF
    split
    · obtain ⟨h1, h2, h3⟩ := ih (swapF W H l).1 (n + 1)
      exact ⟨by omega, by omega, fun h => h3 (by omega)⟩
    · rename_i hb
      exact ⟨Int.le_refl _, by show n ≤ _; omega, fun _ => by simpa using hb⟩

/-! ### ranks: where each one stands -/
/-- the dots of F with a rank below r -/
def lowA (F M : List Int) (r : Int) : List Int := tab (fun j => if at_ F j = 1 ∧ at_ M j < r then 1 else 0) F.length 0
/-- the dots of F, and the others with a rank below r -/
def lowB (F M : List Int) (r : Int) : List Int := tab (fun j => if at_ F j = 1 ∨ at_ M j < r then 1 else 0) F.length 0
theorem all_at {m : Int} {l : List Int} (h : All m l) {i : Int} (h0 : 0 ≤ i) (h1 : i < l.length) : In m (at_ l i) := h _ (at_mem h0 h1)
theorem rankA_tells {W H : Int} : ∀ (d : Nat) (F M : List Int), Fld W H F → cnt 1 F = d → M.length = F.length →
    (∀ i : Int, 0 ≤ i → i < F.length → at_ F i ≠ 1 → at_ (rankA W H d F M) i = at_ M i) ∧
    (∀ i : Int, 0 ≤ i → i < F.length → at_ F i = 1 → 0 ≤ at_ (rankA W H d F M) i ∧ at_ (rankA W H d F M) i < d ∧ ptight W H (lowA F (rankA W H d F M) (at_ (rankA W H d F M) i + 1)) = i) := by
  intro d
  induction d with
  | zero =>
    intro F M h hc hM
    refine ⟨fun i _ _ _ => rfl, fun i h0 h1 h2 => ?_⟩
    have := cnt_at (v := 1) (u := 0) h0 h1 h2 (by omega); omega
  | succ d ih =>
    intro F M h hc hM
    have hlen := h.len
    have t0 := tight_has (W := W) (H := H) (cnt_pos (v := 1) (l := F) (by omega))
    have t1 := (tight_in W H F).resolve_left (by omega)
    have t2 := cnt_at (u := 0) t1.1 t1.2.1 t1.2.2 (by omega)
    obtain ⟨iA, iB⟩ := ih (F.set (ptight W H F).toNat 0) (M.set (ptight W H F).toNat d) (h.set ⟨by omega, by omega⟩) (by omega) (by rw [List.length_set, List.length_set]; exact hM)
    have hR : rankA W H (d + 1) F M = rankA W H d (F.set (ptight W H F).toNat 0) (M.set (ptight W H F).toNat d) := rfl
    rw [← hR] at iA iB
    rw [List.length_set] at iA iB
    have hset : ∀ i : Int, 0 ≤ i → at_ (F.set (ptight W H F).toNat 0) i = if i = ptight W H F then 0 else at_ F i := fun i h0 => at_set t1.1 t1.2.1 h0
    have hMt : at_ (rankA W H (d + 1) F M) (ptight W H F) = d := by
      rw [iA _ t1.1 t1.2.1 (by rw [hset _ t1.1, if_pos rfl]; omega), at_set t1.1 (by omega) t1.1, if_pos rfl]
    refine ⟨fun i h0 h1 h2 => ?_, fun i h0 h1 h2 => ?_⟩
    · have hne : i ≠ ptight W H F := fun e => h2 (by rw [e]; exact t1.2.2)
      rw [iA i h0 h1 (by rw [hset _ h0, if_neg hne]; exact h2), at_set t1.1 (by omega) h0, if_neg hne]
    · by_cases e : i = ptight W H F
      · refine ⟨by rw [e, hMt]; omega, by rw [e, hMt]; omega, ?_⟩
        rw [e, hMt]
        have : lowA F (rankA W H (d + 1) F M) ((d : Int) + 1) = F := by
          conv => rhs; rw [← tab_self F]
          apply tab_congr
          intro j j0 j1
          have hv := all_at h.1.2.2 j0 j1
          unfold In at hv
          by_cases ej : at_ F j = 1
          · by_cases et : j = ptight W H F
            · rw [if_pos ⟨ej, by rw [et, hMt]; omega⟩, ej]
            · have := iB j j0 j1 (by rw [hset _ j0, if_neg et]; exact ej)
              rw [if_pos ⟨ej, by omega⟩, ej]
          · rw [if_neg (fun z => ej z.1)]; omega
        rw [this]
      · have hb := iB i h0 h1 (by rw [hset _ h0, if_neg e]; exact h2)
        refine ⟨hb.1, by omega, ?_⟩
        have : lowA F (rankA W H (d + 1) F M) (at_ (rankA W H (d + 1) F M) i + 1) = lowA (F.set (ptight W H F).toNat 0) (rankA W H (d + 1) F M) (at_ (rankA W H (d + 1) F M) i + 1) := by
          unfold lowA
          rw [List.length_set]
          apply tab_congr
          intro j j0 j1
          rw [hset _ j0]
          by_cases et : j = ptight W H F
          · rw [if_pos et, if_neg (c := (0 : Int) = 1 ∧ _) (fun z => by have := z.1; omega), et, hMt, if_neg (fun z => by have := z.2; omega)]
          · rw [if_neg et]
        rw [this]; exact hb.2.2
theorem rankB_tells {W H : Int} : ∀ (d : Nat) (n : Int) (F M : List Int), Fld W H F → cnt 0 F = d → M.length = F.length →
    (∀ i : Int, 0 ≤ i → i < F.length → at_ F i ≠ 0 → at_ (rankB W H d n F M) i = at_ M i) ∧
    (∀ i : Int, 0 ≤ i → i < F.length → at_ F i = 0 → n ≤ at_ (rankB W H d n F M) i ∧ at_ (rankB W H d n F M) i < n + d ∧ pvoid W H (lowB F (rankB W H d n F M) (at_ (rankB W H d n F M) i)) = i) := by
  intro d
  induction d with
  | zero =>
    intro n F M h hc hM
    refine ⟨fun i _ _ _ => rfl, fun i h0 h1 h2 => ?_⟩
    have := cnt_at (v := 0) (u := 1) h0 h1 h2 (by omega); omega
  | succ d ih =>
    intro n F M h hc hM
    have hlen := h.len
    have t0 := void_has (W := W) (H := H) (cnt_pos (v := 0) (l := F) (by omega))
    have t1 := (void_in W H F).resolve_left (by omega)
    have t2 := cnt_at (u := 1) t1.1 t1.2.1 t1.2.2 (by omega)
    obtain ⟨iA, iB⟩ := ih (n + 1) (F.set (pvoid W H F).toNat 1) (M.set (pvoid W H F).toNat n) (h.set ⟨by omega, by omega⟩) (by omega) (by rw [List.length_set, List.length_set]; exact hM)
    have hR : rankB W H (d + 1) n F M = rankB W H d (n + 1) (F.set (pvoid W H F).toNat 1) (M.set (pvoid W H F).toNat n) := rfl
    rw [← hR] at iA iB
    rw [List.length_set] at iA iB
    have hset : ∀ i : Int, 0 ≤ i → at_ (F.set (pvoid W H F).toNat 1) i = if i = pvoid W H F then 1 else at_ F i := fun i h0 => at_set t1.1 t1.2.1 h0
    have hMt : at_ (rankB W H (d + 1) n F M) (pvoid W H F) = n := by
      rw [iA _ t1.1 t1.2.1 (by rw [hset _ t1.1, if_pos rfl]; omega), at_set t1.1 (by omega) t1.1, if_pos rfl]
    refine ⟨fun i h0 h1 h2 => ?_, fun i h0 h1 h2 => ?_⟩
    · have hne : i ≠ pvoid W H F := fun e => h2 (by rw [e]; exact t1.2.2)
      rw [iA i h0 h1 (by rw [hset _ h0, if_neg hne]; exact h2), at_set t1.1 (by omega) h0, if_neg hne]
    · by_cases e : i = pvoid W H F
      · refine ⟨by rw [e, hMt]; omega, by rw [e, hMt]; omega, ?_⟩
        rw [e, hMt]
        have : lowB F (rankB W H (d + 1) n F M) n = F := by
          conv => rhs; rw [← tab_self F]
          apply tab_congr
          intro j j0 j1
          have hv := all_at h.1.2.2 j0 j1
          unfold In at hv
          by_cases ej : at_ F j = 1
          · rw [if_pos (.inl ej), ej]
          · have e0 : at_ F j = 0 := by omega
            by_cases et : j = pvoid W H F
            · rw [if_neg (fun z => z.elim ej (fun z => by rw [et, hMt] at z; omega)), e0]
            · have := iB j j0 j1 (by rw [hset _ j0, if_neg et]; exact e0)
              rw [if_neg (fun z => z.elim ej (fun z => by omega)), e0]
        rw [this]
      · have hb := iB i h0 h1 (by rw [hset _ h0, if_neg e]; exact h2)
        refine ⟨by omega, by omega, ?_⟩
        have : lowB F (rankB W H (d + 1) n F M) (at_ (rankB W H (d + 1) n F M) i) = lowB (F.set (pvoid W H F).toNat 1) (rankB W H (d + 1) n F M) (at_ (rankB W H (d + 1) n F M) i) := by
          unfold lowB
          rw [List.length_set]
          apply tab_congr
          intro j j0 j1
          rw [hset _ j0]
          by_cases et : j = pvoid W H F
          · rw [if_pos et, if_pos (c := (1 : Int) = 1 ∨ _) (.inl rfl), et, hMt, if_pos (.inr (by omega))]
          · rw [if_neg et]
        rw [this]; exact hb.2.2
/-- the cells of a matrix below a level -/
def cellsB (M : List Int) (r : Int) : List Int := tab (fun j => if at_ M j < r then 1 else 0) M.length 0
theorem rank_places {W H : Int} {l : List Int} (h : Fld W H l) {i : Int} (h0 : 0 ≤ i) (h1 : i < l.length) :
    (at_ l i = 1 → 0 ≤ at_ (rankF W H l) i ∧ at_ (rankF W H l) i < tot l ∧ ptight W H (cellsB (rankF W H l) (at_ (rankF W H l) i + 1)) = i) ∧
    (at_ l i = 0 → tot l ≤ at_ (rankF W H l) i ∧ at_ (rankF W H l) i < l.length ∧ pvoid W H (cellsB (rankF W H l) (at_ (rankF W H l) i)) = i) := by
  have hc : ((cnt 1 l : Nat) : Int) = tot l := cnt_tot h.1.2.2
  have hc2 := cnt_two h.1.2.2
  have hl := rankF_len W H l
  obtain ⟨a1, a2⟩ := rankA_tells (cnt 1 l) l (List.replicate l.length 0) h rfl (by rw [List.length_replicate])
  obtain ⟨b1, b2⟩ := rankB_tells (cnt 0 l) (cnt 1 l) l (rankA W H (cnt 1 l) l (List.replicate l.length 0)) h rfl (by rw [rankA_len, List.length_replicate])
  have hR : rankB W H (cnt 0 l) (cnt 1 l) l (rankA W H (cnt 1 l) l (List.replicate l.length 0)) = rankF W H l := rfl
  rw [hR] at b1 b2
  refine ⟨fun e => ?_, fun e => ?_⟩
  · have ea := a2 i h0 h1 e
    have eb := b1 i h0 h1 (by omega)
    refine ⟨by omega, by omega, ?_⟩
    have : cellsB (rankF W H l) (at_ (rankF W H l) i + 1) = lowA l (rankA W H (cnt 1 l) l (List.replicate l.length 0)) (at_ (rankA W H (cnt 1 l) l (List.replicate l.length 0)) i + 1) := by
      unfold cellsB lowA
      rw [hl]
      apply tab_congr
      intro j j0 j1
      have hv := all_at h.1.2.2 j0 j1
      unfold In at hv
      by_cases ej : at_ l j = 1
      · rw [b1 j j0 j1 (by omega), eb]
        by_cases z : at_ (rankA W H (cnt 1 l) l (List.replicate l.length 0)) j < at_ (rankA W H (cnt 1 l) l (List.replicate l.length 0)) i + 1
        · rw [if_pos z, if_pos ⟨ej, z⟩]
        · rw [if_neg z, if_neg (fun y => z y.2)]
      · have := b2 j j0 j1 (by omega)
        rw [if_neg (by omega), if_neg (fun y => ej y.1)]
    rw [this]; exact ea.2.2
  · have eb := b2 i h0 h1 e
    refine ⟨by omega, by omega, ?_⟩
    have : cellsB (rankF W H l) (at_ (rankF W H l) i) = lowB l (rankF W H l) (at_ (rankF W H l) i) := by
      unfold cellsB lowB
      rw [hl]
      apply tab_congr
      intro j j0 j1
      by_cases ej : at_ l j = 1
      · have := a2 j j0 j1 ej
        rw [b1 j j0 j1 (by omega), if_pos (by omega), if_pos (.inl ej)]
      · by_cases z : at_ (rankF W H l) j < at_ (rankF W H l) i
        · rw [if_pos z, if_pos (.inr z)]
        · rw [if_neg z, if_neg (fun y => y.elim ej z)]
    rw [this]; exact eb.2.2
/-- no rank twice -/
theorem rank_once {W H : Int} {l : List Int} (h : Fld W H l) {i j : Int} (h0 : 0 ≤ i) (h1 : i < l.length) (j0 : 0 ≤ j) (j1 : j < l.length) (e : at_ (rankF W H l) i = at_ (rankF W H l) j) : i = j := by
  have hi := rank_places h h0 h1; have hj := rank_places h j0 j1
  have vi := all_at h.1.2.2 h0 h1; have vj := all_at h.1.2.2 j0 j1
  unfold In at vi vj
  have ci : at_ l i = 0 ∨ at_ l i = 1 := by omega
  have cj : at_ l j = 0 ∨ at_ l j = 1 := by omega
  rcases ci with a | a <;> rcases cj with b | b
  · rw [← (hi.2 a).2.2, ← (hj.2 b).2.2, e]
  · have := hi.2 a; have := hj.1 b; omega
  · have := hi.1 a; have := hj.2 b; omega
  · rw [← (hi.1 a).2.2, ← (hj.1 b).2.2, e]
theorem rank_in {W H : Int} {l : List Int} (h : Fld W H l) {i : Int} (h0 : 0 ≤ i) (h1 : i < l.length) : 0 ≤ at_ (rankF W H l) i ∧ at_ (rankF W H l) i < l.length := by
  have hi := rank_places h h0 h1
  have vi := all_at h.1.2.2 h0 h1
  unfold In at vi
  have ht := tot_bd h.1.2.2
  have ci : at_ l i = 0 ∨ at_ l i = 1 := by omega
  rcases ci with a | a
  · have := hi.2 a; omega
  · have := hi.1 a; omega

/-! ### matrices -/
def Cel (W H : Int) : Prop := 1 ≤ W ∧ W ≤ 256 ∧ 1 ≤ H ∧ H ≤ 256 ∧ W * H ≤ 256
instance (W H : Int) : Decidable (Cel W H) := inferInstanceAs (Decidable (_ ∧ _))
theorem Cel.area {W H : Int} (h : Cel W H) : 1 ≤ W * H ∧ W * H ≤ 256 := by
  refine ⟨?_, h.2.2.2.2⟩
  have := Int.mul_pos (show 0 < W by have := h.1; omega) (show 0 < H by have := h.2.2.1; omega); omega
/-- from what is seen on: all in the range and none twice -/
def newL (n : Int) : List Int → List Int → Prop
  | [], _ => True
  | v :: r, seen => (0 ≤ v ∧ v < n) ∧ v ∉ seen ∧ newL n r (v :: seen)
instance decNewL (n : Int) : ∀ (r seen : List Int), Decidable (newL n r seen)
  | [], _ => isTrue trivial
  | v :: r, seen => by unfold newL; exact @instDecidableAnd _ _ inferInstance (@instDecidableAnd _ _ inferInstance (decNewL n r (v :: seen)))
def Mtx (W H : Int) (l : List Int) : Prop := Cel W H ∧ (l.length : Int) = W * H ∧ newL l.length l []
instance (W H : Int) (l : List Int) : Decidable (Mtx W H l) := inferInstanceAs (Decidable (_ ∧ _))
theorem newL_of {n : Int} {L : List Int} (hin : ∀ i : Int, 0 ≤ i → i < L.length → 0 ≤ at_ L i ∧ at_ L i < n) (hone : ∀ i j : Int, 0 ≤ i → i < L.length → 0 ≤ j → j < L.length → at_ L i = at_ L j → i = j) :
    ∀ (d : Nat) (j : Int) (seen : List Int), 0 ≤ j → (L.length : Int) - j = d → (∀ v ∈ seen, ∃ i : Int, 0 ≤ i ∧ i < j ∧ at_ L i = v) → newL n (L.drop j.toNat) seen := by
  intro d
  induction d with
  | zero => intro j seen j0 hd _; rw [drop_end L (by omega)]; trivial
  | succ d ih =>
    intro j seen j0 hd hs
    rw [drop_at L j0 (by omega)]
    refine ⟨hin j j0 (by omega), fun hm => ?_, ih (j + 1) _ (by omega) (by omega) (fun v hv => ?_)⟩
    · obtain ⟨i, i0, i1, e⟩ := hs _ hm
      have := hone i j i0 (by omega) j0 (by omega) e; omega
    · rcases List.mem_cons.mp hv with e | e
      · exact ⟨j, j0, by omega, e.symm⟩
      · obtain ⟨i, i0, i1, e⟩ := hs v e
        exact ⟨i, i0, by omega, e⟩
theorem rank_mtx {W H : Int} {l : List Int} (h : Fld W H l) : Mtx W H (rankF W H l) := by
  have hl := rankF_len W H l; have hn := h.len; have hs := h.1.1; have hW := hs.1; have hW2 := hs.2.1; have hH := hs.2.2.1; have hH2 := hs.2.2.2.1
  refine ⟨⟨hW, by omega, hH, by omega, by omega⟩, by rw [hl]; omega, ?_⟩
  have := newL_of (n := (rankF W H l).length) (L := rankF W H l) (fun i h0 h1 => by rw [hl] at h1 ⊢; exact rank_in h h0 h1) (fun i j h0 h1 j0 j1 e => by rw [hl] at h1 j1; exact rank_once h h0 h1 j0 j1 e) (rankF W H l).length 0 [] (by omega) (by omega) (fun v hv => by simp at hv)
  exact this

/-! ### grown and shrunk plates -/
theorem pt_mod (W H : Int) (l : List Int) (x y : Int) : pt W H l (x % W) y = pt W H l x y := by unfold pt; rw [Int.emod_emod_of_dvd _ (Int.dvd_refl W)]
theorem pt_mody (W H : Int) (l : List Int) (x y : Int) : pt W H l x (y % H) = pt W H l x y := by unfold pt; rw [Int.emod_emod_of_dvd _ (Int.dvd_refl H)]
theorem pt_shift (W H : Int) (l : List Int) (x y a b : Int) : pt W H l (x % W + a) (y % H + b) = pt W H l (x + a) (y + b) := by unfold pt; rw [Int.emod_add_emod, Int.emod_add_emod]
theorem around_mod (W H : Int) (l : List Int) (x y : Int) : around W H l (x % W) (y % H) = around W H l x y := by
  have e : ∀ a b, pt W H l (x % W + a) (y % H + b) = pt W H l (x + a) (y + b) := pt_shift W H l x y
  have e1 := e (-1) 0; have e2 := e 1 0; have e3 := e 0 (-1); have e4 := e 0 1
  simp only [Int.add_zero] at e1 e2 e3 e4
  unfold around
  rw [show x % W - 1 = x % W + -1 by omega, show y % H - 1 = y % H + -1 by omega, show x - 1 = x + -1 by omega, show y - 1 = y + -1 by omega, e1, e2, e3, e4]
/-- the five points at a point of the torus -/
def five (W H : Int) (l : List Int) (x y : Int) : Int := pt W H l x y + around W H l x y
theorem near_five {W H : Int} (hW : 1 ≤ W) (hH : 1 ≤ H) (l : List Int) (x y : Int) : near W H l (y % H * W + x % W) = five W H l x y := by
  have a1 := Int.emod_nonneg x (show W ≠ 0 by omega); have a2 := Int.emod_lt_of_pos x (show 0 < W by omega)
  have e1 : (y % H * W + x % W) % W = x % W := by rw [Int.add_comm, Int.add_mul_emod_self_right, Int.emod_emod_of_dvd _ (Int.dvd_refl W)]
  have e2 : (y % H * W + x % W) / W = y % H := by rw [Int.add_comm, Int.add_mul_ediv_right _ _ (by omega), Int.ediv_eq_zero_of_lt a1 a2, Int.zero_add]
  unfold near five
  rw [e1, e2, around_mod]; rfl
theorem idx_xy {W H i : Int} (hW : 1 ≤ W) (i0 : 0 ≤ i) (i1 : i < W * H) : (i / W) % H * W + (i % W) % W = i := by
  have hq : 0 ≤ i / W ∧ i / W < H := ⟨Int.ediv_nonneg i0 (by omega), by apply Int.ediv_lt_of_lt_mul (by omega); rw [Int.mul_comm]; exact i1⟩
  rw [Int.emod_eq_of_lt hq.1 hq.2, Int.emod_emod_of_dvd _ (Int.dvd_refl W), xy_of]
theorem pt_tab {W H : Int} (h : Sz W H) (f : Int → Int) (x y : Int) : pt W H (tab f (W * H).toNat 0) x y = f (y % H * W + x % W) := by
  have := pt_idx h.1 h.2.2.1 x y; have := h.area
  unfold pt; rw [tab_val f (by omega) (by omega)]
theorem five_bd {W H : Int} {l : List Int} (h : Up W H l 1) (x y : Int) : (0 ≤ pt W H l x y ∧ pt W H l x y ≤ 1) ∧ (0 ≤ pt W H l (x - 1) y ∧ pt W H l (x - 1) y ≤ 1) ∧ (0 ≤ pt W H l (x + 1) y ∧ pt W H l (x + 1) y ≤ 1) ∧ (0 ≤ pt W H l x (y - 1) ∧ pt W H l x (y - 1) ≤ 1) ∧ (0 ≤ pt W H l x (y + 1) ∧ pt W H l x (y + 1) ≤ 1) :=
  ⟨pt_in h _ _, pt_in h _ _, pt_in h _ _, pt_in h _ _, pt_in h _ _⟩
/-- the plate with dots where n of the five have one -/
def lst (W H : Int) (l : List Int) (n : Int) : List Int := tab (leastF W H l n) (W * H).toNat 0
theorem lst_pt {W H : Int} (h : Sz W H) (l : List Int) (n x y : Int) : pt W H (lst W H l n) x y = if n ≤ five W H l x y then 1 else 0 := by
  unfold lst; rw [pt_tab h]; unfold leastF; rw [near_five h.1 h.2.2.1]
theorem at_pt {W H i : Int} (hW : 1 ≤ W) (l : List Int) (i0 : 0 ≤ i) (i1 : i < W * H) : at_ l i = pt W H l (i % W) (i / W) := by unfold pt; rw [idx_xy hW i0 i1]
theorem lst_at {W H : Int} (h : Sz W H) (l : List Int) (n : Int) {i : Int} (i0 : 0 ≤ i) (i1 : i < W * H) : at_ (lst W H l n) i = if n ≤ five W H l (i % W) (i / W) then 1 else 0 := by
  rw [at_pt h.1 _ i0 i1, lst_pt h]
theorem grow_covers {W H : Int} {l : List Int} (h : Up W H l 1) {i : Int} (i0 : 0 ≤ i) (i1 : i < W * H) : at_ l i ≤ at_ (lst W H l 1) i := by
  have b := five_bd h (i % W) (i / W)
  rw [lst_at h.1 l 1 i0 i1, at_pt h.1.1 l i0 i1]
  split
  · exact b.1.2
  · rename_i hn; unfold five around at hn; omega
theorem shrink_covered {W H : Int} {l : List Int} (h : Up W H l 1) {i : Int} (i0 : 0 ≤ i) (i1 : i < W * H) : at_ (lst W H l 5) i ≤ at_ l i := by
  have b := five_bd h (i % W) (i / W)
  rw [lst_at h.1 l 5 i0 i1, at_pt h.1.1 l i0 i1]
  split
  · rename_i hn; unfold five around at hn; omega
  · exact b.1.1
theorem lst_up {W H : Int} {l : List Int} (h : Up W H l 1) (n : Int) : Up W H (lst W H l n) 1 := least_up h n
theorem closing {W H : Int} {l : List Int} (h : Up W H l 1) {i : Int} (i0 : 0 ≤ i) (i1 : i < W * H) : at_ l i ≤ at_ (lst W H (lst W H l 1) 5) i := by
  have b := five_bd h (i % W) (i / W)
  rw [lst_at h.1 _ 5 i0 i1, at_pt h.1.1 l i0 i1]
  by_cases e : pt W H l (i % W) (i / W) = 1
  · have five1 : ∀ x y, (0 < pt W H l x y ∨ 0 < pt W H l (x - 1) y ∨ 0 < pt W H l (x + 1) y ∨ 0 < pt W H l x (y - 1) ∨ 0 < pt W H l x (y + 1)) → pt W H (lst W H l 1) x y = 1 := by
      intro x y hx
      have b := five_bd h x y
      rw [lst_pt h.1, if_pos]
      unfold five around; omega
    rw [if_pos, e]; exact Int.le_refl _
    unfold five around
    rw [five1 (i % W) (i / W) (.inl (by omega)),
      five1 (i % W - 1) (i / W) (.inr (.inr (.inl (by rw [show i % W - 1 + 1 = i % W by omega]; omega)))),
      five1 (i % W + 1) (i / W) (.inr (.inl (by rw [show i % W + 1 - 1 = i % W by omega]; omega))),
      five1 (i % W) (i / W - 1) (.inr (.inr (.inr (.inr (by rw [show i / W - 1 + 1 = i / W by omega]; omega))))),
      five1 (i % W) (i / W + 1) (.inr (.inr (.inr (.inl (by rw [show i / W + 1 - 1 = i / W by omega]; omega)))))]
    omega
  · have : pt W H l (i % W) (i / W) = 0 := by omega
    rw [this]; split <;> omega
/-- the negative of a plate -/
def ngv (l : List Int) : List Int := tab (fun i => 1 - at_ l i) l.length 0
theorem ngv_up {W H : Int} {l : List Int} (h : Up W H l 1) : Up W H (ngv l) 1 := by
  refine ⟨h.1, by unfold ngv; rw [tab_length]; exact h.2.1, ?_⟩
  intro v hv
  obtain ⟨j, hj, rfl⟩ := List.getElem_of_mem hv
  have hj2 : j < l.length := by unfold ngv at hj; rw [tab_length] at hj; exact hj
  have := at_nat (ngv l) j hj
  rw [← this]
  have e : at_ (ngv l) (j : Int) = 1 - at_ l j := by unfold ngv; rw [tab_val _ (by omega) (by omega)]
  rw [e]
  have := all_at h.2.2 (i := (j : Int)) (by omega) (by omega)
  unfold In at this ⊢; omega
theorem ngv_pt {W H : Int} {l : List Int} (h : Up W H l 1) (x y : Int) : pt W H (ngv l) x y = 1 - pt W H l x y := by
  have := pt_idx h.1.1 h.1.2.2.1 x y; have := h.2.1
  unfold pt ngv; rw [tab_val _ (by omega) (by omega)]
theorem ngv_grow {W H : Int} {l : List Int} (h : Up W H l 1) : ngv (lst W H l 5) = lst W H (ngv l) 1 := by
  have ha := h.1.area; have hl := h.2.1
  have e1 : (lst W H l 5).length = (W * H).toNat := by unfold lst; rw [tab_length]
  apply list_ext
  · unfold ngv; rw [tab_length, e1]; unfold lst; rw [tab_length]
  · intro i i0 i1
    have hi : i < W * H := by unfold ngv at i1; rw [tab_length, e1] at i1; omega
    rw [at_pt h.1.1 _ i0 hi, at_pt h.1.1 _ i0 hi, ngv_pt (lst_up h 5), lst_pt h.1, lst_pt h.1]
    have e : five W H (ngv l) (i % W) (i / W) = 5 - five W H l (i % W) (i / W) := by
      unfold five around; rw [ngv_pt h, ngv_pt h, ngv_pt h, ngv_pt h, ngv_pt h]; omega
    rw [e]
    have b := five_bd h (i % W) (i / W)
    by_cases z : 5 ≤ five W H l (i % W) (i / W)
    · rw [if_pos z, if_neg (by omega)]; rfl
    · rw [if_neg z, if_pos (by omega)]; rfl
theorem pt_per (W H : Int) (l : List Int) (x y : Int) : pt W H l (x + W) y = pt W H l x y ∧ pt W H l x (y + H) = pt W H l x y := by
  unfold pt; rw [Int.add_emod_right, Int.add_emod_right]; exact ⟨rfl, rfl⟩
theorem shift_tot {W H : Int} {l : List Int} (h : Up W H l 1) (a b : Int) : S1 (fun i => pt W H l (i % W + a) (i / W + b)) (W * H).toNat = tot l := by
  have hl := h.2.1
  obtain ⟨⟨hW, hW2, hH, hH2, hA⟩, _, _⟩ := h
  obtain ⟨w, rfl⟩ : ∃ w : Nat, W = w := ⟨W.toNat, by omega⟩
  obtain ⟨v, rfl⟩ : ∃ v : Nat, H = v := ⟨H.toNat, by omega⟩
  have e0 : ((w : Int) * v).toNat = w * v := by omega
  rw [e0, S1_torus (F := fun x y => pt w v l x y) (by omega) (fun x y => (pt_per w v l x y).1) (fun x y => (pt_per w v l x y).2), tot_S1, show l.length = w * v by omega]
  exact S1_congr (fun i i0 i1 => (at_pt hW l i0 (by omega)).symm)
theorem gain_bd {W H : Int} {l : List Int} (h : Up W H l 1) : tot l ≤ tot (lst W H l 1) ∧ tot (lst W H l 1) ≤ 5 * tot l := by
  have hl := h.2.1; have ha := h.1.area
  have e1 : (lst W H l 1).length = (W * H).toNat := by unfold lst; rw [tab_length]
  have e2 : l.length = (W * H).toNat := by omega
  refine ⟨?_, ?_⟩
  · rw [tot_S1, tot_S1, e1, e2]
    exact S1_le (fun i i0 i1 => grow_covers h i0 (by omega))
  · have s0 := shift_tot h 0 0; have s1 := shift_tot h (-1) 0; have s2 := shift_tot h 1 0; have s3 := shift_tot h 0 (-1); have s4 := shift_tot h 0 1
    have key : tot (lst W H l 1) ≤ S1 (fun i => pt W H l (i % W + 0) (i / W + 0) + pt W H l (i % W + -1) (i / W + 0) + pt W H l (i % W + 1) (i / W + 0) + pt W H l (i % W + 0) (i / W + -1) + pt W H l (i % W + 0) (i / W + 1)) (W * H).toNat := by
      rw [tot_S1, e1]
      refine S1_le (fun i i0 i1 => ?_)
      have b := five_bd h (i % W) (i / W)
      rw [lst_at h.1 l 1 i0 (by omega)]
      simp only [Int.add_zero]
      rw [show i % W + -1 = i % W - 1 by omega, show i / W + -1 = i / W - 1 by omega]
      split
      · rename_i hn; unfold five around at hn; omega
      · omega
    rw [S1_add, S1_add, S1_add, S1_add, s0, s1, s2, s3, s4] at key
    omega

/-! ### the length of a text -/
theorem dotC_size {W : Int} (hW : 1 ≤ W) : ∀ (r : List Int) (c : Int) (n : Nat), 0 ≤ c → c < W → (r.length : Int) + c = n * W → ((dotC W r c).length : Int) = r.length + n := by
  intro r
  induction r with
  | nil =>
    intro c n h0 h1 hl
    obtain ⟨e1, e2⟩ := rows_nil h1 h0 (by simpa using hl)
    subst e1; rfl
  | cons v r ih =>
    intro c n h0 h1 hl
    obtain ⟨m, rfl, hm⟩ := rows_cons hW h1 h0 (show 0 ≤ (r.length : Int) by omega) (by simpa using hl)
    have e3 : ((m + 1 : Nat) : Int) * W = m * W + W := by rw [Int.natCast_add, Int.add_mul]; simp
    unfold dotC
    by_cases e : c = W - 1
    · rw [if_pos e, List.length_cons, List.length_cons, List.length_cons]
      have := ih 0 m (by omega) (by omega) (by omega)
      omega
    · rw [if_neg e, List.length_cons, List.length_cons]
      have := ih (c + 1) (m + 1) (by omega) (by omega) (by rw [List.length_cons] at hl; omega)
      omega
theorem plate_size {W H : Int} {l : List Int} (h : Up W H l 1) : ((dotC W l 0).length : Int) = (W + 1) * H := by
  have hW := h.1.1; have hH := h.1.2.2.1
  have e : ((H.toNat : Nat) : Int) = H := by omega
  have := dotC_size hW l 0 H.toNat (by omega) (by omega) (by rw [e, Int.mul_comm H W, Int.add_zero]; exact h.2.1)
  rw [this, h.2.1, e, Int.add_mul]; omega

/-! ### a common divisor divides -/
theorem gcdF_dvd : ∀ (d : Nat) (a b : Int), b.natAbs < d → gcdF d a b ∣ a ∧ gcdF d a b ∣ b := by
  intro d
  induction d with
  | zero => intro a b h; omega
  | succ d ih =>
    intro a b h
    unfold gcdF
    by_cases e : b = 0
    · rw [if_pos e, e]; exact ⟨Int.dvd_refl _, Int.dvd_zero _⟩
    · rw [if_neg e]
      have hb : (Int.tmod a b).natAbs < d := by
        rw [Int.natAbs_tmod]
        have := Nat.mod_lt a.natAbs (show 0 < b.natAbs by omega)
        omega
      obtain ⟨h1, h2⟩ := ih b (Int.tmod a b) hb
      refine ⟨?_, h1⟩
      have e2 := Int.mul_tdiv_add_tmod a b
      have e3 : gcdF d b (Int.tmod a b) ∣ b * Int.tdiv a b + Int.tmod a b := Int.dvd_add (Int.dvd_trans h1 (Int.dvd_mul_right _ _)) h2
      rw [e2] at e3; exact e3
theorem gcdF_pos : ∀ (d : Nat) (a b : Int), b.natAbs < d → 0 ≤ a → 0 ≤ b → 0 ≤ gcdF d a b := by
  intro d
  induction d with
  | zero => intro a b h _ _; omega
  | succ d ih =>
    intro a b h a0 b0
    unfold gcdF
    by_cases e : b = 0
    · rw [if_pos e]; exact a0
    · rw [if_neg e]
      refine ih b _ ?_ b0 (Int.tmod_nonneg _ a0)
      rw [Int.natAbs_tmod]
      have := Nat.mod_lt a.natAbs (show 0 < b.natAbs by omega)
      omega

/-! ### crossed plates -/
def crossA (R C : List Int) : List Int := tab (fun i => at_ C (i % C.length)) ((C.length : Int) * R.length).toNat 0
def crossB (R C : List Int) : List Int := tab (fun i => at_ R (i / C.length)) ((C.length : Int) * R.length).toNat 0
theorem crossA_up {R C : List Int} (hs : Sz C.length R.length) (hC : All 1 C) : Up C.length R.length (crossA R C) 1 := by
  have ha := hs.area
  refine ⟨hs, by unfold crossA; rw [tab_length]; omega, ?_⟩
  intro v hv
  obtain ⟨j, hj, rfl⟩ := List.getElem_of_mem hv
  have hj2 : (j : Int) < (C.length : Int) * R.length := by unfold crossA at hj; rw [tab_length] at hj; omega
  rw [← at_nat _ j hj]
  have e : at_ (crossA R C) (j : Int) = at_ C ((j : Int) % C.length) := by unfold crossA; rw [tab_val _ (by omega) (by omega)]
  rw [e]
  have hr := hs.row (i := (j : Int)) (by omega) hj2
  exact all_at hC hr.1 hr.2.1
theorem crossB_up {R C : List Int} (hs : Sz C.length R.length) (hR : All 1 R) : Up C.length R.length (crossB R C) 1 := by
  have ha := hs.area
  refine ⟨hs, by unfold crossB; rw [tab_length]; omega, ?_⟩
  intro v hv
  obtain ⟨j, hj, rfl⟩ := List.getElem_of_mem hv
  have hj2 : (j : Int) < (C.length : Int) * R.length := by unfold crossB at hj; rw [tab_length] at hj; omega
  rw [← at_nat _ j hj]
  have e : at_ (crossB R C) (j : Int) = at_ R ((j : Int) / C.length) := by unfold crossB; rw [tab_val _ (by omega) (by omega)]
  rw [e]
  have hr := hs.row (i := (j : Int)) (by omega) hj2
  exact all_at hR hr.2.2.1 hr.2.2.2
theorem cross_n (R C : List Int) : ((C.length : Int) * R.length).toNat = C.length * R.length := by
  rw [← Int.natCast_mul]; rfl
theorem crossA_tot {R C : List Int} (hC : 0 < C.length) : tot (crossA R C) = R.length * tot C := by
  have e1 : (crossA R C).length = C.length * R.length := by unfold crossA; rw [tab_length, cross_n]
  rw [tot_S1, e1]
  have e2 : S1 (at_ (crossA R C)) (C.length * R.length) = S1 (fun i => (fun x _ => at_ C x) (i % C.length) (i / C.length)) (C.length * R.length) := S1_congr (fun i i0 i1 => by
    unfold crossA; rw [tab_val _ i0 (by rw [cross_n]; exact i1)])
  rw [e2, S1_grid (fun x _ => at_ C x) hC, S1_const, tot_S1]
theorem crossB_tot {R C : List Int} (hC : 0 < C.length) : tot (crossB R C) = C.length * tot R := by
  have e1 : (crossB R C).length = C.length * R.length := by unfold crossB; rw [tab_length, cross_n]
  rw [tot_S1, e1]
  have e2 : S1 (at_ (crossB R C)) (C.length * R.length) = S1 (fun i => (fun _ y => at_ R y) (i % C.length) (i / C.length)) (C.length * R.length) := S1_congr (fun i i0 i1 => by
    unfold crossB; rw [tab_val _ i0 (by rw [cross_n]; exact i1)])
  rw [e2, S1_grid (fun _ y => at_ R y) hC, S1_congr (h := fun y => (C.length : Int) * at_ R y) (fun y _ _ => S1_const _ _), S1_mul, ← tot_S1]
theorem cross_both {R C : List Int} (hC : 0 < C.length) : S1 (fun i => at_ (crossA R C) i * at_ (crossB R C) i) (C.length * R.length) = tot C * tot R := by
  have e2 : S1 (fun i => at_ (crossA R C) i * at_ (crossB R C) i) (C.length * R.length) = S1 (fun i => (fun x y => at_ C x * at_ R y) (i % C.length) (i / C.length)) (C.length * R.length) := S1_congr (fun i i0 i1 => by
    unfold crossA crossB; rw [tab_val _ i0 (by rw [cross_n]; exact i1), tab_val _ i0 (by rw [cross_n]; exact i1)])
  rw [e2, S1_grid (fun x y => at_ C x * at_ R y) hC, S1_congr (h := fun y => tot C * at_ R y) (fun y _ _ => by rw [S1_mulr, ← tot_S1]), S1_mul, ← tot_S1]

/-! ### runs -/
/-- the points that runs tell, from run i on -/
def expand : List Int → Int → List Int
  | [], _ => []
  | n :: r, i => List.replicate n.toNat (i % 2) ++ expand r (i + 1)
/-- the dots among them -/
def runDots : List Int → Int → Int
  | [], _ => 0
  | n :: r, i => n * (i % 2) + runDots r (i + 1)
/-- none is negative, and none but the first one is 0 -/
def Runs : List Int → Int → Prop
  | [], _ => True
  | n :: r, i => 0 ≤ n ∧ (0 < i → 1 ≤ n) ∧ Runs r (i + 1)
theorem expand_app : ∀ (a b : List Int) (i : Int), expand (a ++ b) i = expand a i ++ expand b (i + a.length) := by
  intro a
  induction a with
  | nil => intro b i; simp [expand]
  | cons n a ih =>
    intro b i
    simp only [List.cons_append, expand, ih, List.append_assoc, List.length_cons]
    rw [show i + 1 + (a.length : Int) = i + ((a.length + 1 : Nat) : Int) by omega]
theorem Runs_app : ∀ {a b : List Int} {i : Int}, Runs a i → Runs b (i + a.length) → Runs (a ++ b) i := by
  intro a
  induction a with
  | nil => intro b i _ h; simpa using h
  | cons n a ih =>
    intro b i h1 h2
    refine ⟨h1.1, h1.2.1, ih h1.2.2 ?_⟩
    rw [List.length_cons] at h2
    rw [show i + 1 + (a.length : Int) = i + ((a.length + 1 : Nat) : Int) by omega]; exact h2
theorem expand_len : ∀ {r : List Int} {i : Int}, Runs r i → ((expand r i).length : Int) = tot r := by
  intro r
  induction r with
  | nil => intro i _; rfl
  | cons n r ih =>
    intro i h
    have := ih h.2.2; have := h.1
    rw [expand, List.length_append, List.length_replicate, tot]; omega
theorem tot_rep (n : Nat) (v : Int) : tot (List.replicate n v) = n * v := by
  induction n with
  | zero => simp [tot]
  | succ n ih => rw [List.replicate_succ, tot, ih, Int.natCast_add, Int.add_mul]; simp; omega
theorem expand_tot : ∀ {r : List Int} {i : Int}, Runs r i → tot (expand r i) = runDots r i := by
  intro r
  induction r with
  | nil => intro i _; rfl
  | cons n r ih =>
    intro i h
    have h0 := h.1
    rw [expand, tot_app, tot_rep, ih h.2.2, runDots, show ((n.toNat : Nat) : Int) = n by omega]
theorem Runs_bd : ∀ {r : List Int} {i : Int}, 0 ≤ i → Runs r i → 0 ≤ tot r ∧ (r.length : Int) ≤ tot r + 1 ∧ (0 < i → (r.length : Int) ≤ tot r) := by
  intro r
  induction r with
  | nil => intro i _ _; simp [tot]
  | cons n r ih =>
    intro i hi h
    obtain ⟨h1, h2, h3⟩ := ih (by omega) h.2.2
    have h4 := h3 (by omega)
    rw [tot, List.length_cons]
    have := h.1
    refine ⟨by omega, by omega, fun z => ?_⟩
    have := h.2.1 z; omega
theorem Runs_at : ∀ {r : List Int} {i : Int}, Runs r i → ∀ j : Int, 0 ≤ j → j < r.length → 0 ≤ at_ r j ∧ (0 < i + j → 1 ≤ at_ r j) := by
  intro r
  induction r with
  | nil => intro i _ j j0 j1; simp at j1; omega
  | cons n r ih =>
    intro i h j j0 j1
    by_cases e : j = 0
    · subst e; exact ⟨h.1, fun z => h.2.1 (by omega)⟩
    · have := ih h.2.2 (j - 1) (by omega) (by rw [List.length_cons] at j1; omega)
      have e2 := at_cons n r (i := j - 1) (by omega)
      rw [show 1 + (j - 1) = j by omega] at e2
      rw [e2]; exact ⟨this.1, fun z => this.2 (by omega)⟩

/-! ### one more at one place -/
theorem S1_at {g h : Int → Int} {m e : Int} {n : Nat} (m0 : 0 ≤ m) (m1 : m < n) (hm : h m = g m + e) (ho : ∀ i : Int, 0 ≤ i → i < n → i ≠ m → h i = g i) : S1 h n = S1 g n + e := by
  induction n with
  | zero => omega
  | succ n ih =>
    rw [S1, S1]
    by_cases c : m = n
    · have h1 : S1 h n = S1 g n := S1_congr (fun i i0 i1 => ho i i0 (by omega) (by omega))
      have h2 : h n = g n + e := by rw [← c]; exact hm
      omega
    · rw [ih (by omega) (fun i i0 i1 hi => ho i i0 (by omega) hi), ho n (by omega) (by omega) (fun z => c z.symm)]; omega
/-- the sum of those at odd multiples of p -/
def selL (p : Int) : List Int → Int → Int
  | [], _ => 0
  | v :: r, i => (if (i / p) % 2 = 1 then v else 0) + selL p r (i + 1)
def bitF (p i : Int) : Int := if (i / p) % 2 = 1 then 1 else 0
theorem selL_S1 (p : Int) : ∀ (l : List Int) (k : Int), selL p l k = S1 (fun i => bitF p (k + i) * at_ l i) l.length := by
  intro l
  induction l with
  | nil => intro k; rfl
  | cons v l ih =>
    intro k
    rw [selL, ih (k + 1), List.length_cons, Nat.add_comm, S1_app]
    have e : S1 (fun i => bitF p (k + i) * at_ (v :: l) i) 1 = if (k / p) % 2 = 1 then v else 0 := by
      show 0 + bitF p (k + ((0 : Nat) : Int)) * v = _
      unfold bitF; rw [show k + ((0 : Nat) : Int) = k by omega]; split <;> simp
    rw [e]; congr 1
    exact S1_congr (fun i i0 _ => by rw [show ((1 : Nat) : Int) = 1 from rfl, at_cons v l i0]; congr 2; omega)
end Go.Proofs.Ytmahpennnnajcaa.Pic
