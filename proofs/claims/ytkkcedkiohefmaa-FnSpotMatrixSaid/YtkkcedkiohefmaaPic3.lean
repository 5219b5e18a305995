/- Plain facts, the third part: sorting by a key, stably: segments, rotations, merged halves, places (no program in sight). -/
import Derived.Test.YtkkcedkiohefmaaPic2
set_option linter.unusedVariables false
set_option linter.unusedSimpArgs false
namespace Go.Proofs.Ytkkcedkiohefmaa.Pic

def bef (K : Int → Int) (x y : Int) : Prop := K x < K y ∨ K x = K y ∧ x < y
theorem bef_trans {K : Int → Int} {x y z : Int} (h1 : bef K x y) (h2 : bef K y z) : bef K x z := by unfold bef at *; omega
theorem bef_of {K : Int → Int} {x y : Int} (h : ¬ K y < K x) (h2 : x < y) : bef K x y := by unfold bef; omega
theorem bef_le {K : Int → Int} {x y : Int} (h : bef K x y) : K x ≤ K y := by unfold bef at h; omega
def Srt (K : Int → Int) (l : List Int) (a b : Int) : Prop := ∀ p q : Int, a ≤ p → p < q → q < b → bef K (at_ l p) (at_ l q)
def Seg (l r : List Int) (a b : Int) : Prop := r.length = l.length ∧ (∀ p : Int, p < a ∨ b ≤ p → 0 ≤ p → at_ r p = at_ l p) ∧ ∀ p : Int, a ≤ p → p < b → ∃ q : Int, a ≤ q ∧ q < b ∧ at_ r p = at_ l q
theorem Seg.refl (l : List Int) (a b : Int) : Seg l l a b := ⟨rfl, fun _ _ _ => rfl, fun p h1 h2 => ⟨p, h1, h2, rfl⟩⟩
theorem Seg.trans {l m r : List Int} {a b : Int} (h : Seg l m a b) (h2 : Seg m r a b) : Seg l r a b :=
  ⟨h2.1.trans h.1, fun p hp h0 => (h2.2.1 p hp h0).trans (h.2.1 p hp h0), fun p h3 h4 => by
    obtain ⟨q, q1, q2, e⟩ := h2.2.2 p h3 h4
    obtain ⟨s, s1, s2, e2⟩ := h.2.2 q q1 q2
    exact ⟨s, s1, s2, e.trans e2⟩⟩
theorem Seg.wide {l r : List Int} {a b c d : Int} (h : Seg l r a b) (h0 : 0 ≤ c) (h1 : c ≤ a) (h2 : b ≤ d) : Seg l r c d :=
  ⟨h.1, fun p hp h0 => h.2.1 p (by omega) h0, fun p h3 h4 => by
    by_cases hp : a ≤ p ∧ p < b
    · obtain ⟨q, q1, q2, e⟩ := h.2.2 p hp.1 hp.2; exact ⟨q, by omega, by omega, e⟩
    · exact ⟨p, h3, h4, h.2.1 p (by omega) (by omega)⟩⟩
theorem Srt.far {K : Int → Int} {l r : List Int} {a b c d : Int} (h : Srt K l c d) (hs : Seg l r a b) (h0 : 0 ≤ c) (hf : d ≤ a ∨ b ≤ c) : Srt K r c d := fun p q h1 h2 h3 => by
  rw [hs.2.1 p (by omega) (by omega), hs.2.1 q (by omega) (by omega)]; exact h p q h1 h2 h3
theorem set_perm {l : List Int} {i j : Nat} (hi : i < l.length) (hj : j < l.length) : ((l.set i l[j]).set j l[i]).Perm l := by
  exact List.set_set_perm hi hj
def swp (l : List Int) (i j : Int) : List Int := (l.set i.toNat (at_ l j)).set j.toNat (at_ l i)
theorem swp_perm {l : List Int} {i j : Int} (i0 : 0 ≤ i) (i1 : i < l.length) (j0 : 0 ≤ j) (j1 : j < l.length) : (swp l i j).Perm l := by
  obtain ⟨a, rfl⟩ : ∃ a : Nat, i = a := ⟨i.toNat, by omega⟩
  obtain ⟨b, rfl⟩ : ∃ b : Nat, j = b := ⟨j.toNat, by omega⟩
  unfold swp
  rw [at_nat l a (by omega), at_nat l b (by omega), Int.toNat_natCast, Int.toNat_natCast]
  exact set_perm (by omega) (by omega)
theorem swp_len (l : List Int) (i j : Int) : (swp l i j).length = l.length := by unfold swp; simp
theorem swp_at {l : List Int} {i j p : Int} (i0 : 0 ≤ i) (i1 : i < l.length) (j0 : 0 ≤ j) (j1 : j < l.length) (p0 : 0 ≤ p) : at_ (swp l i j) p = if p = j then at_ l i else if p = i then at_ l j else at_ l p := by
  unfold swp
  rw [at_set j0 (by rw [List.length_set]; exact j1) p0]
  by_cases h : p = j
  · rw [if_pos h, if_pos h]
  · rw [if_neg h, if_neg h, at_set i0 i1 p0]
def rotF (g : Int → Int) (a m b p : Int) : Int := if a ≤ p ∧ p < b then (if p < a + (b - m) then g (p + (m - a)) else g (p - (b - m))) else g p
theorem rot_seg {l r : List Int} {a m b : Int} (h0 : 0 ≤ a) (h1 : a ≤ m) (h2 : m ≤ b) (hl : r.length = l.length) (h : ∀ p : Int, 0 ≤ p → at_ r p = rotF (at_ l) a m b p) : Seg l r a b :=
  ⟨hl, fun p hp p0 => by rw [h p p0]; unfold rotF; rw [if_neg (by omega)], fun p h3 h4 => by
    rw [h p (by omega)]; unfold rotF; rw [if_pos ⟨h3, h4⟩]
    by_cases c : p < a + (b - m)
    · rw [if_pos c]; exact ⟨_, by omega, by omega, rfl⟩
    · rw [if_neg c]; exact ⟨_, by omega, by omega, rfl⟩⟩
def Two (K : Int → Int) (l : List Int) (a m b : Int) : Prop := Srt K l a m ∧ Srt K l m b ∧ ∀ p q : Int, a ≤ p → p < m → m ≤ q → q < b → at_ l p < at_ l q
theorem one_left {K : Int → Int} {l r : List Int} {a b i : Int} (h0 : 0 ≤ a) (h : Two K l a (a + 1) b) (hi : a + 1 ≤ i) (hi2 : i ≤ b)
    (lo : ∀ q : Int, a + 1 ≤ q → q < i → K (at_ l q) < K (at_ l a)) (hi3 : ∀ q : Int, i ≤ q → q < b → ¬ K (at_ l q) < K (at_ l a))
    (hr : ∀ p : Int, 0 ≤ p → at_ r p = rotF (at_ l) a (a + 1) i p) : Srt K r a b := by
  obtain ⟨_, hB, hAB⟩ := h
  intro p q h1 h2 h3
  rw [hr p (by omega), hr q (by omega)]
  unfold rotF
  by_cases c1 : q < i
  · rw [if_pos (by omega), if_pos (by omega), if_pos (by omega)]
    by_cases c2 : q < a + (i - (a + 1))
    · rw [if_pos c2]; exact hB _ _ (by omega) (by omega) (by omega)
    · rw [if_neg c2, show q - (i - (a + 1)) = a by omega]
      exact .inl (lo _ (by omega) (by omega))
  · rw [if_neg (show ¬ (a ≤ q ∧ q < i) by omega)]
    by_cases c3 : p < i
    · rw [if_pos (by omega)]
      by_cases c2 : p < a + (i - (a + 1))
      · rw [if_pos c2]; exact hB _ _ (by omega) (by omega) (by omega)
      · rw [if_neg c2, show p - (i - (a + 1)) = a by omega]
        exact bef_of (hi3 q (by omega) h3) (hAB _ _ (by omega) (by omega) (by omega) (by omega))
    · rw [if_neg (by omega)]; exact hB _ _ (by omega) (by omega) (by omega)
theorem one_right {K : Int → Int} {l r : List Int} {a m i : Int} (h0 : 0 ≤ a) (h : Two K l a m (m + 1)) (hi : a ≤ i) (hi2 : i ≤ m)
    (lo : ∀ q : Int, a ≤ q → q < i → ¬ K (at_ l m) < K (at_ l q)) (hi3 : ∀ q : Int, i ≤ q → q < m → K (at_ l m) < K (at_ l q))
    (hr : ∀ p : Int, 0 ≤ p → at_ r p = rotF (at_ l) i m (m + 1) p) : Srt K r a (m + 1) := by
  obtain ⟨hA, _, hAB⟩ := h
  intro p q h1 h2 h3
  rw [hr p (by omega), hr q (by omega)]
  unfold rotF
  by_cases c1 : p < i
  · rw [if_neg (show ¬ (i ≤ p ∧ p < m + 1) by omega)]
    by_cases c2 : q < i
    · rw [if_neg (by omega)]; exact hA _ _ (by omega) (by omega) (by omega)
    · rw [if_pos (by omega)]
      by_cases c3 : q < i + (m + 1 - m)
      · rw [if_pos c3, show q + (m - i) = m by omega]
        exact bef_of (lo p (by omega) c1) (hAB _ _ (by omega) (by omega) (by omega) (by omega))
      · rw [if_neg c3]; exact hA _ _ (by omega) (by omega) (by omega)
  · rw [if_pos (show i ≤ p ∧ p < m + 1 by omega), if_pos (show i ≤ q ∧ q < m + 1 by omega), if_neg (show ¬ q < i + (m + 1 - m) by omega)]
    by_cases c3 : p < i + (m + 1 - m)
    · rw [if_pos c3, show p + (m - i) = m by omega]
      exact .inl (hi3 _ (by omega) (by omega))
    · rw [if_neg c3]; exact hA _ _ (by omega) (by omega) (by omega)
theorem halves {K : Int → Int} {l r : List Int} {a m b s mid : Int} (h0 : 0 ≤ a) (h : Two K l a m b) (hs : a ≤ s) (hs2 : s ≤ m) (he : m ≤ mid + m - s) (he2 : mid + m - s ≤ b)
    (cut1 : m < mid + m - s → s < m → K (at_ l (mid + m - s - 1)) < K (at_ l s)) (cut2 : a < s → mid + m - s < b → ¬ K (at_ l (mid + m - s)) < K (at_ l (s - 1)))
    (hr : ∀ p : Int, 0 ≤ p → at_ r p = rotF (at_ l) s m (mid + m - s) p) :
    Two K r a s mid ∧ Two K r mid (mid + m - s) b ∧ ∀ p q : Int, a ≤ p → p < mid → mid ≤ q → q < b → bef K (at_ r p) (at_ r q) := by
  obtain ⟨hA, hB, hAB⟩ := h
  have f1 : ∀ p : Int, a ≤ p → p < s → at_ r p = at_ l p := fun p p0 p1 => by rw [hr p (by omega)]; unfold rotF; rw [if_neg (by omega)]
  have f2 : ∀ p : Int, s ≤ p → p < mid → at_ r p = at_ l (p + (m - s)) := fun p p0 p1 => by rw [hr p (by omega)]; unfold rotF; rw [if_pos (by omega), if_pos (by omega)]
  have f3 : ∀ p : Int, mid ≤ p → p < mid + m - s → at_ r p = at_ l (p - (mid - s)) := fun p p0 p1 => by rw [hr p (by omega)]; unfold rotF; rw [if_pos (by omega), if_neg (by omega), show p - (mid + m - s - m) = p - (mid - s) by omega]
  have f4 : ∀ p : Int, mid + m - s ≤ p → p < b → at_ r p = at_ l p := fun p p0 p1 => by rw [hr p (by omega)]; unfold rotF; rw [if_neg (by omega)]
  have sA : ∀ p q : Int, a ≤ p → p < q → q < m → bef K (at_ l p) (at_ l q) := hA
  have sB : ∀ p q : Int, m ≤ p → p < q → q < b → bef K (at_ l p) (at_ l q) := hB
  have kA : ∀ p q : Int, a ≤ p → p ≤ q → q < m → K (at_ l p) ≤ K (at_ l q) := fun p q h1 h2 h3 => by
    by_cases e : p = q
    · rw [e]; omega
    · exact bef_le (sA p q h1 (by omega) h3)
  have kB : ∀ p q : Int, m ≤ p → p ≤ q → q < b → K (at_ l p) ≤ K (at_ l q) := fun p q h1 h2 h3 => by
    by_cases e : p = q
    · rw [e]; omega
    · exact bef_le (sB p q h1 (by omega) h3)
  refine ⟨⟨fun p q h1 h2 h3 => ?_, fun p q h1 h2 h3 => ?_, fun p q h1 h2 h3 h4 => ?_⟩, ⟨fun p q h1 h2 h3 => ?_, fun p q h1 h2 h3 => ?_, fun p q h1 h2 h3 h4 => ?_⟩, fun p q h1 h2 h3 h4 => ?_⟩
  · rw [f1 p h1 (by omega), f1 q (by omega) h3]; exact sA p q h1 h2 (by omega)
  · rw [f2 p h1 (by omega), f2 q (by omega) h3]; exact sB _ _ (by omega) (by omega) (by omega)
  · rw [f1 p h1 h2, f2 q h3 h4]; exact hAB _ _ (by omega) (by omega) (by omega) (by omega)
  · rw [f3 p h1 (by omega), f3 q (by omega) h3]; exact sA _ _ (by omega) (by omega) (by omega)
  · rw [f4 p h1 (by omega), f4 q (by omega) h3]; exact sB _ _ (by omega) (by omega) (by omega)
  · rw [f3 p h1 h2, f4 q h3 h4]; exact hAB _ _ (by omega) (by omega) (by omega) (by omega)
  · by_cases c1 : p < s
    · rw [f1 p h1 c1]
      by_cases c2 : q < mid + m - s
      · rw [f3 q h3 c2]; exact sA _ _ (by omega) (by omega) (by omega)
      · rw [f4 q (by omega) h4]
        refine bef_of ?_ (hAB _ _ (by omega) (by omega) (by omega) (by omega))
        have e1 := cut2 (by omega) (by omega)
        have e2 := kA p (s - 1) h1 (by omega) (by omega)
        have e3 := kB (mid + m - s) q (by omega) (by omega) h4
        omega
    · rw [f2 p (by omega) h2]
      by_cases c2 : q < mid + m - s
      · rw [f3 q h3 c2]
        have e1 := cut1 (by omega) (by omega)
        have e2 := kB (p + (m - s)) (mid + m - s - 1) (by omega) (by omega) (by omega)
        have e3 := kA s (q - (mid - s)) (by omega) (by omega) (by omega)
        exact .inl (by omega)
      · rw [f4 q (by omega) h4]; exact sB _ _ (by omega) (by omega) (by omega)
theorem joined {K : Int → Int} {l l1 l2 : List Int} {a mid b : Int} (h0 : 0 ≤ a) (h1 : a ≤ mid) (h2 : mid ≤ b) (hb : ∀ p q : Int, a ≤ p → p < mid → mid ≤ q → q < b → bef K (at_ l p) (at_ l q))
    (s1 : Seg l l1 a mid) (o1 : Srt K l1 a mid) (s2 : Seg l1 l2 mid b) (o2 : Srt K l2 mid b) : Srt K l2 a b := by
  intro p q p1 p2 p3
  by_cases c1 : q < mid
  · rw [s2.2.1 p (by omega) (by omega), s2.2.1 q (by omega) (by omega)]; exact o1 p q p1 p2 c1
  · by_cases c2 : mid ≤ p
    · exact o2 p q c2 p2 p3
    · rw [s2.2.1 p (by omega) (by omega)]
      obtain ⟨u, u1, u2, e1⟩ := s1.2.2 p p1 (by omega)
      obtain ⟨v, v1, v2, e2⟩ := s2.2.2 q (by omega) p3
      rw [e1, e2, s1.2.1 v (by omega) (by omega)]
      exact hb u v u1 u2 v1 v2
def befB (K : Int → Int) (x y : Int) : Bool := decide (K x < K y) || (decide (K x = K y) && decide (x < y))
theorem befB_iff {K : Int → Int} {x y : Int} : befB K x y = true ↔ bef K x y := by unfold befB bef; simp
theorem bef_irrefl {K : Int → Int} (x : Int) : ¬ bef K x x := by unfold bef; omega
theorem bef_asymm {K : Int → Int} {x y : Int} (h : bef K x y) : ¬ bef K y x := by unfold bef at *; omega
theorem count_srt {K : Int → Int} : ∀ (r : List Int) (p : Nat), Srt K r 0 r.length → (h : p < r.length) → r.countP (fun y => befB K y r[p]) = p := by
  intro r p hs h
  have e : r = r.take p ++ r.drop p := (List.take_append_drop p r).symm
  have c1 : (r.take p).countP (fun y => befB K y r[p]) = p := by
    rw [List.countP_eq_length.mpr, List.length_take]; · omega
    intro y hy
    obtain ⟨i, hi, rfl⟩ := List.mem_iff_getElem.mp hy
    rw [List.length_take] at hi
    rw [List.getElem_take]
    have := hs i p (by omega) (by omega) (by omega)
    rw [at_nat r i (by omega), at_nat r p h] at this
    exact befB_iff.mpr this
  have c2 : (r.drop p).countP (fun y => befB K y r[p]) = 0 := by
    rw [List.countP_eq_zero]
    intro y hy hb
    obtain ⟨i, hi, rfl⟩ := List.mem_iff_getElem.mp hy
    rw [List.length_drop] at hi
    rw [List.getElem_drop] at hb
    have hb := befB_iff.mp hb
    by_cases e0 : i = 0
    · subst e0; exact bef_irrefl _ hb
    · have := hs p (p + i : Nat) (by omega) (by omega) (by omega)
      rw [at_nat r p h, at_nat r (p + i) (by omega)] at this
      exact bef_asymm hb this
  generalize r[p] = v at c1 c2
  have e2 := congrArg (List.countP fun y => befB K y v) e
  rw [List.countP_append, c1, c2] at e2
  exact e2
end Go.Proofs.Ytkkcedkiohefmaa.Pic
