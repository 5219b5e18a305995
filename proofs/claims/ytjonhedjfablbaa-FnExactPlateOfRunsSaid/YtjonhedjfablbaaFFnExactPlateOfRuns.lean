/- What the functions that laws.FnExactPlateOfRuns reaches compute, and that the law is true: over numbers alone. -/
import Derived.Test.YtjonhedjfablbaaPFnExactPlateOfRunsx
import Derived.Test.YtjonhedjfablbaaPic
namespace Go.Proofs.Ytjonhedjfablbaa.PFnExactPlateOfRuns
open Go.RowKit Go.Proofs.YtjonhedjfablbaaW.PrintWords Go.Proofs.YtjonhedjfablbaaW.PrintMore
set_option linter.unusedVariables false
set_option linter.unusedSimpArgs false
set_option linter.unusedSimpArgs false
open Pic
theorem w64 {x : Int} (h1 : -9223372036854775808 ≤ x) (h2 : x ≤ 9223372036854775807) : wrap64 x = x := by unfold wrap64; omega
theorem rd_at (l : List Int) (i : Int) : rd l i = at_ l i := rfl
theorem tmod_pos {n x : Int} (h : 0 ≤ x) : Int.tmod x n = x % n := Int.tmod_eq_emod_of_nonneg h
theorem tdiv_pos {n x : Int} (h : 0 ≤ x) : Int.tdiv x n = x / n := Int.tdiv_eq_ediv_of_nonneg h
theorem dec_ff {p : Prop} [Decidable p] (h : ¬ p) : some false = some (decide p) := by rw [decide_eq_false h]
theorem dec_dd {p q : Prop} [Decidable p] [Decidable q] (h : p ↔ q) : some (decide p) = some (decide q) := by rw [decide_eq_decide.mpr h]
theorem mn_eq (a b : Int) : mn a b = if b < a then b else a := rfl
theorem mk_neg (n : Nat) : ¬ ((1 : Int) + n < 0) := by omega
theorem l1In (x a b : Int) : spec_l1In.f x a b = some (decide (a ≤ x ∧ x ≤ b)) := by
  unfold spec_l1In.f
  split
  all_goals first | exact dec_dd (by omega) | exact dec_ff (by omega)
theorem size_s (W H : Int) : spec_l1Size.f W H = some (decide (Sz W H)) := by
  unfold spec_l1Size.f
  simp only [l1In, Option.bind_some]
  by_cases hW : 1 ≤ W ∧ W ≤ 64
  · by_cases hH : 1 ≤ H ∧ H ≤ 64
    · have := mul_bd (c := 64) (d := 64) (show 0 ≤ W by omega) hW.2 (show 0 ≤ H by omega) hH.2
      rw [if_pos (decide_eq_true hW), if_pos (decide_eq_true hH), w64 (by omega) (by omega)]
      exact dec_dd (by unfold Sz; omega)
    · rw [if_pos (decide_eq_true hW), if_neg (by rw [decide_eq_true_iff]; exact hH)]; exact dec_ff (fun h => hH ⟨h.2.2.1, h.2.2.2.1⟩)
  · rw [if_neg (by rw [decide_eq_true_iff]; exact hW)]; exact dec_ff (fun h => hW ⟨h.1, h.2.1⟩)
theorem up_l (m : Int) (d : Nat) : ∀ (k : Nat) (l : List Int) (i : Int), 0 ≤ i → l.length ≤ 1048576 → i ≤ l.length → (l.length : Int) - i = d → d < k → spec_l1Up.l0 k m l l.length i = some (decide (All m (l.drop i.toNat))) := by
  induction d with
  | zero =>
    intro k l i h0 hl h1 hd hk
    obtain ⟨k, rfl⟩ : ∃ m, k = m + 1 := ⟨k - 1, by omega⟩
    rw [spec_l1Up.l0, if_neg (by omega), List.drop_eq_nil_of_le (by omega)]
    rw [decide_eq_true (show All m [] from fun v h => by simp at h)]
  | succ d ih =>
    intro k l i h0 hl h1 hd hk
    obtain ⟨k, rfl⟩ : ∃ m, k = m + 1 := ⟨k - 1, by omega⟩
    rw [spec_l1Up.l0, if_pos (by omega), if_pos h0, if_pos (by omega), l1In, rd_at, Option.bind_some, drop_at l h0 (by omega), w64 (by omega) (by omega)]
    by_cases h : 0 ≤ at_ l i ∧ at_ l i ≤ m
    · rw [if_pos (decide_eq_true h), ih k l (i + 1) (by omega) hl (by omega) (by omega) (by omega)]
      exact dec_dd (by rw [All.cons]; exact ⟨fun x => ⟨h, x⟩, fun x => x.2⟩)
    · rw [if_neg (by rw [decide_eq_true_iff]; exact h)]; exact dec_ff (fun x => h (All.cons.mp x).1)
theorem up_s {W H : Int} {l : List Int} (hl : l.length ≤ 1048576) (m : Int) {k : Nat} (hk : 1100000 ≤ k) : spec_l1Up.f k W H l m = some (decide (Up W H l m)) := by
  obtain ⟨k, rfl⟩ : ∃ m, k = m + 1 := ⟨k - 1, by omega⟩
  unfold spec_l1Up.f
  rw [size_s, Option.bind_some]
  by_cases h : Sz W H
  · have := h.area
    rw [if_pos (decide_eq_true h), w64 (by omega) (by omega), spec_l1Up.j0]
    by_cases e : (l.length : Int) = W * H
    · rw [if_neg (by rw [bne_iff_ne]; exact fun x => x e), up_l m l.length k l 0 (by omega) hl (by omega) (by omega) (by omega)]
      exact dec_dd ⟨fun x => ⟨h, e, x⟩, fun x => x.2.2⟩
    · rw [if_pos (by rw [bne_iff_ne]; exact e)]; exact dec_ff (fun x => e x.2.1)
  · rw [if_neg (by rw [decide_eq_true_iff]; exact h), spec_l1Up.j0, if_pos rfl]; exact dec_ff (fun x => h x.1)
theorem plate_s {W H : Int} {l : List Int} (hl : l.length ≤ 1048576) {k : Nat} (hk : 1100000 ≤ k) : spec_IsPlate.f k W H l = some (decide (Up W H l 1)) := by
  unfold spec_IsPlate.f; rw [up_s hl 1 hk]; rfl
/-- the plate that runs tell, of N points -/
def prL (N : Int) : List Int → Int → List Int → Option (List Int)
  | [], _, out => if (out.length : Int) = N then some out else none
  | n :: r, i, out => if n < 0 ∨ (n = 0 ∧ 0 < i) ∨ N - out.length < n then none else prL N r (i + 1) (out ++ List.replicate n.toNat (i % 2))
def prR (W H : Int) (o : Option (List Int)) : Int × Int × List Int × Bool := match o with | some l => (W, H, l, true) | none => (0, 0, [], false)
def plateOfRuns (W H : Int) (l : List Int) : Int × Int × List Int × Bool := if Sz W H then prR W H (prL (W * H) l 0 []) else (0, 0, [], false)
theorem prL_len {N : Int} : ∀ (r : List Int) (i : Int) (out l : List Int), prL N r i out = some l → (l.length : Int) = N ∧ ((0 < i → (out.length : Int) + r.length ≤ N) ∧ (0 ≤ i → (out.length : Int) + r.length ≤ N + 1)) := by
  intro r
  induction r with
  | nil =>
    intro i out l h
    unfold prL at h
    split at h
    · rename_i e
      injection h with h; subst h
      refine ⟨e, fun _ => ?_, fun _ => ?_⟩ <;> simp <;> omega
    · exact absurd h (by simp)
  | cons n r ih =>
    intro i out l h
    unfold prL at h
    split at h
    · exact absurd h (by simp)
    · rename_i e
      have := ih _ _ _ h
      rw [List.length_append, List.length_replicate] at this
      refine ⟨this.1, fun h0 => ?_, fun h0 => ?_⟩
      · have := this.2.1 (by omega); rw [List.length_cons]; omega
      · have := this.2.1 (by omega); rw [List.length_cons]; omega
theorem plateOfRuns_len (W H : Int) (l : List Int) : (plateOfRuns W H l).2.2.1.length ≤ 1048576 := by
  unfold plateOfRuns; split
  · rename_i h
    have ha := h.area
    cases e : prL (W * H) l 0 [] with
    | none => exact Nat.zero_le _
    | some o => have := (prL_len _ _ _ _ e).1; show o.length ≤ _; omega
  · exact Nat.zero_le _
theorem all_app {m v : Int} {l : List Int} {n : Nat} (h : All m l) (hv : In m v) : All m (l ++ List.replicate n v) := by
  intro x hx
  rcases List.mem_append.mp hx with e | e
  · exact h x e
  · rw [(List.mem_replicate.mp e).2]; exact hv
theorem prl1_s {W H : Int} (h : Sz W H) (X : List Int) (d : Nat) : ∀ (k : Nat) (n p i : Int) (out : List Int), 0 ≤ i → n = d → (out.length : Int) + n ≤ W * H → d < k → ∃ m, k ≤ m + d + 1 ∧
    spec_PlateOfRuns.l1 k W H i n X X.length p W H out = spec_PlateOfRuns.l0 m W H X X.length (wrap64 (p + 1)) W H (out ++ List.replicate d (i % 2)) := by
  have ha := h.area
  induction d with
  | zero =>
    intro k n p i out hi hn ho hk
    obtain ⟨k, rfl⟩ : ∃ m, k = m + 1 := ⟨k - 1, by omega⟩
    refine ⟨k, by omega, ?_⟩
    rw [spec_PlateOfRuns.l1, if_neg (by omega)]; simp
  | succ d ih =>
    intro k n p i out hi hn ho hk
    obtain ⟨k, rfl⟩ : ∃ m, k = m + 1 := ⟨k - 1, by omega⟩
    obtain ⟨m, h1, h2⟩ := ih k (n - 1) p i (out ++ [i % 2]) hi (by omega) (by simp; omega) (by omega)
    refine ⟨m, by omega, ?_⟩
    rw [spec_PlateOfRuns.l1, if_pos (by omega), w64 (x := W * H) (by omega) (by omega), if_pos (by omega), if_pos (by omega), w64 (by omega) (by omega), tmod_pos hi, h2, List.append_assoc, List.singleton_append, List.replicate_succ]
/-- past its room it holds one more than the plate, and stays so -/
theorem prl1_o {W H : Int} (h : Sz W H) (X : List Int) (d : Nat) : ∀ (k : Nat) (n p i : Int) (out : List Int), 0 ≤ i → 0 ≤ n → n ≤ W * H → (out.length : Int) ≤ W * H + 1 → W * H < out.length + n → W * H + 1 - out.length = d → d < k → ∃ m out', k ≤ m + d + 1 ∧ (out'.length : Int) = W * H + 1 ∧
    spec_PlateOfRuns.l1 k W H i n X X.length p W H out = spec_PlateOfRuns.l0 m W H X X.length (wrap64 (p + 1)) W H out' := by
  have ha := h.area
  induction d with
  | zero =>
    intro k n p i out hi hn hnN ho hno hd hk
    obtain ⟨k, rfl⟩ : ∃ m, k = m + 1 := ⟨k - 1, by omega⟩
    refine ⟨k, out, by omega, by omega, ?_⟩
    rw [spec_PlateOfRuns.l1, w64 (x := W * H) (by omega) (by omega)]
    split
    · rw [if_neg (by omega)]
    · rfl
  | succ d ih =>
    intro k n p i out hi hn hnN ho hno hd hk
    obtain ⟨k, rfl⟩ : ∃ m, k = m + 1 := ⟨k - 1, by omega⟩
    have hn1 : 0 < n := by omega
    obtain ⟨m, o', h1, h2, h3⟩ := ih k (n - 1) p i (out ++ [i % 2]) hi (by omega) (by omega) (by simp; omega) (by simp; omega) (by simp; omega) (by omega)
    refine ⟨m, o', by omega, h2, ?_⟩
    rw [spec_PlateOfRuns.l1, if_pos (by omega), w64 (x := W * H) (by omega) (by omega), if_pos (by omega), if_pos (by omega), w64 (by omega) (by omega), tmod_pos hi, h3]
theorem prl0_o {W H : Int} (h : Sz W H) {X : List Int} (hX : X.length ≤ 1048576) (d : Nat) : ∀ (k : Nat) (p : Int) (out : List Int), 0 ≤ p → p ≤ X.length → (X.length : Int) - p = d → (out.length : Int) = W * H + 1 → (d : Int) * 1030 + 1100000 < k →
    spec_PlateOfRuns.l0 k W H X X.length p W H out = some (0, 0, [], false) := by
  have ha := h.area
  induction d with
  | zero =>
    intro k p out p0 p1 hd ho hk
    obtain ⟨k, rfl⟩ : ∃ m, k = m + 1 := ⟨k - 1, by omega⟩
    rw [spec_PlateOfRuns.l0, if_neg (by omega), plate_s (by omega) (by omega), Option.bind_some, if_neg (by rw [decide_eq_true_iff]; intro hu; have := hu.2.1; omega)]
  | succ d ih =>
    intro k p out p0 p1 hd ho hk
    obtain ⟨k, rfl⟩ : ∃ m, k = m + 2 := ⟨k - 2, by omega⟩
    have fin : ∀ b, 0 ≤ at_ X p → at_ X p ≤ W * H → spec_PlateOfRuns.j2 (k + 1) W H p (at_ X p) X X.length p b W H out = some (0, 0, [], false) := by
      intro b n0 n1
      rw [spec_PlateOfRuns.j2]
      split
      · rfl
      · obtain ⟨m, o', h1, h2, h3⟩ := prl1_o h X 0 k (at_ X p) p p out p0 n0 n1 (by omega) (by omega) (by omega) (by omega)
        rw [h3, w64 (by omega) (by omega)]
        exact ih m (p + 1) o' (by omega) (by omega) (by omega) h2 (by omega)
    rw [spec_PlateOfRuns.l0, if_pos (by omega), if_pos p0, if_pos (by omega), rd_at, w64 (x := W * H) (by omega) (by omega), l1In, Option.bind_some]
    by_cases hn : 0 ≤ at_ X p ∧ at_ X p ≤ W * H
    · rw [if_pos (decide_eq_true hn), fin _ hn.1 hn.2, fin _ hn.1 hn.2]; simp
    · rw [if_neg (by rw [decide_eq_true_iff]; exact hn), spec_PlateOfRuns.j2, if_pos rfl]
theorem prl0_s {W H : Int} (h : Sz W H) {X : List Int} (hX : X.length ≤ 1048576) (d : Nat) : ∀ (k : Nat) (p : Int) (out : List Int), 0 ≤ p → p ≤ X.length → (X.length : Int) - p = d → (out.length : Int) ≤ W * H → All 1 out → (d : Int) * 1030 + 1100000 < k →
    spec_PlateOfRuns.l0 k W H X X.length p W H out = some (prR W H (prL (W * H) (X.drop p.toNat) p out)) := by
  have ha := h.area
  induction d with
  | zero =>
    intro k p out p0 p1 hd ho hA hk
    obtain ⟨k, rfl⟩ : ∃ m, k = m + 1 := ⟨k - 1, by omega⟩
    rw [spec_PlateOfRuns.l0, if_neg (by omega), plate_s (by omega) (by omega), Option.bind_some, drop_end X (by omega), prL]
    by_cases e : (out.length : Int) = W * H
    · rw [if_pos (decide_eq_true ⟨h, e, hA⟩), if_pos e]; rfl
    · rw [if_neg (by rw [decide_eq_true_iff]; intro hu; exact e hu.2.1), if_neg e]; rfl
  | succ d ih =>
    intro k p out p0 p1 hd ho hA hk
    obtain ⟨k, rfl⟩ : ∃ m, k = m + 2 := ⟨k - 2, by omega⟩
    have hp : 0 ≤ p % 2 ∧ p % 2 ≤ 1 := by omega
    have fin : 0 ≤ at_ X p → at_ X p ≤ W * H → ¬ (at_ X p = 0 ∧ 0 < p) → spec_PlateOfRuns.j2 (k + 1) W H p (at_ X p) X X.length p false W H out = some (prR W H (if at_ X p < 0 ∨ (at_ X p = 0 ∧ 0 < p) ∨ W * H - out.length < at_ X p then none else prL (W * H) (X.drop (p + 1).toNat) (p + 1) (out ++ List.replicate (at_ X p).toNat (p % 2)))) := by
      intro n0 n1 hz
      rw [spec_PlateOfRuns.j2, if_neg (by decide)]
      by_cases hr : W * H - out.length < at_ X p
      · obtain ⟨m, o', h1, h2, h3⟩ := prl1_o h X (W * H + 1 - out.length).toNat k (at_ X p) p p out p0 n0 n1 (by omega) (by omega) (by omega) (by omega)
        rw [h3, w64 (by omega) (by omega), prl0_o h hX d m (p + 1) o' (by omega) (by omega) (by omega) h2 (by omega), if_pos (.inr (.inr hr))]; rfl
      · obtain ⟨m, h1, h2⟩ := prl1_s h X (at_ X p).toNat k (at_ X p) p p out p0 (by omega) (by omega) (by omega)
        rw [h2, w64 (by omega) (by omega), ih m (p + 1) _ (by omega) (by omega) (by omega) (by simp; omega) (all_app hA hp) (by omega), if_neg (by omega)]
    rw [spec_PlateOfRuns.l0, if_pos (by omega), if_pos p0, if_pos (by omega), rd_at, w64 (x := W * H) (by omega) (by omega), l1In, Option.bind_some, drop_at X p0 (by omega), prL]
    by_cases hn : 0 ≤ at_ X p ∧ at_ X p ≤ W * H
    · rw [if_pos (decide_eq_true hn)]
      by_cases hz : at_ X p = 0
      · by_cases hp0 : 0 < p
        · rw [if_pos hz, spec_PlateOfRuns.j2, if_pos (decide_eq_true hp0), if_pos (.inr (.inl ⟨hz, hp0⟩))]; rfl
        · rw [if_pos hz, show decide (p > 0) = false from decide_eq_false hp0, fin hn.1 hn.2 (fun x => hp0 x.2)]
      · rw [if_neg hz, fin hn.1 hn.2 (fun x => hz x.1)]
    · rw [if_neg (by rw [decide_eq_true_iff]; exact hn), spec_PlateOfRuns.j2, if_pos rfl, if_pos (by omega)]; rfl
theorem plateOfRuns_s (W H : Int) {X : List Int} (hX : X.length ≤ 1048576) {k : Nat} (hk : 4000000 < k) : spec_PlateOfRuns.f k W H X = some (plateOfRuns W H X) := by
  obtain ⟨k, rfl⟩ : ∃ m, k = m + 1 := ⟨k - 1, by omega⟩
  unfold spec_PlateOfRuns.f plateOfRuns
  rw [size_s, Option.bind_some]
  by_cases h : Sz W H
  · have ha := h.area
    rw [if_pos (decide_eq_true h), w64 (x := W * H) (by omega) (by omega), w64 (by omega) (by omega), spec_PlateOfRuns.j0, if_pos h]
    by_cases hl : (X.length : Int) > W * H + 1
    · rw [if_pos (decide_eq_true hl)]
      cases e : prL (W * H) X 0 [] with
      | none => rfl
      | some o => have := (prL_len _ _ _ _ e).2.2 (by omega); simp at this; omega
    · rw [if_neg (by rw [decide_eq_true_iff]; exact hl)]
      exact prl0_s h hX X.length k 0 [] (by omega) (by omega) (by omega) (by simp; omega) (by intro v hv; simp at hv) (by omega)
  · rw [if_neg (by rw [decide_eq_true_iff]; exact h), spec_PlateOfRuns.j0, if_pos rfl, if_neg h]
theorem tos_l (d : Nat) : ∀ (k : Nat) (l o : List Int) (i : Int), 0 ≤ i → i ≤ l.length → o.length = l.length → l.length ≤ 1048576 → (l.length : Int) - i = d → d < k → laws_toIntS.l0 k l o i = some (o.take i.toNat ++ l.drop i.toNat) := by
  induction d with
  | zero =>
    intro k l o i h0 h1 ho hl hd hk
    obtain ⟨k, rfl⟩ : ∃ m, k = m + 1 := ⟨k - 1, by omega⟩
    rw [laws_toIntS.l0, if_neg (by omega), List.drop_eq_nil_of_le (by omega), List.append_nil, List.take_of_length_le (by omega)]
  | succ d ih =>
    intro k l o i h0 h1 ho hl hd hk
    obtain ⟨k, rfl⟩ : ∃ m, k = m + 1 := ⟨k - 1, by omega⟩
    rw [laws_toIntS.l0, if_pos (by omega), if_pos h0, if_pos (by omega), w64 (by omega) (by omega), rd_at, ih k l _ (i + 1) (by omega) (by omega) (by rw [List.length_set]; exact ho) hl (by omega) (by omega), drop_at l h0 (by omega)]
    rw [show (i + 1).toNat = i.toNat + 1 by omega, List.take_succ_eq_append_getElem (by rw [List.length_set]; omega), List.getElem_set, if_pos rfl, List.take_set_of_le (Nat.le_refl _)]
    simp only [List.append_assoc, List.cons_append, List.nil_append]
theorem tos {l : List Int} (hl : l.length ≤ 1048576) {k : Nat} (hk : 1100000 ≤ k) : laws_toIntS.f k l = some l := by
  unfold laws_toIntS.f
  rw [if_pos (by omega), if_pos (by omega), tos_l l.length k l _ 0 (by omega) (by omega) (by simp) hl (by omega) (by omega)]; rfl
theorem size_i (W H : Int) : impl_sized.f W H = some (decide (Sz W H)) := by
  unfold impl_sized.f
  by_cases h : 1 ≤ W ∧ W ≤ 64 ∧ 1 ≤ H ∧ H ≤ 64
  · have := mul_bd (c := 64) (d := 64) (show 0 ≤ W by omega) h.2.1 (show 0 ≤ H by omega) h.2.2.2
    rw [if_pos (by omega), if_pos (by omega), if_pos (by omega), if_pos (by omega), w64 (by omega) (by omega)]
    exact dec_dd (by unfold Sz; omega)
  · repeat' split
    all_goals first | exact dec_ff (by unfold Sz; omega) | (exfalso; omega)
theorem prl1_i {W H : Int} (h : Sz W H) (X : List Int) (n p i : Int) (hi : 0 ≤ i) (hn : n ≤ 1024) (d : Nat) : ∀ (k : Nat) (j : Int) (out : List Int), 0 ≤ j → n - j = d → (out.length : Int) + d ≤ W * H → d < k → ∃ m, k ≤ m + d + 1 ∧
    impl_PlateOfRuns.l1 k W H i X X.length p n j W H out = impl_PlateOfRuns.l0 m W H X X.length (wrap64 (p + 1)) W H (out ++ List.replicate d (i % 2)) := by
  have ha := h.area
  induction d with
  | zero =>
    intro k j out hj hd ho hk
    obtain ⟨k, rfl⟩ : ∃ m, k = m + 1 := ⟨k - 1, by omega⟩
    refine ⟨k, by omega, ?_⟩
    rw [impl_PlateOfRuns.l1, if_neg (by omega)]; simp
  | succ d ih =>
    intro k j out hj hd ho hk
    obtain ⟨k, rfl⟩ : ∃ m, k = m + 1 := ⟨k - 1, by omega⟩
    obtain ⟨m, h1, h2⟩ := ih k (j + 1) (out ++ [i % 2]) (by omega) (by omega) (by simp; omega) (by omega)
    refine ⟨m, by omega, ?_⟩
    rw [impl_PlateOfRuns.l1, if_pos (by omega), if_pos (by omega), w64 (by omega) (by omega), tmod_pos hi, h2, List.append_assoc, List.singleton_append, List.replicate_succ]
theorem prl0_i {W H : Int} (h : Sz W H) {X : List Int} (hX : X.length ≤ 1048576) (d : Nat) : ∀ (k : Nat) (p : Int) (out : List Int), 0 ≤ p → p ≤ X.length → (X.length : Int) - p = d → (out.length : Int) ≤ W * H → (d : Int) * 4 + (W * H - out.length) + 100 < k →
    impl_PlateOfRuns.l0 k W H X X.length p W H out = some (prR W H (prL (W * H) (X.drop p.toNat) p out)) := by
  have ha := h.area
  induction d with
  | zero =>
    intro k p out p0 p1 hd ho hk
    obtain ⟨k, rfl⟩ : ∃ m, k = m + 1 := ⟨k - 1, by omega⟩
    rw [impl_PlateOfRuns.l0, if_neg (by omega), w64 (by omega) (by omega), drop_end X (by omega), prL]
    by_cases e : (out.length : Int) = W * H
    · rw [if_pos e, if_pos e]; rfl
    · rw [if_neg e, if_neg e]; rfl
  | succ d ih =>
    intro k p out p0 p1 hd ho hk
    obtain ⟨k, rfl⟩ : ∃ m, k = m + 2 := ⟨k - 2, by omega⟩
    have bad : impl_PlateOfRuns.j1 (k + 1) W H p (at_ X p) X X.length p true W H out = some (0, 0, [], false) := by
      rw [impl_PlateOfRuns.j1, if_pos rfl]
    have fin : 0 ≤ at_ X p → ¬ (at_ X p = 0 ∧ 0 < p) → impl_PlateOfRuns.j1 (k + 1) W H p (at_ X p) X X.length p (decide (at_ X p > wrap64 (wrap64 (W * H) - out.length))) W H out = some (prR W H (if at_ X p < 0 ∨ (at_ X p = 0 ∧ 0 < p) ∨ W * H - out.length < at_ X p then none else prL (W * H) (X.drop (p + 1).toNat) (p + 1) (out ++ List.replicate (at_ X p).toNat (p % 2)))) := by
      intro n0 hz
      rw [w64 (x := W * H) (by omega) (by omega), w64 (by omega) (by omega)]
      by_cases hr : W * H - out.length < at_ X p
      · rw [show decide (at_ X p > W * H - out.length) = true from decide_eq_true hr, bad, if_pos (.inr (.inr hr))]; rfl
      · rw [show decide (at_ X p > W * H - out.length) = false from decide_eq_false hr, impl_PlateOfRuns.j1, if_neg (by decide)]
        obtain ⟨m, h1, h2⟩ := prl1_i h X (at_ X p) p p p0 (by omega) (at_ X p).toNat k 0 out (by omega) (by omega) (by omega) (by omega)
        rw [h2, w64 (by omega) (by omega), ih m (p + 1) _ (by omega) (by omega) (by omega) (by simp; omega) (by simp; omega), if_neg (by omega)]
    rw [impl_PlateOfRuns.l0, if_pos (by omega), if_pos p0, if_pos (by omega), rd_at, drop_at X p0 (by omega), prL]
    by_cases hn : at_ X p < 0
    · rw [if_pos hn, bad, if_pos (.inl hn)]; rfl
    · rw [if_neg hn]
      by_cases hz : at_ X p = 0
      · rw [if_pos hz]
        by_cases hp0 : 0 < p
        · rw [if_pos hp0, bad, if_pos (.inr (.inl ⟨hz, hp0⟩))]; rfl
        · rw [if_neg hp0, fin (by omega) (fun x => hp0 x.2)]
      · rw [if_neg hz, fin (by omega) (fun x => hz x.1)]
theorem plateOfRuns_i (W H : Int) {X : List Int} (hX : X.length ≤ 1048576) {k : Nat} (hk : 6000000 < k) : impl_PlateOfRuns.f k W H X = some (plateOfRuns W H X) := by
  unfold impl_PlateOfRuns.f plateOfRuns
  rw [size_i, Option.bind_some]
  by_cases h : Sz W H
  · have ha := h.area
    rw [if_pos (decide_eq_true h), if_pos h]
    exact prl0_i h hX X.length k 0 [] (by omega) (by omega) (by omega) (by simp; omega) (by simp; omega)
  · rw [if_neg (by rw [decide_eq_true_iff]; exact h), if_neg h]
theorem eqs_l (d : Nat) : ∀ (k : Nat) (l : List Int) (i : Int), 0 ≤ i → l.length ≤ 1048576 → l.length - i.toNat ≤ d → d < k → laws_eqIntS.l0 k l l i = some true := by
  induction d with
  | zero =>
    intro k l i h0 hl hd hk
    obtain ⟨k, rfl⟩ : ∃ m, k = m + 1 := ⟨k - 1, by omega⟩
    rw [laws_eqIntS.l0, if_neg (by omega)]
  | succ d ih =>
    intro k l i h0 hl hd hk
    obtain ⟨k, rfl⟩ : ∃ m, k = m + 1 := ⟨k - 1, by omega⟩
    rw [laws_eqIntS.l0]
    by_cases h : i < (l.length : Int)
    · rw [if_pos h, if_pos h0, if_pos h, if_pos rfl, w64 (by omega) (by omega)]; exact ih k l (i + 1) (by omega) hl (by omega) (by omega)
    · rw [if_neg h]
theorem eqs {l : List Int} (hl : l.length ≤ 1048576) {k : Nat} (hk : 1100000 ≤ k) : laws_eqIntS.f k l l = some true := by
  unfold laws_eqIntS.f; rw [if_pos rfl, eqs_l l.length k l 0 (by omega) hl (by omega) (by omega)]
theorem eqp (a b : Int) {l : List Int} (hl : l.length ≤ 1048576) {k : Nat} (hk : 1100000 ≤ k) : laws_eqPicture.f k a b l a b l = some true := by
  unfold laws_eqPicture.f; rw [if_pos rfl, if_pos rfl, eqs hl hk]; rfl
theorem marks_l (d : Nat) : ∀ (k : Nat) (l : List Int) (m i : Int), 0 ≤ i → i ≤ l.length → 0 ≤ m → m + d ≤ 1000000000 → l.length ≤ 1048576 → (l.length : Int) - i = d → d < k →
    laws_markIntS.l0 k l m i = some (m + d, l.take i.toNat ++ marks m d) := by
  induction d with
  | zero =>
    intro k l m i h0 h1 m0 m1 hl hd hk
    obtain ⟨k, rfl⟩ : ∃ m, k = m + 1 := ⟨k - 1, by omega⟩
    rw [laws_markIntS.l0, if_neg (by omega)]
    simp only [marks, List.append_nil, List.take_of_length_le (show l.length ≤ i.toNat by omega)]
    rw [show m + ((0 : Nat) : Int) = m by omega]
  | succ d ih =>
    intro k l m i h0 h1 m0 m1 hl hd hk
    obtain ⟨k, rfl⟩ : ∃ m, k = m + 1 := ⟨k - 1, by omega⟩
    rw [laws_markIntS.l0, if_pos (by omega), if_pos h0, w64 (by omega) (by omega), w64 (by omega) (by omega), ih k _ (m + 1) (i + 1) (by omega) (by rw [List.length_set]; omega) (by omega) (by omega) (by rw [List.length_set]; omega) (by rw [List.length_set]; omega) (by omega)]
    have e : (l.set i.toNat m).take (i + 1).toNat = l.take i.toNat ++ [m] := by
      rw [show (i + 1).toNat = i.toNat + 1 by omega, List.take_succ_eq_append_getElem (by rw [List.length_set]; omega), List.getElem_set]
      rw [if_pos rfl, List.take_set_of_le (Nat.le_refl _)]
    rw [e]
    simp only [marks, List.append_assoc, List.cons_append, List.nil_append]
    rw [show m + 1 + (d : Int) = m + ((d + 1 : Nat) : Int) by omega]
theorem mark_s {l : List Int} {m : Int} (m0 : 0 ≤ m) (m1 : m ≤ 100000000) (hl : l.length ≤ 1048576) {k : Nat} (hk : 1100000 ≤ k) : laws_markIntS.f k l m = some (m + l.length, marks m l.length) := by
  unfold laws_markIntS.f; rw [marks_l l.length k l m 0 (by omega) (by omega) m0 (by omega) hl (by omega) (by omega)]; rfl
theorem mark_p (a b : Int) {l : List Int} {m : Int} (m0 : 0 ≤ m) (m1 : m ≤ 100000000) (hl : l.length ≤ 1048576) {k : Nat} (hk : 1100000 ≤ k) : laws_markPicture.f k a b l m = some (m + l.length, marks m l.length) := by
  unfold laws_markPicture.f; rw [mark_s m0 m1 hl hk]; rfl
theorem held_l (n : Nat) (m : Int) (m0 : 0 ≤ m) (m1 : m ≤ 100000000) (hn : n ≤ 1048576) (d : Nat) : ∀ (k : Nat) (i : Int), 0 ≤ i → i ≤ n → (n : Int) - i = d → d < k → laws_heldIntS.l0 k (marks m n) (m + i) i = some (m + n) := by
  induction d with
  | zero =>
    intro k i h0 h1 hd hk
    obtain ⟨k, rfl⟩ : ∃ m, k = m + 1 := ⟨k - 1, by omega⟩
    rw [laws_heldIntS.l0, if_neg (by rw [marks_length]; omega), show m + i = m + (n : Int) by omega]
  | succ d ih =>
    intro k i h0 h1 hd hk
    obtain ⟨k, rfl⟩ : ∃ m, k = m + 1 := ⟨k - 1, by omega⟩
    have e : rd (marks m n) i = m + i := by
      rw [rd_at]; unfold at_; rw [List.getD_eq_getElem?_getD, marks_at n m i.toNat (by omega), Option.getD_some]; omega
    rw [laws_heldIntS.l0, if_pos (by rw [marks_length]; omega), if_pos h0, if_pos e, w64 (by omega) (by omega), w64 (by omega) (by omega), show m + i + 1 = m + (i + 1) by omega]
    exact ih k (i + 1) (by omega) (by omega) (by omega) (by omega)
theorem held_s {n : Nat} {m : Int} (m0 : 0 ≤ m) (m1 : m ≤ 100000000) (hn : n ≤ 1048576) {k : Nat} (hk : 1100000 ≤ k) : laws_heldIntS.f k (marks m n) m = some (m + n) := by
  have := held_l n m m0 m1 hn n k 0 (by omega) (by omega) (by omega) (by omega)
  rw [Int.add_zero] at this
  unfold laws_heldIntS.f; exact this
theorem held_p (a b : Int) {n : Nat} {m : Int} (m0 : 0 ≤ m) (m1 : m ≤ 100000000) (hn : n ≤ 1048576) {k : Nat} (hk : 1100000 ≤ k) : laws_heldPicture.f k a b (marks m n) m = some (m + n) := by
  unfold laws_heldPicture.f; rw [held_s m0 m1 hn hk, Option.bind_some, if_neg (by omega)]
theorem pure_FnExactPlateOfRuns (W H : Int) (l : List Int) (hl : l.length ≤ 140737488351232) : ∃ k, laws_FnExactPlateOfRuns.f k W H l = some true := by
  obtain ⟨m, hm⟩ : ∃ m : Nat, 8000000 ≤ m := ⟨8000000, Nat.le_refl _⟩
  refine ⟨m + 8, ?_⟩
  unfold laws_FnExactPlateOfRuns.f
  by_cases h : (l.length : Int) > 1048576
  · rw [if_pos h]
  · rw [if_neg h]
    have hl' : l.length ≤ 1048576 := by omega
    have hs := plateOfRuns_len W H l
    simp (disch := first | assumption | omega) only [tos, Option.bind_some, plateOfRuns_s, plateOfRuns_i, eqp, eqs, if_true, bne_self_eq_false, Bool.false_eq_true, if_false, mark_p, mark_s, held_p, mk_neg]
    rw [laws_FnExactPlateOfRuns.j0]
    simp (disch := first | assumption | omega) only [tos, Option.bind_some, plateOfRuns_s, plateOfRuns_i, eqp, eqs, if_true, bne_self_eq_false, Bool.false_eq_true, if_false, mark_p, mark_s, held_p, mk_neg]
    rw [laws_FnExactPlateOfRuns.j1]
    simp (disch := first | assumption | omega) only [tos, Option.bind_some, plateOfRuns_s, plateOfRuns_i, eqp, eqs, if_true, bne_self_eq_false, Bool.false_eq_true, if_false, mark_p, mark_s, held_p, mk_neg]
    rw [laws_FnExactPlateOfRuns.j2]
    simp (disch := first | assumption | omega) only [tos, Option.bind_some, plateOfRuns_s, plateOfRuns_i, eqp, eqs, if_true, bne_self_eq_false, Bool.false_eq_true, if_false, mark_p, mark_s, held_p, mk_neg]

end Go.Proofs.Ytjonhedjfablbaa.PFnExactPlateOfRuns
