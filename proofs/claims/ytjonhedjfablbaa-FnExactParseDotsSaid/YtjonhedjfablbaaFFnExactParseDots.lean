/- What the functions that laws.FnExactParseDots reaches compute, and that the law is true: over numbers alone. -/
import Derived.Test.YtjonhedjfablbaaPFnExactParseDotsx
import Derived.Test.YtjonhedjfablbaaPic
import Derived.Laws.Strings
namespace Go.Proofs.Ytjonhedjfablbaa.PFnExactParseDots
open Go.RowKit Go.Proofs.YtjonhedjfablbaaW.PrintWords Go.Proofs.YtjonhedjfablbaaW.PrintMore
set_option linter.unusedVariables false
set_option linter.unusedSimpArgs false
set_option linter.unusedSimpArgs false
open Pic
theorem w64 {x : Int} (h1 : -9223372036854775808 ≤ x) (h2 : x ≤ 9223372036854775807) : wrap64 x = x := by unfold wrap64; omega
theorem rd_at (l : List Int) (i : Int) : rd l i = at_ l i := rfl
theorem tmod_pos {n x : Int} (h : 0 ≤ x) : Int.tmod x n = x % n := Int.tmod_eq_emod_of_nonneg h
theorem tdiv_pos {n x : Int} (h : 0 ≤ x) : Int.tdiv x n = x / n := Int.tdiv_eq_ediv_of_nonneg h
theorem dec_ff {p : Prop} [Decidable p] (h : ¬ p) : some false = some (decide p) := by rw [decide_eq_false h]
theorem dec_dd {p q : Prop} [Decidable p] [Decidable q] (h : p ↔ q) : some (decide p) = some (decide q) := by rw [decide_eq_decide.mpr h]
theorem mn_eq (a b : Int) : mn a b = if b < a then b else a := rfl
theorem mk_neg (n : Nat) : ¬ ((1 : Int) + n < 0) := by omega
theorem eqs_l (d : Nat) : ∀ (k : Nat) (l : List Int) (i : Int), 0 ≤ i → l.length ≤ 1048576 → l.length - i.toNat ≤ d → d < k → laws_eqIntS.l0 k l l i = some true := by
  induction d with
  | zero =>
    intro k l i h0 hl hd hk
    obtain ⟨k, rfl⟩ : ∃ m, k = m + 1 := ⟨k - 1, by omega⟩
    rw [laws_eqIntS.l0, if_neg (by omega)]
  | succ d ih =>
    intro k l i h0 hl hd hk
    obtain ⟨k, rfl⟩ : ∃ m, k = m + 1 := ⟨k - 1, by omega⟩
    rw [laws_eqIntS.l0]
    by_cases h : i < (l.length : Int)
    · rw [if_pos h, if_pos h0, if_pos h, if_pos rfl, w64 (by omega) (by omega)]; exact ih k l (i + 1) (by omega) hl (by omega) (by omega)
    · rw [if_neg h]
theorem eqs {l : List Int} (hl : l.length ≤ 1048576) {k : Nat} (hk : 1100000 ≤ k) : laws_eqIntS.f k l l = some true := by
  unfold laws_eqIntS.f; rw [if_pos rfl, eqs_l l.length k l 0 (by omega) hl (by omega) (by omega)]
theorem eqp (a b : Int) {l : List Int} (hl : l.length ≤ 1048576) {k : Nat} (hk : 1100000 ≤ k) : laws_eqPicture.f k a b l a b l = some true := by
  unfold laws_eqPicture.f; rw [if_pos rfl, if_pos rfl, eqs hl hk]; rfl
theorem marks_l (d : Nat) : ∀ (k : Nat) (l : List Int) (m i : Int), 0 ≤ i → i ≤ l.length → 0 ≤ m → m + d ≤ 1000000000 → l.length ≤ 1048576 → (l.length : Int) - i = d → d < k →
    laws_markIntS.l0 k l m i = some (m + d, l.take i.toNat ++ marks m d) := by
  induction d with
  | zero =>
    intro k l m i h0 h1 m0 m1 hl hd hk
    obtain ⟨k, rfl⟩ : ∃ m, k = m + 1 := ⟨k - 1, by omega⟩
    rw [laws_markIntS.l0, if_neg (by omega)]
    simp only [marks, List.append_nil, List.take_of_length_le (show l.length ≤ i.toNat by omega)]
    rw [show m + ((0 : Nat) : Int) = m by omega]
  | succ d ih =>
    intro k l m i h0 h1 m0 m1 hl hd hk
    obtain ⟨k, rfl⟩ : ∃ m, k = m + 1 := ⟨k - 1, by omega⟩
    rw [laws_markIntS.l0, if_pos (by omega), if_pos h0, w64 (by omega) (by omega), w64 (by omega) (by omega), ih k _ (m + 1) (i + 1) (by omega) (by rw [List.length_set]; omega) (by omega) (by omega) (by rw [List.length_set]; omega) (by rw [List.length_set]; omega) (by omega)]
    have e : (l.set i.toNat m).take (i + 1).toNat = l.take i.toNat ++ [m] := by
      rw [show (i + 1).toNat = i.toNat + 1 by omega, List.take_succ_eq_append_getElem (by rw [List.length_set]; omega), List.getElem_set]
      rw [if_pos rfl, List.take_set_of_le (Nat.le_refl _)]
    rw [e]
    simp only [marks, List.append_assoc, List.cons_append, List.nil_append]
    rw [show m + 1 + (d : Int) = m + ((d + 1 : Nat) : Int) by omega]
theorem mark_s {l : List Int} {m : Int} (m0 : 0 ≤ m) (m1 : m ≤ 100000000) (hl : l.length ≤ 1048576) {k : Nat} (hk : 1100000 ≤ k) : laws_markIntS.f k l m = some (m + l.length, marks m l.length) := by
  unfold laws_markIntS.f; rw [marks_l l.length k l m 0 (by omega) (by omega) m0 (by omega) hl (by omega) (by omega)]; rfl
theorem mark_p (a b : Int) {l : List Int} {m : Int} (m0 : 0 ≤ m) (m1 : m ≤ 100000000) (hl : l.length ≤ 1048576) {k : Nat} (hk : 1100000 ≤ k) : laws_markPicture.f k a b l m = some (m + l.length, marks m l.length) := by
  unfold laws_markPicture.f; rw [mark_s m0 m1 hl hk]; rfl
theorem held_l (n : Nat) (m : Int) (m0 : 0 ≤ m) (m1 : m ≤ 100000000) (hn : n ≤ 1048576) (d : Nat) : ∀ (k : Nat) (i : Int), 0 ≤ i → i ≤ n → (n : Int) - i = d → d < k → laws_heldIntS.l0 k (marks m n) (m + i) i = some (m + n) := by
  induction d with
  | zero =>
    intro k i h0 h1 hd hk
    obtain ⟨k, rfl⟩ : ∃ m, k = m + 1 := ⟨k - 1, by omega⟩
    rw [laws_heldIntS.l0, if_neg (by rw [marks_length]; omega), show m + i = m + (n : Int) by omega]
  | succ d ih =>
    intro k i h0 h1 hd hk
    obtain ⟨k, rfl⟩ : ∃ m, k = m + 1 := ⟨k - 1, by omega⟩
    have e : rd (marks m n) i = m + i := by
      rw [rd_at]; unfold at_; rw [List.getD_eq_getElem?_getD, marks_at n m i.toNat (by omega), Option.getD_some]; omega
    rw [laws_heldIntS.l0, if_pos (by rw [marks_length]; omega), if_pos h0, if_pos e, w64 (by omega) (by omega), w64 (by omega) (by omega), show m + i + 1 = m + (i + 1) by omega]
    exact ih k (i + 1) (by omega) (by omega) (by omega) (by omega)
theorem held_s {n : Nat} {m : Int} (m0 : 0 ≤ m) (m1 : m ≤ 100000000) (hn : n ≤ 1048576) {k : Nat} (hk : 1100000 ≤ k) : laws_heldIntS.f k (marks m n) m = some (m + n) := by
  have := held_l n m m0 m1 hn n k 0 (by omega) (by omega) (by omega) (by omega)
  rw [Int.add_zero] at this
  unfold laws_heldIntS.f; exact this
theorem held_p (a b : Int) {n : Nat} {m : Int} (m0 : 0 ≤ m) (m1 : m ≤ 100000000) (hn : n ≤ 1048576) {k : Nat} (hk : 1100000 ≤ k) : laws_heldPicture.f k a b (marks m n) m = some (m + n) := by
  unfold laws_heldPicture.f; rw [held_s m0 m1 hn hk, Option.bind_some, if_neg (by omega)]
theorem l1In (x a b : Int) : spec_l1In.f x a b = some (decide (a ≤ x ∧ x ≤ b)) := by
  unfold spec_l1In.f
  split
  all_goals first | exact dec_dd (by omega) | exact dec_ff (by omega)
theorem size_s (W H : Int) : spec_l1Size.f W H = some (decide (Sz W H)) := by
  unfold spec_l1Size.f
  simp only [l1In, Option.bind_some]
  by_cases hW : 1 ≤ W ∧ W ≤ 64
  · by_cases hH : 1 ≤ H ∧ H ≤ 64
    · have := mul_bd (c := 64) (d := 64) (show 0 ≤ W by omega) hW.2 (show 0 ≤ H by omega) hH.2
      rw [if_pos (decide_eq_true hW), if_pos (decide_eq_true hH), w64 (by omega) (by omega)]
      exact dec_dd (by unfold Sz; omega)
    · rw [if_pos (decide_eq_true hW), if_neg (by rw [decide_eq_true_iff]; exact hH)]; exact dec_ff (fun h => hH ⟨h.2.2.1, h.2.2.2.1⟩)
  · rw [if_neg (by rw [decide_eq_true_iff]; exact hW)]; exact dec_ff (fun h => hW ⟨h.1, h.2.1⟩)
theorem up_l (m : Int) (d : Nat) : ∀ (k : Nat) (l : List Int) (i : Int), 0 ≤ i → l.length ≤ 1048576 → i ≤ l.length → (l.length : Int) - i = d → d < k → spec_l1Up.l0 k m l l.length i = some (decide (All m (l.drop i.toNat))) := by
  induction d with
  | zero =>
    intro k l i h0 hl h1 hd hk
    obtain ⟨k, rfl⟩ : ∃ m, k = m + 1 := ⟨k - 1, by omega⟩
    rw [spec_l1Up.l0, if_neg (by omega), List.drop_eq_nil_of_le (by omega)]
    rw [decide_eq_true (show All m [] from fun v h => by simp at h)]
  | succ d ih =>
    intro k l i h0 hl h1 hd hk
    obtain ⟨k, rfl⟩ : ∃ m, k = m + 1 := ⟨k - 1, by omega⟩
    rw [spec_l1Up.l0, if_pos (by omega), if_pos h0, if_pos (by omega), l1In, rd_at, Option.bind_some, drop_at l h0 (by omega), w64 (by omega) (by omega)]
    by_cases h : 0 ≤ at_ l i ∧ at_ l i ≤ m
    · rw [if_pos (decide_eq_true h), ih k l (i + 1) (by omega) hl (by omega) (by omega) (by omega)]
      exact dec_dd (by rw [All.cons]; exact ⟨fun x => ⟨h, x⟩, fun x => x.2⟩)
    · rw [if_neg (by rw [decide_eq_true_iff]; exact h)]; exact dec_ff (fun x => h (All.cons.mp x).1)
theorem up_s {W H : Int} {l : List Int} (hl : l.length ≤ 1048576) (m : Int) {k : Nat} (hk : 1100000 ≤ k) : spec_l1Up.f k W H l m = some (decide (Up W H l m)) := by
  obtain ⟨k, rfl⟩ : ∃ m, k = m + 1 := ⟨k - 1, by omega⟩
  unfold spec_l1Up.f
  rw [size_s, Option.bind_some]
  by_cases h : Sz W H
  · have := h.area
    rw [if_pos (decide_eq_true h), w64 (by omega) (by omega), spec_l1Up.j0]
    by_cases e : (l.length : Int) = W * H
    · rw [if_neg (by rw [bne_iff_ne]; exact fun x => x e), up_l m l.length k l 0 (by omega) hl (by omega) (by omega) (by omega)]
      exact dec_dd ⟨fun x => ⟨h, e, x⟩, fun x => x.2.2⟩
    · rw [if_pos (by rw [bne_iff_ne]; exact e)]; exact dec_ff (fun x => e x.2.1)
  · rw [if_neg (by rw [decide_eq_true_iff]; exact h), spec_l1Up.j0, if_pos rfl]; exact dec_ff (fun x => h x.1)
theorem plate_s {W H : Int} {l : List Int} (hl : l.length ≤ 1048576) {k : Nat} (hk : 1100000 ≤ k) : spec_IsPlate.f k W H l = some (decide (Up W H l 1)) := by
  unfold spec_IsPlate.f; rw [up_s hl 1 hk]; rfl
theorem sapp (a : List Int) (c : Int) (b : UInt8) (h : UInt8.ofNat c.toNat = b) : strOfNums a ++ (⟨#[b]⟩ : ByteArray) = strOfNums (a ++ [c]) := by
  apply ByteArray.ext
  subst h
  rw [ByteArray.data_append]; simp [strOfNums]
def dotL (W : Int) : List Int → Int → List Int
  | [], _ => []
  | v :: r, j => (if v = 1 then 35 else 46) :: (if j % W = W - 1 then 10 :: dotL W r (j + 1) else dotL W r (j + 1))
def dotT (W H : Int) (l : List Int) : ByteArray := if Up W H l 1 then strOfNums (dotL W l 0) else ⟨#[]⟩
theorem dotL_C {W : Int} (hW : 1 ≤ W) : ∀ (r : List Int) (j : Int), 0 ≤ j → dotL W r j = dotC W r (j % W) := by
  intro r
  induction r with
  | nil => intro j _; rfl
  | cons v r ih =>
    intro j h0
    have a1 := Int.emod_nonneg j (show W ≠ 0 by omega); have a2 := Int.emod_lt_of_pos j (show 0 < W by omega)
    rw [dotL, dotC, ih (j + 1) (by omega), ← Int.emod_add_emod j W 1]
    by_cases e : j % W = W - 1
    · rw [if_pos e, if_pos e, show j % W + 1 = W by omega, Int.emod_self]
    · rw [if_neg e, if_neg e, Int.emod_eq_of_lt (a := j % W + 1) (by omega) (by omega)]
theorem dotl_s {W H : Int} {L : List Int} (hL : L.length ≤ 1048576) (hW : 1 ≤ W) (hW2 : W ≤ 64) (d : Nat) : ∀ (k : Nat) (a : List Int) (j : Int), 0 ≤ j → j ≤ L.length → (L.length : Int) - j = d → a.length ≤ 2 * j → d < k →
    spec_DotText.l0 k (strOfNums a) L L.length j W H L = some (strOfNums (a ++ dotL W (L.drop j.toNat) j)) := by
  induction d with
  | zero =>
    intro k a j j0 j1 hd ha hk
    obtain ⟨k, rfl⟩ : ∃ m, k = m + 1 := ⟨k - 1, by omega⟩
    rw [spec_DotText.l0, if_neg (by omega), drop_end L (by omega), dotL, List.append_nil]
  | succ d ih =>
    intro k a j j0 j1 hd ha hk
    obtain ⟨k, rfl⟩ : ∃ m, k = m + 1 := ⟨k - 1, by omega⟩
    have s1 : ∀ c : Int, (strOfNums (a ++ [c])).size + 1 ≤ 9223372036854775807 := fun c => by rw [strOfNums_size]; simp; omega
    have z : ∀ c : Int, ((a ++ [c]).length : Int) ≤ 2 * (j + 1) := fun c => by simp; omega
    have z2 : ∀ c e : Int, (((a ++ [c]) ++ [e]).length : Int) ≤ 2 * (j + 1) := fun c e => by simp; omega
    have s0 : (strOfNums a).size + 1 ≤ 9223372036854775807 := by rw [strOfNums_size]; omega
    rw [spec_DotText.l0, if_pos (by omega), if_pos j0, if_pos (by omega), drop_at L j0 (by omega), w64 (x := j + 1) (by omega) (by omega), w64 (x := W - 1) (by omega) (by omega), rd_at, tmod_pos j0, dotL, sapp a 35 35 rfl, sapp a 46 46 rfl, sapp _ 10 10 rfl, sapp _ 10 10 rfl]
    by_cases e : at_ L j = 1
    · rw [if_pos e, if_pos e, if_pos s0, if_neg (by omega), if_pos (s1 35), ih k _ (j + 1) (by omega) (by omega) (by omega) (z2 35 10) (by omega), ih k _ (j + 1) (by omega) (by omega) (by omega) (z 35) (by omega)]
      split <;> simp
    · rw [if_neg e, if_neg e, if_pos s0, if_neg (by omega), if_pos (s1 46), ih k _ (j + 1) (by omega) (by omega) (by omega) (z2 46 10) (by omega), ih k _ (j + 1) (by omega) (by omega) (by omega) (z 46) (by omega)]
      split <;> simp
theorem dots_s {W H : Int} {l : List Int} (hl : l.length ≤ 1048576) {k : Nat} (hk : 1100000 ≤ k) : spec_DotText.f k W H l = some (dotT W H l) := by
  unfold spec_DotText.f dotT
  rw [plate_s hl hk, Option.bind_some]
  by_cases h : Up W H l 1
  · rw [if_pos (decide_eq_true h), if_pos h]
    exact dotl_s hl h.1.1 h.1.2.1 l.length k [] 0 (by omega) (by omega) (by omega) (by simp) (by omega)
  · rw [if_neg (by rw [decide_eq_true_iff]; exact h), if_neg h]
/-- a text's bytes as numbers -/
def bytes (s : ByteArray) : List Int := s.data.toList.map fun b => (b.toNat : Int)
theorem bytes_length (s : ByteArray) : (bytes s).length = s.size := by unfold bytes; rw [List.length_map]; rfl
theorem bytes_at (s : ByteArray) {i : Int} (h0 : 0 ≤ i) (h : i < s.size) : at_ (bytes s) i = bt s i := by
  have hj : i.toNat < s.size := by omega
  have hj2 : i.toNat < (bytes s).length := by rw [bytes_length]; exact hj
  have := at_nat (bytes s) i.toNat hj2
  rw [show ((i.toNat : Nat) : Int) = i by omega] at this
  rw [this]; unfold bt; rw [dif_pos hj]; simp only [bytes, List.getElem_map]; rfl
theorem bytes_nums {x : List Int} (h : ∀ b ∈ x, 0 ≤ b ∧ b ≤ 255) : bytes (strOfNums x) = x := by
  unfold bytes strOfNums
  simp only [List.map_map]
  conv => rhs; rw [← List.map_id x]
  apply List.map_congr_left
  intro b hb
  have := h b hb
  show ((UInt8.ofNat b.toNat).toNat : Int) = b
  rw [UInt8.toNat_ofNat']; omega
theorem nums_bytes (s : ByteArray) : strOfNums (bytes s) = s := by
  unfold bytes strOfNums
  apply ByteArray.ext
  simp only [List.map_map]
  have : (s.data.toList.map ((fun n : Int => UInt8.ofNat n.toNat) ∘ fun b : UInt8 => (b.toNat : Int))) = s.data.toList := by
    conv => rhs; rw [← List.map_id s.data.toList]
    apply List.map_congr_left
    intro b _
    show UInt8.ofNat ((b.toNat : Int)).toNat = b
    simp
  rw [this]
theorem text_eq {W H : Int} {l : List Int} (h : Up W H l 1) (s : ByteArray) : (dotT W H l).toList = s.toList ↔ dotC W l 0 = bytes s := by
  have hW := h.1.1
  unfold dotT; rw [if_pos h, dotL_C hW l 0 (by omega), Int.zero_emod, ByteArray.toList_eq, ByteArray.toList_eq]
  constructor
  · intro e
    have : strOfNums (dotC W l 0) = s := ByteArray.ext (Array.toList_inj.mp e)
    rw [← this, bytes_nums (dotC_byte W l 0)]
  · intro e; rw [e, nums_bytes]
theorem parsel_s {s : ByteArray} (hs : s.size ≤ 2048) (d : Nat) : ∀ (k : Nat) (p V H : Int) (pix : List Int), 0 ≤ p → p ≤ s.size → (s.size : Int) - p = d → 0 ≤ H → H ≤ p → pix.length ≤ p → d + 1100000 < k →
    spec_ParseDots.l0 k s p V H pix = some (finS (bytes s) (scanS ((bytes s).drop p.toNat) V H pix)) := by
  have hb := bytes_length s
  induction d with
  | zero =>
    intro k p V H pix p0 p1 hd h0 h1 hp hk
    obtain ⟨k, rfl⟩ : ∃ m, k = m + 1 := ⟨k - 1, by omega⟩
    rw [spec_ParseDots.l0, if_neg (by omega), plate_s (by omega) (by omega), Option.bind_some, drop_end (bytes s) (by omega), scanS]
    unfold finS
    by_cases hu : Up V H pix 1
    · rw [if_pos (decide_eq_true hu), dots_s (by omega) (by omega), Option.bind_some]
      by_cases e : dotC V pix 0 = bytes s
      · rw [if_pos ((text_eq hu s).mpr e), if_pos ⟨hu, e⟩]
      · rw [if_neg (fun z => e ((text_eq hu s).mp z)), if_neg (c := _ ∧ _) (fun z => e z.2)]
    · rw [if_neg (by rw [decide_eq_true_iff]; exact hu), if_neg (c := _ ∧ _) (fun z => hu z.1)]
  | succ d ih =>
    intro k p V H pix p0 p1 hd h0 h1 hp hk
    obtain ⟨k, rfl⟩ : ∃ m, k = m + 1 := ⟨k - 1, by omega⟩
    have z : ∀ c : Int, ((pix ++ [c]).length : Int) ≤ p + 1 := fun c => by simp; omega
    rw [spec_ParseDots.l0, if_pos (by omega), if_pos p0, drop_at (bytes s) p0 (by omega), bytes_at s p0 (by omega), scanS, w64 (x := p + 1) (by omega) (by omega), w64 (x := H + 1) (by omega) (by omega)]
    by_cases e35 : bt s p = 35
    · rw [if_pos e35, if_pos e35, if_pos (by omega), ih k (p + 1) V H (pix ++ [1]) (by omega) (by omega) (by omega) h0 (by omega) (z 1) (by omega)]
    · rw [if_neg e35, if_neg e35]
      by_cases e46 : bt s p = 46
      · rw [if_pos e46, if_pos e46, if_pos (by omega), ih k (p + 1) V H (pix ++ [0]) (by omega) (by omega) (by omega) h0 (by omega) (z 0) (by omega)]
      · rw [if_neg e46, if_neg e46]
        by_cases e10 : bt s p = 10
        · rw [if_pos e10, if_pos e10]
          by_cases eH : H + 1 = 1
          · rw [if_pos eH, if_pos eH, ih k (p + 1) pix.length (H + 1) pix (by omega) (by omega) (by omega) (by omega) (by omega) (by omega) (by omega)]
          · rw [if_neg eH, if_neg eH, ih k (p + 1) V (H + 1) pix (by omega) (by omega) (by omega) (by omega) (by omega) (by omega) (by omega)]
        · rw [if_neg e10, if_neg e10, ih k (p + 1) V H pix (by omega) (by omega) (by omega) (by omega) (by omega) (by omega) (by omega)]
def parse (s : ByteArray) : Int × Int × List Int × Bool := finI (scanI (bytes s) 0 0 0 [])
theorem parse_s (s : ByteArray) {k : Nat} (hk : 1200000 ≤ k) : spec_ParseDots.f k s = some (parse s) := by
  unfold spec_ParseDots.f parse
  by_cases h : (s.size : Int) > 2048
  · rw [if_pos h, finI_long (by rw [bytes_length]; omega)]
  · rw [if_neg h, parsel_s (by omega) s.size k 0 0 0 [] (by omega) (by omega) (by omega) (by omega) (by omega) (by simp) (by omega), ← scans]; rfl
theorem within_i {l : List Int} (hl : l.length ≤ 1048576) (m : Int) : impl_within.f l m = some (decide (All m l)) := by
  unfold impl_within.f
  rw [if_pos (by omega)]; simp only [Option.some.injEq]
  rw [Bool.eq_iff_iff, List.all_eq_true, decide_eq_true_iff]
  exact ⟨fun h v hv => of_decide_eq_true (h v hv), fun h v hv => decide_eq_true (h v hv)⟩
theorem size_i (W H : Int) : impl_sized.f W H = some (decide (Sz W H)) := by
  unfold impl_sized.f
  by_cases h : 1 ≤ W ∧ W ≤ 64 ∧ 1 ≤ H ∧ H ≤ 64
  · have := mul_bd (c := 64) (d := 64) (show 0 ≤ W by omega) h.2.1 (show 0 ≤ H by omega) h.2.2.2
    rw [if_pos (by omega), if_pos (by omega), if_pos (by omega), if_pos (by omega), w64 (by omega) (by omega)]
    exact dec_dd (by unfold Sz; omega)
  · repeat' split
    all_goals first | exact dec_ff (by unfold Sz; omega) | (exfalso; omega)
theorem pict_i {W H : Int} {l : List Int} (hl : l.length ≤ 1048576) : impl_IsPicture.f W H l = some (decide (Up W H l 255)) := by
  unfold impl_IsPicture.f
  rw [size_i, Option.bind_some]
  by_cases h : Sz W H
  · have := h.area
    rw [if_pos (decide_eq_true h), w64 (by omega) (by omega), within_i hl]
    by_cases e : (l.length : Int) = W * H
    · rw [if_pos e]; exact dec_dd ⟨fun x => ⟨h, e, x⟩, fun x => x.2.2⟩
    · rw [if_neg e]; exact dec_ff (fun x => e x.2.1)
  · rw [if_neg (by rw [decide_eq_true_iff]; exact h)]; exact dec_ff (fun x => h x.1)
theorem plate_i {W H : Int} {l : List Int} (hl : l.length ≤ 1048576) : impl_IsPlate.f W H l = some (decide (Up W H l 1)) := by
  unfold impl_IsPlate.f
  rw [pict_i hl, Option.bind_some, within_i hl]
  by_cases h : Up W H l 255
  · rw [if_pos (decide_eq_true h)]; exact dec_dd ⟨fun x => ⟨h.1, h.2.1, x⟩, fun x => x.2.2⟩
  · rw [if_neg (by rw [decide_eq_true_iff]; exact h)]; exact dec_ff (fun x => h ⟨x.1, x.2.1, fun v hv => ⟨(x.2.2 v hv).1, by have := (x.2.2 v hv).2; omega⟩⟩)
theorem one_i (b : Bool) : impl_one.f b = some (if b = true then 1 else 0) := by unfold impl_one.f; split <;> rfl
theorem parsel_i {s : ByteArray} (hs : s.size ≤ 1048576) (d : Nat) : ∀ (k : Nat) (p run V H : Int) (pix : List Int), 0 ≤ p → p ≤ s.size → (s.size : Int) - p = d → 0 ≤ H → H ≤ p → 0 ≤ run → run ≤ p → pix.length ≤ p → 2 * d + 2 < k →
    impl_ParseDots.l0 k s run s.size p V H pix = some (finI (scanI ((bytes s).drop p.toNat) run V H pix)) := by
  have hb := bytes_length s
  induction d with
  | zero =>
    intro k p run V H pix p0 p1 hd h0 h1 r0 r1 hp hk
    obtain ⟨k, rfl⟩ : ∃ m, k = m + 1 := ⟨k - 1, by omega⟩
    rw [impl_ParseDots.l0, if_neg (by omega), plate_i (by omega), Option.bind_some, drop_end (bytes s) (by omega), scanI]
    by_cases hr : run = 0
    · rw [if_pos hr, if_pos hr]; unfold finI; simp only
      by_cases hu : Up V H pix 1
      · rw [if_pos (decide_eq_true hu), if_pos hu]
      · rw [if_neg (by rw [decide_eq_true_iff]; exact hu), if_neg hu]
    · rw [if_neg hr, if_neg hr]; rfl
  | succ d ih =>
    intro k p run V H pix p0 p1 hd h0 h1 r0 r1 hp hk
    obtain ⟨k, rfl⟩ : ∃ m, k = m + 2 := ⟨k - 2, by omega⟩
    have z : ∀ c : Int, ((pix ++ [c]).length : Int) ≤ p + 1 := fun c => by simp; omega
    rw [impl_ParseDots.l0, if_pos (by omega), if_pos p0, if_pos (by omega), drop_at (bytes s) p0 (by omega), bytes_at s p0 (by omega), scanI]
    have dot : ∀ b : Bool, b = true → (bt s p = 46 ∨ bt s p = 35) → impl_ParseDots.j1 (k + 1) s run p s.size p (bt s p) b V H pix = some (finI (scanI ((bytes s).drop (p + 1).toNat) (run + 1) V H (pix ++ [if bt s p = 35 then 1 else 0]))) := by
      intro b hbt hv
      rw [impl_ParseDots.j1, if_pos hbt, if_pos p0, if_pos (by omega), one_i, Option.bind_some, if_pos (by omega), w64 (by omega) (by omega), w64 (by omega) (by omega)]
      have e : (if (bt s p == 35) = true then (1 : Int) else 0) = if bt s p = 35 then 1 else 0 := by simp only [beq_iff_eq]
      rw [e, ih k (p + 1) (run + 1) V H _ (by omega) (by omega) (by omega) h0 (by omega) (by omega) (by omega) (z _) (by omega)]
    by_cases e46 : bt s p = 46
    · rw [if_pos e46, dot _ (by rw [e46]; rfl) (.inl e46), if_pos (c := _ ∨ _) (.inl e46)]
    · rw [if_neg e46]
      by_cases e35 : bt s p = 35
      · rw [dot _ (by rw [e35]; rfl) (.inr e35), if_pos (c := _ ∨ _) (.inr e35)]
      · rw [if_neg (c := _ ∨ _) (fun x => x.elim e46 e35), impl_ParseDots.j1, if_neg (by rw [beq_iff_eq]; exact e35), w64 (x := p + 1) (by omega) (by omega), w64 (x := H + 1) (by omega) (by omega)]
        by_cases e10 : bt s p = 10
        · rw [if_pos e10, if_pos e10]
          by_cases eH : H = 0
          · rw [if_pos eH, if_pos eH, if_pos rfl, ih k (p + 1) 0 run (H + 1) pix (by omega) (by omega) (by omega) (by omega) (by omega) (by omega) (by omega) (by omega) (by omega)]
          · rw [if_neg eH, if_neg eH]
            by_cases er : run = V
            · rw [if_pos er, if_pos er, ih k (p + 1) 0 V (H + 1) pix (by omega) (by omega) (by omega) (by omega) (by omega) (by omega) (by omega) (by omega) (by omega)]
            · rw [if_neg er, if_neg er]; rfl
        · rw [if_neg e10, if_neg e10]; rfl
theorem parse_i {s : ByteArray} (hs : s.size ≤ 1048576) {k : Nat} (hk : 3000000 ≤ k) : impl_ParseDots.f k s = some (parse s) := by
  unfold impl_ParseDots.f parse
  rw [parsel_i hs s.size k 0 0 0 0 [] (by omega) (by omega) (by omega) (by omega) (by omega) (by omega) (by omega) (by simp) (by omega)]; rfl
theorem pure_FnExactParseDots (s : ByteArray) (_ : s.size ≤ 140737488351232) : ∃ k, laws_FnExactParseDots.f k s = some true := by
  obtain ⟨m, hm⟩ : ∃ m : Nat, 4000000 ≤ m := ⟨4000000, Nat.le_refl _⟩
  refine ⟨m + 8, ?_⟩
  unfold laws_FnExactParseDots.f
  by_cases h : (s.size : Int) > 1048576
  · rw [if_pos h]
  · rw [if_neg h]
    have hl' : s.size ≤ 1048576 := by omega
    have hs : (parse s).2.2.1.length ≤ 1048576 := finI_len _
    simp (disch := first | assumption | omega) only [Option.bind_some, parse_s, parse_i, eqp, if_true, bne_self_eq_false, Bool.false_eq_true, if_false, mark_p, held_p, mk_neg]
    rw [laws_FnExactParseDots.j0]
    simp (disch := first | assumption | omega) only [Option.bind_some, parse_s, parse_i, eqp, if_true, bne_self_eq_false, Bool.false_eq_true, if_false, mark_p, held_p, mk_neg]
    rw [laws_FnExactParseDots.j1]
    simp (disch := first | assumption | omega) only [Option.bind_some, parse_s, parse_i, eqp, if_true, bne_self_eq_false, Bool.false_eq_true, if_false, mark_p, held_p, mk_neg]

end Go.Proofs.Ytjonhedjfablbaa.PFnExactParseDots
