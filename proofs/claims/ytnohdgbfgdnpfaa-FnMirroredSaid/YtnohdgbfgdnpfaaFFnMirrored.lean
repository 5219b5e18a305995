/- What the functions that laws.FnMirrored reaches compute, and that the law is true: over numbers alone. -/
import Derived.Test.YtnohdgbfgdnpfaaPFnMirroredx
import Derived.Test.YtnohdgbfgdnpfaaPic2
import Derived.Laws.Strings
namespace Go.Proofs.Ytnohdgbfgdnpfaa.PFnMirrored
open Go.RowKit Go.Proofs.YtnohdgbfgdnpfaaW.PrintWords Go.Proofs.YtnohdgbfgdnpfaaW.PrintLast Go.Proofs.YtnohdgbfgdnpfaaW.PrintMore
set_option linter.unusedVariables false
set_option linter.unusedSimpArgs false
set_option linter.unusedSimpArgs false
open Pic
theorem w64 {x : Int} (h1 : -9223372036854775808 ≤ x) (h2 : x ≤ 9223372036854775807) : wrap64 x = x := by unfold wrap64; omega
theorem rd_at (l : List Int) (i : Int) : rd l i = at_ l i := rfl
theorem tmod_pos {n x : Int} (h : 0 ≤ x) : Int.tmod x n = x % n := Int.tmod_eq_emod_of_nonneg h
theorem tdiv_pos {n x : Int} (h : 0 ≤ x) : Int.tdiv x n = x / n := Int.tdiv_eq_ediv_of_nonneg h
theorem dec_ff {p : Prop} [Decidable p] (h : ¬ p) : some false = some (decide p) := by rw [decide_eq_false h]
theorem dec_dd {p q : Prop} [Decidable p] [Decidable q] (h : p ↔ q) : some (decide p) = some (decide q) := by rw [decide_eq_decide.mpr h]
theorem mn_eq (a b : Int) : mn a b = if b < a then b else a := rfl
theorem up_wide {W H : Int} {l : List Int} (h : Up W H l 1) : Up W H l 255 := ⟨h.1, h.2.1, fun v hv => ⟨(h.2.2 v hv).1, by have := (h.2.2 v hv).2; omega⟩⟩
theorem mk_neg (n : Nat) : ¬ ((1 : Int) + n < 0) := by omega
theorem rdK_at {l : List S60} {i : Nat} (h : i < l.length) : rd_T60 l (i : Int) = l[i] := by
  show l.getD (i : Int).toNat z60 = _
  rw [Int.toNat_natCast, List.getD_eq_getElem?_getD, List.getElem?_eq_getElem h]; rfl
theorem dropK {l : List S60} {i : Int} (h0 : 0 ≤ i) (h : i < l.length) : l.drop i.toNat = rd_T60 l i :: l.drop (i + 1).toNat := by
  obtain ⟨j, rfl⟩ : ∃ j : Nat, i = j := ⟨i.toNat, by omega⟩
  rw [rdK_at (by omega), show ((j : Int) + 1).toNat = j + 1 by omega, Int.toNat_natCast]
  exact List.drop_eq_getElem_cons (by omega)
theorem takeK {l : List S60} {i : Int} (h0 : 0 ≤ i) (h : i < l.length) : l.take (i + 1).toNat = l.take i.toNat ++ [rd_T60 l i] := by
  obtain ⟨j, rfl⟩ : ∃ j : Nat, i = j := ⟨i.toNat, by omega⟩
  rw [rdK_at (by omega), show ((j : Int) + 1).toNat = j + 1 by omega, Int.toNat_natCast]
  exact List.take_succ_eq_append_getElem (by omega)
theorem memK {l : List S60} {i : Int} (h0 : 0 ≤ i) (h : i < l.length) : rd_T60 l i ∈ l := by
  obtain ⟨j, rfl⟩ : ∃ j : Nat, i = j := ⟨i.toNat, by omega⟩
  rw [rdK_at (by omega)]; exact List.getElem_mem _
def okP (a : S60) : Prop := -4 ≤ a.f0 ∧ a.f0 ≤ 4 ∧ 0 ≤ a.f1 ∧ a.f1 ≤ 4 ∧ ¬ (a.f1 = 0 ∧ a.f0 < 1) ∧ 1 ≤ a.f2 ∧ a.f2 ≤ 100
instance (a : S60) : Decidable (okP a) := by unfold okP; infer_instance
def newB (x y : Int) : List S60 → Bool
  | [] => true
  | b :: t => if x = b.f0 ∧ y = b.f1 then false else newB x y t
def kerB : List S60 → List S60 → Bool
  | [], _ => true
  | a :: t, s => decide (okP a) && newB a.f0 a.f1 s && kerB t (s ++ [a])
def Ker (K : List S60) : Prop := 1 ≤ K.length ∧ K.length ≤ 12 ∧ kerB K [] = true
instance (K : List S60) : Decidable (Ker K) := by unfold Ker; infer_instance
theorem kerB_ok : ∀ (K s : List S60), kerB K s = true → ∀ a ∈ K, okP a := by
  intro K
  induction K with
  | nil => intro s _ a ha; cases ha
  | cons b t ih =>
    intro s h a ha
    simp only [kerB, Bool.and_eq_true, decide_eq_true_eq] at h
    rcases List.mem_cons.mp ha with e | e
    · rw [e]; exact h.1.1
    · exact ih _ h.2 a e
theorem Ker.ok {K : List S60} (h : Ker K) {a : S60} (ha : a ∈ K) : okP a := kerB_ok K [] h.2.2 a ha
def kWt : List S60 → Int
  | [] => 0
  | a :: t => a.f2 + kWt t
theorem kWt_bd : ∀ (K : List S60), (∀ a ∈ K, okP a) → (K.length : Int) ≤ kWt K ∧ kWt K ≤ 100 * K.length := by
  intro K
  induction K with
  | nil => intro _; exact ⟨by simp [kWt], by simp [kWt]⟩
  | cons b t ih =>
    intro h
    have h1 := ih fun a ha => h a (List.mem_cons_of_mem _ ha)
    have h2 := h b (List.mem_cons_self ..); unfold okP at h2
    simp only [kWt, List.length_cons]; omega
theorem Ker.wt {K : List S60} (h : Ker K) : 1 ≤ kWt K ∧ kWt K ≤ 1200 := by
  have := kWt_bd K fun a ha => h.ok ha
  have h1 := h.1; have h2 := h.2.1; omega
def kShr (S v : Int) : Int := wrap64 (Int.tdiv (wrap64 (v - (if Int.tmod v S < 0 then wrap64 (Int.tmod v S + S) else Int.tmod v S))) S)
def shF (S e : Int) : List S60 → List Int → Int → List Int
  | [], o, r => o.set 0 (wrap64 (at_ o 0 + r))
  | a :: t, o, r => shF S e t (o ++ [kShr S (wrap64 (e * a.f2))]) (wrap64 (r - kShr S (wrap64 (e * a.f2))))
def kShares (K : List S60) (e : Int) : List Int := shF (kWt K) e K [] e
theorem shF_len (S e : Int) : ∀ (t : List S60) (o : List Int) (r : Int), (shF S e t o r).length = o.length + t.length := by
  intro t
  induction t with
  | nil => intro o r; simp [shF]
  | cons a t ih => intro o r; rw [shF, ih]; simp only [List.length_append, List.length_cons, List.length_nil]; omega
theorem kShares_len (K : List S60) (e : Int) : (kShares K e).length = K.length := by unfold kShares; rw [shF_len]; simp
/-- what one cell's shares do to the values and to what is lost -/
def spread (W H way x y : Int) : List S60 → List Int → List Int → Int → List Int × Int
  | a :: t, s :: u, V, L => if x + way * a.f0 < 0 ∨ W ≤ x + way * a.f0 ∨ H ≤ y + a.f1 then spread W H way x y t u V (wrap64 (L + s))
      else spread W H way x y t u (V.set ((y + a.f1) * W + (x + way * a.f0)).toNat (wrap64 (at_ V ((y + a.f1) * W + (x + way * a.f0)) + s))) L
  | _, _, V, L => (V, L)
theorem spread_len (W H way x y : Int) : ∀ (t : List S60) (u V : List Int) (L : Int), (spread W H way x y t u V L).1.length = V.length := by
  intro t
  induction t with
  | nil => intro u V L; rfl
  | cons a t ih =>
    intro u V L
    cases u with
    | nil => rfl
    | cons s u => rw [spread]; split; · exact ih u V _
                  · rw [ih, List.length_set]
def wayF (alt : Bool) (y : Int) : Int := if alt = true ∧ y % 2 = 1 then -1 else 1
def colF (W : Int) (alt : Bool) (i : Int) : Int := if alt = true ∧ (i / W) % 2 = 1 then W - 1 - i % W else i % W
def errF (v : Int) : Int := if v ≥ 128 then wrap64 (v - 255) else v
/-- a diffusion from the turn i on: values, dots, errors, what is lost -/
def difF (K : List S60) (W H : Int) (alt : Bool) : Nat → Int → List Int → List Int → List Int → Int → List Int × List Int × Int
  | 0, _, _, D, E, L => (D, E, L)
  | d + 1, i, V, D, E, L => difF K W H alt d (i + 1)
      (spread W H (wayF alt (i / W)) (colF W alt i) (i / W) K (kShares K (errF (at_ V (i / W * W + colF W alt i)))) V L).1
      (if at_ V (i / W * W + colF W alt i) ≥ 128 then D.set (i / W * W + colF W alt i).toNat 1 else D)
      (E.set (i / W * W + colF W alt i).toNat (errF (at_ V (i / W * W + colF W alt i))))
      (spread W H (wayF alt (i / W)) (colF W alt i) (i / W) K (kShares K (errF (at_ V (i / W * W + colF W alt i)))) V L).2
def dif (K : List S60) (W H : Int) (l : List Int) (alt : Bool) : List Int × List Int × Int := difF K W H alt l.length 0 l (List.replicate l.length 0) (List.replicate l.length 0) 0
theorem difF_len (K : List S60) (W H : Int) (alt : Bool) : ∀ (d : Nat) (i : Int) (V D E : List Int) (L : Int), (difF K W H alt d i V D E L).1.length = D.length ∧ (difF K W H alt d i V D E L).2.1.length = E.length := by
  intro d
  induction d with
  | zero => intro i V D E L; exact ⟨rfl, rfl⟩
  | succ d ih =>
    intro i V D E L
    rw [difF]
    have := ih (i + 1) (spread W H (wayF alt (i / W)) (colF W alt i) (i / W) K (kShares K (errF (at_ V (i / W * W + colF W alt i)))) V L).1
      (if at_ V (i / W * W + colF W alt i) ≥ 128 then D.set (i / W * W + colF W alt i).toNat 1 else D)
      (E.set (i / W * W + colF W alt i).toNat (errF (at_ V (i / W * W + colF W alt i))))
      (spread W H (wayF alt (i / W)) (colF W alt i) (i / W) K (kShares K (errF (at_ V (i / W * W + colF W alt i)))) V L).2
    refine ⟨?_, by rw [this.2, List.length_set]⟩
    rw [this.1]; split <;> simp
theorem dif_len (K : List S60) (W H : Int) (l : List Int) (alt : Bool) : (dif K W H l alt).1.length = l.length ∧ (dif K W H l alt).2.1.length = l.length := by
  have := difF_len K W H alt l.length 0 l (List.replicate l.length 0) (List.replicate l.length 0) 0
  simp only [List.length_replicate] at this; exact this
theorem col_bd {W H i : Int} (hs : Sz W H) (h0 : 0 ≤ i) (h1 : i < W * H) (alt : Bool) : 0 ≤ colF W alt i ∧ colF W alt i < W := by
  have := hs.row h0 h1
  unfold colF; split <;> omega
theorem put_idx {W H X Y : Int} (hs : Sz W H) (x0 : -300 ≤ X) (x1 : X ≤ 300) (y0 : 0 ≤ Y) (y1 : Y ≤ 300) : wrap64 (wrap64 (Y * W) + X) = Y * W + X := by
  have q := mul_bd (c := 300) (d := 64) y0 y1 (show 0 ≤ W by have := hs.1; omega) hs.2.1
  rw [w64 (x := Y * W) (by omega) (by omega), w64 (by omega) (by omega)]
theorem way_mul {way x : Int} (hw : way = 1 ∨ way = -1) (h0 : -4 ≤ x) (h1 : x ≤ 4) : -4 ≤ way * x ∧ way * x ≤ 4 := by
  rcases hw with rfl | rfl <;> omega
theorem and255 (n : Int) : Go.bits .and .i64 n 255 = n % 256 := by
  have h255 : (BitVec.ofInt 64 255).toNat = 2 ^ 8 - 1 := by decide
  have key : (BitVec.ofInt 64 n &&& BitVec.ofInt 64 255).toNat = (n % ((2 ^ 64 : Nat) : Int)).toNat % 2 ^ 8 := by
    rw [BitVec.toNat_and, BitVec.toNat_ofInt, h255, Nat.and_two_pow_sub_one_eq_mod]
  show IntKind.i64.wrap ((BitVec.ofInt 64 n &&& BitVec.ofInt 64 255).toNat : Nat) = n % 256
  rw [key, IntKind.wrap_i64]
  omega
theorem newl_c (xs : List Int) (d : Nat) : ∀ (k : Nat) (h i : Int), 0 ≤ i → i ≤ 4000 → 4000 - i = d → d < k → ∃ h', spec_l01New.l0 k xs h i = some (xs, 0, h') := by
  induction d with
  | zero =>
    intro k h i h0 h1 hd hk
    obtain ⟨k, rfl⟩ : ∃ m, k = m + 1 := ⟨k - 1, by omega⟩
    simp only [spec_l01New.l0]
    have : ¬ i < 4000 := by omega
    simp only [if_neg this]
    split <;> exact ⟨_, rfl⟩
  | succ d ih =>
    intro k h i h0 h1 hd hk
    obtain ⟨k, rfl⟩ : ∃ m, k = m + 1 := ⟨k - 1, by omega⟩
    rw [spec_l01New.l0]
    by_cases hlt : i < (xs.length : Int)
    · rw [if_pos hlt, if_pos (by omega), if_pos h0, w64 (x := i + 1) (by omega) (by omega)]
      exact ih k _ (i + 1) (by omega) (by omega) (by omega) (by omega)
    · rw [if_neg hlt]; exact ⟨_, rfl⟩
theorem new_c (xs : List Int) (k : Nat) (hk : 4001 ≤ k) : ∃ h, spec_l01New.f k xs = some (xs, 0, h) :=
  newl_c xs 4000 k _ 0 (by omega) (by omega) (by omega) (by omega)
theorem byte_c (xs : List Int) (hl : xs.length ≤ 140737488351232) (i h : Int) (h0 : 0 ≤ i) (h1 : i ≤ xs.length) : ∃ r i' h', spec_l01Byte.f xs i h = some (r, i', h') ∧ 0 ≤ r ∧ r ≤ 255 ∧ 0 ≤ i' ∧ i' ≤ xs.length := by
  unfold spec_l01Byte.f
  simp only [and255]
  by_cases hlt : i < (xs.length : Int)
  · rw [if_pos hlt, if_pos h0, w64 (x := i + 1) (by omega) (by omega)]
    exact ⟨_, _, _, rfl, Int.emod_nonneg _ (by omega), by have := Int.emod_lt_of_pos (wrap64 ((wrap64 ((Go.bits .xor .i64 ((wrap64 ((wrap64 (h * 6364136223846793005)) + 1442695040888963407)) / 8589934592) ((wrap64 ((wrap64 (h * 6364136223846793005)) + 1442695040888963407)) / 35184372088832)) % 256)) + wrap64 (rd xs i))) (show (0 : Int) < 256 by omega); omega, by omega, by omega⟩
  · rw [if_neg hlt]
    exact ⟨_, _, _, rfl, Int.emod_nonneg _ (by omega), by have := Int.emod_lt_of_pos (Go.bits .xor .i64 ((wrap64 ((wrap64 (h * 6364136223846793005)) + 1442695040888963407)) / 8589934592) ((wrap64 ((wrap64 (h * 6364136223846793005)) + 1442695040888963407)) / 35184372088832)) (show (0 : Int) < 256 by omega); omega, h0, h1⟩
theorem below_c (xs : List Int) (hl : xs.length ≤ 140737488351232) (i h n : Int) (h0 : 0 ≤ i) (h1 : i ≤ xs.length) (hn : 1 ≤ n) (hn2 : n ≤ 256) : ∃ r i' h', spec_l01Below.f xs i h n = some (r, i', h') ∧ 0 ≤ r ∧ r < n ∧ 0 ≤ i' ∧ i' ≤ xs.length := by
  unfold spec_l01Below.f
  rw [if_neg (by omega), if_pos hn2]
  obtain ⟨r, i', h', e, r0, r1, i0, i1⟩ := byte_c xs hl i h h0 h1
  rw [e]; simp only [Option.bind_some]
  rw [if_neg (by omega)]
  have := Int.emod_nonneg r (show n ≠ 0 by omega); have := Int.emod_lt_of_pos r (show 0 < n by omega)
  refine ⟨_, _, _, rfl, ?_, ?_, i0, i1⟩ <;> rw [tmod_pos r0] <;> omega
theorem l1In (x a b : Int) : spec_l1In.f x a b = some (decide (a ≤ x ∧ x ≤ b)) := by
  unfold spec_l1In.f
  split
  all_goals first | exact dec_dd (by omega) | exact dec_ff (by omega)
theorem chainI {α : Type} (J : Bool → Option α) (a : S60) : (if a.f0 < (-4) then J true else (if a.f0 > 4 then J true else (if a.f1 < 0 then J true else (if a.f1 > 4 then J true else (if a.f1 = 0 then (if a.f0 < 1 then J true else (if a.f2 < 1 then J true else J (decide (a.f2 > 100)))) else (if a.f2 < 1 then J true else J (decide (a.f2 > 100)))))))) = J (!decide (okP a)) := by
  simp only [← decide_not]
  repeat' split
  all_goals (congr 1; first | exact decide_eq_decide.mpr (by unfold okP; omega) | exact (decide_eq_true (by unfold okP; omega)).symm)
theorem kers_l1 (K xs : List S60) (m i : Int) (x y z : Int) (d : Nat) : ∀ (k : Nat) (s : List S60) (j : Int), 0 ≤ j → s.length ≤ 12 → (s.length : Int) - j = d →
    spec_IsKernel.l1 (k + d + 1) K xs m i s s.length j x y z = if newB x y (s.drop j.toNat) = true then spec_IsKernel.l0 k K xs m (wrap64 (i + 1)) else some false := by
  induction d with
  | zero =>
    intro k s j h0 hs hd
    rw [spec_IsKernel.l1, if_neg (by omega), List.drop_eq_nil_of_le (by omega)]; rfl
  | succ d ih =>
    intro k s j h0 hs hd
    rw [← Nat.add_assoc, spec_IsKernel.l1, if_pos (by omega), if_pos h0, if_pos (by omega), w64 (by omega) (by omega), ih k s (j + 1) (by omega) hs (by omega), dropK h0 (by omega), newB]
    by_cases h1 : x = (rd_T60 s j).f0
    · by_cases h2 : y = (rd_T60 s j).f1
      · rw [if_pos h1, if_pos h2, if_pos (And.intro h1 h2)]; rfl
      · rw [if_pos h1, if_neg h2, if_neg (show ¬ (_ ∧ _) from fun h => h2 h.2)]
    · rw [if_neg h1, if_neg (show ¬ (_ ∧ _) from fun h => h1 h.1)]
theorem chainS {α : Type} (J : Bool → Option α) (a : S60) : (spec_l1In.f a.f0 (-4) 4).bind (fun t => if t = true then (spec_l1In.f a.f1 0 4).bind (fun t => if t = true then (if a.f1 = 0 then (if a.f0 < 1 then J true else (spec_l1In.f a.f2 1 100).bind fun t => J (!t)) else (spec_l1In.f a.f2 1 100).bind fun t => J (!t)) else J true) else J true) = J (!decide (okP a)) := by
  simp only [l1In, Option.bind_some, decide_eq_true_eq, ← decide_not]
  repeat' split
  all_goals (congr 1; first | exact decide_eq_decide.mpr (by unfold okP; omega) | exact (decide_eq_true (by unfold okP; omega)).symm)
theorem kers_l (K : List S60) (hK : K.length ≤ 12) (d : Nat) : ∀ (k : Nat) (i : Int), 0 ≤ i → (K.length : Int) - i = d → d * 16 < k →
    spec_IsKernel.l0 k K K K.length i = some (kerB (K.drop i.toNat) (K.take i.toNat)) := by
  induction d with
  | zero =>
    intro k i h0 hd hk
    obtain ⟨k, rfl⟩ : ∃ m, k = m + 1 := ⟨k - 1, by omega⟩
    rw [spec_IsKernel.l0, if_neg (by omega), List.drop_eq_nil_of_le (by omega)]; rfl
  | succ d ih =>
    intro k i h0 hd hk
    have tl : (K.take i.toNat).length = i.toNat := by rw [List.length_take]; omega
    obtain ⟨k, rfl⟩ : ∃ m, k = m + i.toNat + 1 + 1 + 1 := ⟨k - i.toNat - 3, by omega⟩
    rw [spec_IsKernel.l0, if_pos (by omega), if_pos h0, if_pos (by omega), dropK h0 (by omega), kerB]
    refine (chainS (fun b => spec_IsKernel.j1 _ K i K K.length i b (rd_T60 K i).f0 (rd_T60 K i).f1 (rd_T60 K i).f2) (rd_T60 K i)).trans ?_
    rw [spec_IsKernel.j1]
    by_cases ho : okP (rd_T60 K i)
    · rw [decide_eq_true ho, if_neg (by decide), if_pos h0, if_pos (by omega), Option.bind_some, kers_l1 K K K.length i _ _ _ i.toNat k (K.take i.toNat) 0 (by omega) (by omega) (by omega)]
      rw [w64 (by omega) (by omega), ih k (i + 1) (by omega) (by omega) (by omega), takeK h0 (by omega)]
      show _ = some (true && newB _ _ (K.take i.toNat) && _)
      rw [Bool.true_and]
      show (if newB _ _ (K.take i.toNat) = true then _ else _) = _
      cases newB (rd_T60 K i).f0 (rd_T60 K i).f1 (K.take i.toNat) <;> rfl
    · rw [decide_eq_false ho, if_pos (by decide)]; rfl
theorem ker_s {K : List S60} {k : Nat} (hk : 1100 ≤ k) : spec_IsKernel.f k K = some (decide (Ker K)) := by
  unfold spec_IsKernel.f
  rw [l1In, Option.bind_some]
  by_cases h : 1 ≤ (K.length : Int) ∧ (K.length : Int) ≤ 12
  · rw [if_pos (decide_eq_true h), kers_l K (by omega) K.length k 0 (by omega) (by omega) (by omega)]
    show some (kerB K []) = _
    have : Ker K ↔ kerB K [] = true := ⟨fun h => h.2.2, fun e => ⟨by omega, by omega, e⟩⟩
    by_cases hb : kerB K [] = true
    · rw [hb, decide_eq_true (this.mpr hb)]
    · rw [decide_eq_false (fun e => hb (this.mp e))]; simpa using hb
  · rw [if_neg (by rw [decide_eq_true_iff]; exact h)]; exact dec_ff (fun e => h ⟨by have := e.1; omega, by have := e.2.1; omega⟩)
def Down (K : List S60) : Prop := Ker K ∧ ∀ a ∈ K, 1 ≤ a.f1
theorem downl_c (xs : List Int) (hl : xs.length ≤ 140737488351232) (d : Nat) : ∀ (k : Nat) (K : List S60) (n i h : Int), 0 ≤ i → i ≤ xs.length → n ≤ d ∧ n ≤ 100 → d + 2000 < k → Down K →
    ∃ K', spec_MakeDown.l0 k K n xs i h = some K' ∧ Down K' := by
  induction d with
  | zero =>
    intro k K n i h i0 i1 hn hk hK
    obtain ⟨k, rfl⟩ : ∃ m, k = m + 1 := ⟨k - 1, by omega⟩
    rw [spec_MakeDown.l0, if_neg (by omega)]; exact ⟨K, rfl, hK⟩
  | succ d ih =>
    intro k K n i h i0 i1 hn hk hK
    obtain ⟨k, rfl⟩ : ∃ m, k = m + 1 := ⟨k - 1, by omega⟩
    rw [spec_MakeDown.l0]
    by_cases h0 : n > 0
    · have hkl := hK.1.2.1
      rw [if_pos h0, Option.bind_some, if_pos (by simp only [List.length_nil]; omega), Option.bind_some]
      obtain ⟨a, i1_, h1, e1, a0, a1, p0, p1⟩ := below_c xs hl i h 9 i0 i1 (by omega) (by omega)
      rw [e1]; simp only [Option.bind_some]
      obtain ⟨b, i2, h2, e2, b0, b1, p2, p3⟩ := below_c xs hl i1_ h1 4 p0 p1 (by omega) (by omega)
      rw [e2]; simp only [Option.bind_some]
      obtain ⟨c, i3, h3, e3, c0, c1, p4, p5⟩ := below_c xs hl i2 h2 30 p2 p3 (by omega) (by omega)
      rw [e3]; simp only [Option.bind_some]
      rw [if_pos (by simp only [List.length_append, List.length_nil]; omega), ker_s (by omega), Option.bind_some, w64 (x := n - 1) (by omega) (by omega)]
      split
      · rename_i hd
        refine ih k _ (n - 1) i3 h3 p4 p5 ⟨by omega, by omega⟩ (by omega) ⟨of_decide_eq_true hd, ?_⟩
        intro q hq
        rcases List.mem_append.mp hq with e | e
        · exact hK.2 q (by simpa using e)
        · simp only [List.mem_singleton] at e; subst e; show 1 ≤ wrap64 (1 + b); rw [w64 (by omega) (by omega)]; omega
      · exact ih k K (n - 1) i3 h3 p4 p5 ⟨by omega, by omega⟩ (by omega) hK
    · rw [if_neg h0]; exact ⟨K, rfl, hK⟩
theorem down_c (xs : List Int) (hl : xs.length ≤ 140737488351232) {k : Nat} (hk : 5000 ≤ k) : ∃ K, spec_MakeDown.f k xs = some K ∧ Down K := by
  obtain ⟨h, e⟩ := new_c xs k (by omega)
  unfold spec_MakeDown.f
  rw [e]; simp only [Option.bind_some]
  obtain ⟨a, i1, h1, e1, a0, a1, p0, p1⟩ := below_c xs hl 0 h 3 (by omega) (by omega) (by omega) (by omega)
  rw [e1]; simp only [Option.bind_some]
  obtain ⟨b, i2, h2, e2, b0, b1, p2, p3⟩ := below_c xs hl i1 h1 9 p0 p1 (by omega) (by omega)
  rw [e2]; simp only [Option.bind_some]
  obtain ⟨c, i3, h3, e3, c0, c1, p4, p5⟩ := below_c xs hl i2 h2 4 p2 p3 (by omega) (by omega)
  rw [e3]; simp only [Option.bind_some]
  refine downl_c xs hl 4 k _ c i3 h3 p4 p5 ⟨by omega, by omega⟩ (by omega) ?_
  rw [w64 (x := 1 + b) (by omega) (by omega), w64 (x := a - 1) (by omega) (by omega)]
  have : okP (⟨a - 1, 1, 1 + b⟩ : S60) := by unfold okP; simp only; omega
  refine ⟨⟨by simp, by simp, ?_⟩, ?_⟩
  · simp only [kerB, newB, Bool.and_true]; exact decide_eq_true this
  · intro q hq; simp only [List.mem_singleton] at hq; subst hq; show (1 : Int) ≤ 1; omega
theorem keri_l1 (K xs : List S60) (m i : Int) (x y z : Int) (d : Nat) : ∀ (k : Nat) (s : List S60) (j : Int), 0 ≤ j → s.length ≤ 12 → (s.length : Int) - j = d →
    impl_IsKernel.l1 (k + d + 1) K xs m i s s.length j x y z = if newB x y (s.drop j.toNat) = true then impl_IsKernel.l0 k K xs m (wrap64 (i + 1)) else some false := by
  induction d with
  | zero =>
    intro k s j h0 hs hd
    rw [impl_IsKernel.l1, if_neg (by omega), List.drop_eq_nil_of_le (by omega)]; rfl
  | succ d ih =>
    intro k s j h0 hs hd
    rw [← Nat.add_assoc, impl_IsKernel.l1, if_pos (by omega), if_pos h0, if_pos (by omega), w64 (by omega) (by omega), ih k s (j + 1) (by omega) hs (by omega), dropK h0 (by omega), newB]
    by_cases h1 : x = (rd_T60 s j).f0
    · by_cases h2 : y = (rd_T60 s j).f1
      · rw [if_pos h1, if_pos h2, if_pos (And.intro h1 h2)]; rfl
      · rw [if_pos h1, if_neg h2, if_neg (show ¬ (_ ∧ _) from fun h => h2 h.2)]
    · rw [if_neg h1, if_neg (show ¬ (_ ∧ _) from fun h => h1 h.1)]
theorem keri_l (K : List S60) (hK : K.length ≤ 12) (d : Nat) : ∀ (k : Nat) (i : Int), 0 ≤ i → (K.length : Int) - i = d → d * 16 < k →
    impl_IsKernel.l0 k K K K.length i = some (kerB (K.drop i.toNat) (K.take i.toNat)) := by
  induction d with
  | zero =>
    intro k i h0 hd hk
    obtain ⟨k, rfl⟩ : ∃ m, k = m + 1 := ⟨k - 1, by omega⟩
    rw [impl_IsKernel.l0, if_neg (by omega), List.drop_eq_nil_of_le (by omega)]; rfl
  | succ d ih =>
    intro k i h0 hd hk
    have tl : (K.take i.toNat).length = i.toNat := by rw [List.length_take]; omega
    obtain ⟨k, rfl⟩ : ∃ m, k = m + i.toNat + 1 + 1 + 1 := ⟨k - i.toNat - 3, by omega⟩
    rw [impl_IsKernel.l0, if_pos (by omega), if_pos h0, if_pos (by omega), dropK h0 (by omega), kerB]
    refine (chainI (fun b => impl_IsKernel.j2 _ K i K K.length i b (rd_T60 K i).f0 (rd_T60 K i).f1 (rd_T60 K i).f2) (rd_T60 K i)).trans ?_
    rw [impl_IsKernel.j2]
    by_cases ho : okP (rd_T60 K i)
    · rw [decide_eq_true ho, if_neg (by decide), if_pos h0, if_pos (by omega), Option.bind_some, keri_l1 K K K.length i _ _ _ i.toNat k (K.take i.toNat) 0 (by omega) (by omega) (by omega)]
      rw [w64 (by omega) (by omega), ih k (i + 1) (by omega) (by omega) (by omega), takeK h0 (by omega)]
      show _ = some (true && newB _ _ (K.take i.toNat) && _)
      rw [Bool.true_and]
      show (if newB _ _ (K.take i.toNat) = true then _ else _) = _
      cases newB (rd_T60 K i).f0 (rd_T60 K i).f1 (K.take i.toNat) <;> rfl
    · rw [decide_eq_false ho, if_pos (by decide)]; rfl
theorem ker_i {K : List S60} (hK : K.length ≤ 1048576) {k : Nat} (hk : 1100 ≤ k) : impl_IsKernel.f k K = some (decide (Ker K)) := by
  obtain ⟨k, rfl⟩ : ∃ m, k = m + 1 := ⟨k - 1, by omega⟩
  unfold impl_IsKernel.f
  by_cases h : (K.length : Int) < 1
  · rw [if_pos h, impl_IsKernel.j0, if_pos rfl]; exact dec_ff (fun e => by have := e.1; omega)
  · rw [if_neg h, impl_IsKernel.j0]
    by_cases h2 : (K.length : Int) > 12
    · rw [if_pos (decide_eq_true h2)]; exact dec_ff (fun e => by have := e.2.1; omega)
    · rw [if_neg (by rw [decide_eq_true_iff]; exact h2), keri_l K (by omega) K.length k 0 (by omega) (by omega) (by omega)]
      show some (kerB K []) = _
      have : Ker K ↔ kerB K [] = true := ⟨fun h => h.2.2, fun e => ⟨by omega, by omega, e⟩⟩
      by_cases hb : kerB K [] = true
      · rw [hb, decide_eq_true (this.mpr hb)]
      · rw [decide_eq_false (fun e => hb (this.mp e))]; simpa using hb
def mirK (a : S60) : S60 := ⟨-a.f0, a.f1, a.f2⟩
theorem mirkl_i (K : List S60) (hl : K.length ≤ 12) (ho : ∀ a ∈ K, okP a) (d : Nat) : ∀ (k : Nat) (o : List S60) (i : Int), 0 ≤ i → i ≤ K.length → (K.length : Int) - i = d → o.length = i.toNat → d + 2000 < k →
    impl_MirrorKernel.l0 k K o K K.length i = (if Ker K ∧ Ker (o ++ (K.drop i.toNat).map mirK) then some (o ++ (K.drop i.toNat).map mirK, true) else some ([], false)) := by
  induction d with
  | zero =>
    intro k o i i0 i1 hd hol hk
    obtain ⟨k, rfl⟩ : ∃ m, k = m + 1 := ⟨k - 1, by omega⟩
    rw [impl_MirrorKernel.l0, if_neg (by omega), List.drop_eq_nil_of_le (by omega), List.map_nil, List.append_nil, ker_i (by omega) (by omega), Option.bind_some]
    by_cases h1 : Ker K
    · rw [if_pos (decide_eq_true h1), ker_i (by omega) (by omega), Option.bind_some]
      by_cases h2 : Ker o
      · rw [if_pos (decide_eq_true h2), if_pos ⟨h1, h2⟩]
      · rw [if_neg (by rw [decide_eq_true_iff]; exact h2), if_neg (fun x => h2 x.2)]
    · rw [if_neg (by rw [decide_eq_true_iff]; exact h1), if_neg (fun x => h1 x.1)]
  | succ d ih =>
    intro k o i i0 i1 hd hol hk
    obtain ⟨k, rfl⟩ : ∃ m, k = m + 1 := ⟨k - 1, by omega⟩
    have hm := ho _ (memK i0 (show i < K.length by omega)); unfold okP at hm
    rw [impl_MirrorKernel.l0, if_pos (by omega), if_pos i0, if_pos (by omega), if_pos (by omega), w64 (x := i + 1) (by omega) (by omega), w64 (x := -(rd_T60 K i).f0) (by omega) (by omega)]
    rw [ih k _ (i + 1) (by omega) (by omega) (by omega) (by rw [List.length_append]; simp only [List.length_cons, List.length_nil]; omega) (by omega), dropK i0 (by omega), List.map_cons]
    simp only [List.append_assoc, List.cons_append, List.nil_append]; rfl
theorem mirk_newB : ∀ (s : List S60) (x y : Int), newB (-x) y (s.map mirK) = newB x y s := by
  intro s
  induction s with
  | nil => intro x y; rfl
  | cons b t ih =>
    intro x y
    rw [List.map_cons, newB, newB, ih]
    by_cases h : x = b.f0 ∧ y = b.f1
    · rw [if_pos h, if_pos ⟨by show -x = -b.f0; rw [h.1], h.2⟩]
    · rw [if_neg h, if_neg (fun q => h ⟨by have : -x = -b.f0 := q.1; omega, q.2⟩)]
theorem mirk_kerB : ∀ (K s : List S60), (∀ a ∈ K, 1 ≤ a.f1) → kerB K s = true → kerB (K.map mirK) (s.map mirK) = true := by
  intro K
  induction K with
  | nil => intro s _ _; rfl
  | cons a t ih =>
    intro s hd h
    simp only [kerB, Bool.and_eq_true, decide_eq_true_eq] at h
    have ha := hd a (List.mem_cons_self ..)
    rw [List.map_cons, kerB]
    have h1 : okP (mirK a) := by have := h.1.1; unfold okP at this ⊢; unfold mirK; simp only; omega
    have h2 : newB (mirK a).f0 (mirK a).f1 (s.map mirK) = true := by have := mirk_newB s a.f0 a.f1; rw [h.1.2] at this; exact this
    have h3 := ih (s ++ [a]) (fun b hb => hd b (List.mem_cons_of_mem _ hb)) h.2
    rw [List.map_append] at h3
    rw [decide_eq_true h1, h2, Bool.and_self, Bool.true_and]; exact h3
theorem Down.mir {K : List S60} (h : Down K) : Down (K.map mirK) :=
  ⟨⟨by rw [List.length_map]; exact h.1.1, by rw [List.length_map]; exact h.1.2.1, mirk_kerB K [] h.2 h.1.2.2⟩, fun a ha => by obtain ⟨b, hb, rfl⟩ := List.mem_map.mp ha; exact h.2 b hb⟩
theorem mirk_i {K : List S60} (h : Down K) {k : Nat} (hk : 3000 ≤ k) : impl_MirrorKernel.f k K = some (K.map mirK, true) := by
  have hl := h.1.2.1
  unfold impl_MirrorKernel.f
  rw [mirkl_i K hl (fun a ha => h.1.ok ha) K.length k [] 0 (by omega) (by omega) (by omega) rfl (by omega)]
  show (if Ker K ∧ Ker (K.map mirK) then some (K.map mirK, true) else _) = _
  rw [if_pos ⟨h.1, h.mir.1⟩]
theorem mirk_wt : ∀ K : List S60, kWt (K.map mirK) = kWt K := by
  intro K
  induction K with
  | nil => rfl
  | cons a t ih => rw [List.map_cons, kWt, kWt, ih]; rfl
theorem mirk_shF (S e : Int) : ∀ (K : List S60) (o : List Int) (r : Int), shF S e (K.map mirK) o r = shF S e K o r := by
  intro K
  induction K with
  | nil => intro o r; rfl
  | cons a t ih => intro o r; rw [List.map_cons, shF, shF, ih]; rfl
theorem mirk_shares (K : List S60) (e : Int) : kShares (K.map mirK) e = kShares K e := by unfold kShares; rw [mirk_wt, mirk_shF]
theorem wt_il (K : List S60) (hK : K.length ≤ 12) (ho : ∀ a ∈ K, okP a) (d : Nat) : ∀ (k : Nat) (s i : Int), 0 ≤ i → (K.length : Int) - i = d → d < k → 0 ≤ s → s + 100 * d ≤ 100000 →
    impl_weight.l0 k s K K.length i = some (s + kWt (K.drop i.toNat)) := by
  induction d with
  | zero =>
    intro k s i h0 hd hk s0 s1
    obtain ⟨k, rfl⟩ : ∃ m, k = m + 1 := ⟨k - 1, by omega⟩
    rw [impl_weight.l0, if_neg (by omega), List.drop_eq_nil_of_le (by omega)]; simp [kWt]
  | succ d ih =>
    intro k s i h0 hd hk s0 s1
    obtain ⟨k, rfl⟩ : ∃ m, k = m + 1 := ⟨k - 1, by omega⟩
    have h2 := ho _ (memK h0 (show i < K.length by omega)); unfold okP at h2
    rw [impl_weight.l0, if_pos (by omega), if_pos h0, if_pos (by omega), w64 (by omega) (by omega), w64 (by omega) (by omega), ih k _ (i + 1) (by omega) (by omega) (by omega) (by omega) (by omega), dropK h0 (by omega), kWt, Int.add_assoc]
theorem wt_i {K : List S60} (h : Ker K) {k : Nat} (hk : 13 ≤ k) : impl_weight.f k K = some (kWt K) := by
  have := h.2.1
  unfold impl_weight.f
  rw [wt_il K h.2.1 (fun a ha => h.ok ha) K.length k 0 0 (by omega) (by omega) (by omega) (by omega) (by omega)]
  simp
theorem wto_i {K : List S60} (h : Ker K) {k : Nat} (hk : 1100 ≤ k) : impl_WeightOf.f k K = some (kWt K) := by
  have := h.2.1
  unfold impl_WeightOf.f
  rw [ker_i (by omega) hk, Option.bind_some, if_pos (decide_eq_true h), wt_i h (by omega), Option.bind_some]
theorem empty_s {W H : Int} (h : Sz W H) : spec_l1Empty.f W H = some (W, H, List.replicate (W * H).toNat 0) := by
  have := h.area
  unfold spec_l1Empty.f
  rw [w64 (by omega) (by omega), if_pos (by omega), if_pos (by omega)]
theorem int_c (xs : List Int) (hl : xs.length ≤ 140737488351232) (i h : Int) (h0 : 0 ≤ i) (h1 : i ≤ xs.length) {l : List Int} (n0 : 1 ≤ l.length) (n1 : l.length ≤ 256) : ∃ r i' h', spec_l01Int.f xs i h l = some (r, i', h') ∧ r ∈ l ∧ 0 ≤ i' ∧ i' ≤ xs.length := by
  obtain ⟨r, i', h', e, r0, r1, a0, a1⟩ := below_c xs hl i h l.length h0 h1 (by omega) (by omega)
  unfold spec_l01Int.f
  rw [e]; simp only [Option.bind_some]
  rw [if_pos r0, if_pos r1, rd_at]
  exact ⟨_, _, _, rfl, at_mem r0 r1, a0, a1⟩
theorem drawl_c (xs : List Int) (hl : xs.length ≤ 140737488351232) {W H : Int} (hs : Sz W H) (q : Int) (d : Nat) : ∀ (k : Nat) (j i h : Int) (M : List Int), 0 ≤ i → i ≤ xs.length → 0 ≤ j → Up W H M 255 → W * H - j = d → d < k →
    ∃ l i' h', spec_l1Draw.l0 k q (W * H) j xs i h W H M = some (W, H, l, i', h') ∧ Up W H l 255 := by
  have ha := hs.area
  induction d with
  | zero =>
    intro k j i h M i0 i1 j0 hu hd hk
    obtain ⟨k, rfl⟩ : ∃ m, k = m + 1 := ⟨k - 1, by omega⟩
    rw [spec_l1Draw.l0, if_neg (by omega)]; exact ⟨M, _, _, rfl, hu⟩
  | succ d ih =>
    intro k j i h M i0 i1 j0 hu hd hk
    obtain ⟨k, rfl⟩ : ∃ m, k = m + 1 := ⟨k - 1, by omega⟩
    have hln := hu.2.1
    have fin : ∀ r i' h' : Int, In 255 r → 0 ≤ i' → i' ≤ xs.length → ∃ l i2 h2, (if 0 ≤ j then (if j < (M.length : Int) then spec_l1Draw.l0 k q (W * H) (wrap64 (j + 1)) xs i' h' W H (M.set j.toNat r) else none) else none) = some (W, H, l, i2, h2) ∧ Up W H l 255 := by
      intro r i' h' r0 a0 a1
      rw [if_pos j0, if_pos (by omega), w64 (by omega) (by omega)]
      exact ih k (j + 1) i' h' _ a0 a1 (by omega) (hu.set r0) (by omega) (by omega)
    rw [spec_l1Draw.l0, if_pos (by omega)]
    by_cases q0 : q = 0
    · obtain ⟨r, i', h', e, r0, r1, a0, a1⟩ := below_c xs hl i h 256 i0 i1 (by omega) (by omega)
      rw [if_pos q0, e]; exact fin r i' h' ⟨r0, by omega⟩ a0 a1
    rw [if_neg q0]
    by_cases q1 : q = 1
    · obtain ⟨r, i', h', e, hm, a0, a1⟩ := int_c xs hl i h i0 i1 (l := [0, 255, 128, 127, 1, 254]) (by simp) (by simp)
      rw [if_pos q1, e]; exact fin r i' h' (by simp only [List.mem_cons, List.not_mem_nil, or_false] at hm; unfold In; omega) a0 a1
    rw [if_neg q1]
    by_cases q2 : q = 2
    · obtain ⟨r, i', h', e, r0, r1, a0, a1⟩ := below_c xs hl i h 2 i0 i1 (by omega) (by omega)
      rw [if_pos q2, e]; exact fin r i' h' ⟨r0, by omega⟩ a0 a1
    rw [if_neg q2]
    have hW := hs.1; have hW2 := hs.2.1
    have hm : mx 1 (wrap64 (W - 1)) = if W = 1 then 1 else W - 1 := by
      rw [w64 (by omega) (by omega)]; unfold mx
      split <;> split <;> omega
    have hr := hs.row j0 (by omega)
    rw [if_neg (by omega), hm, if_neg (by split <;> omega), tmod_pos j0, w64 (x := j % W * 255) (by omega) (by omega), tdiv_pos (by omega)]
    refine fin _ i h ?_ i0 i1
    have hb : 0 ≤ (j % W * 255) / (if W = 1 then 1 else W - 1) ∧ (j % W * 255) / (if W = 1 then 1 else W - 1) ≤ 255 := by
      by_cases h1 : W = 1
      · rw [if_pos h1]; subst h1; omega
      · rw [if_neg h1]
        refine ⟨Int.ediv_nonneg (by omega) (by omega), ?_⟩
        have : (j % W * 255) / (W - 1) < 256 := Int.ediv_lt_of_lt_mul (by omega) (by omega)
        omega
    rw [w64 (by omega) (by omega)]; exact hb
theorem draw_c (xs : List Int) (hl : xs.length ≤ 140737488351232) (i h m : Int) (h0 : 0 ≤ i) (h1 : i ≤ xs.length) (hm : 1 ≤ m) (hm2 : m ≤ 16) {k : Nat} (hk : 5000 ≤ k) : ∃ W H l i' h', spec_l1Draw.f k xs i h m = some (W, H, l, i', h') ∧ W ≤ m ∧ H ≤ m ∧ Up W H l 255 := by
  unfold spec_l1Draw.f
  obtain ⟨a, i1, h1, e1, a0, a1, p0, p1⟩ := below_c xs hl i h m h0 h1 hm (by omega)
  rw [e1]; simp only [Option.bind_some]
  obtain ⟨b, i2, h2, e2, b0, b1, p2, p3⟩ := below_c xs hl i1 h1 m p0 p1 hm (by omega)
  rw [e2]; simp only [Option.bind_some]
  have hs : Sz (1 + a) (1 + b) := ⟨by omega, by omega, by omega, by omega, by have := mul_bd (c := 16) (d := 16) (show 0 ≤ 1 + a by omega) (by omega) (show 0 ≤ 1 + b by omega) (by omega); omega⟩
  have ha := hs.area
  obtain ⟨q, i3, h3, e3, q0, q1, p4, p5⟩ := below_c xs hl i2 h2 4 p2 p3 (by omega) (by omega)
  rw [w64 (x := 1 + a) (by omega) (by omega), w64 (x := 1 + b) (by omega) (by omega), empty_s hs, Option.bind_some, e3]; simp only [Option.bind_some]
  have hu : Up (1 + a) (1 + b) (List.replicate ((1 + a) * (1 + b)).toNat 0) 255 := ⟨hs, by rw [List.length_replicate]; omega, fun v hv => by rw [(List.mem_replicate.mp hv).2]; exact ⟨by omega, by omega⟩⟩
  have hl2 := hu.2.1
  rw [hl2]
  obtain ⟨l, i', h', hl3, hu3⟩ := drawl_c xs hl hs q ((1 + a) * (1 + b)).toNat k 0 i3 h3 _ p4 p5 (by omega) hu (by omega) (by omega)
  exact ⟨1 + a, 1 + b, l, i', h', hl3, by omega, by omega, hu3⟩
theorem pict_c (xs : List Int) (hl : xs.length ≤ 140737488351232) (m : Int) (hm : 1 ≤ m) (hm2 : m ≤ 16) {k : Nat} (hk : 5000 ≤ k) : ∃ W H l, spec_MakePicture.f k xs m = some (W, H, l) ∧ W ≤ m ∧ H ≤ m ∧ Up W H l 255 := by
  obtain ⟨h, e⟩ := new_c xs k (by omega)
  have hx : mx 1 (mn m 16) = m := by unfold mx mn; repeat' split
                                     all_goals omega
  unfold spec_MakePicture.f
  rw [e, hx]; simp only [Option.bind_some]
  obtain ⟨W, H, l, i', h', e2, c1, c2, hu⟩ := draw_c xs hl 0 h m (by omega) (by omega) hm hm2 hk
  rw [e2]; exact ⟨W, H, l, rfl, c1, c2, hu⟩
theorem freshl_c (xs : List Int) (a : Int) (d : Nat) : ∀ (k : Nat) (o : List Int) (i : Int), 0 ≤ i → i ≤ 600 → 600 - i = d → (o.length : Int) = i + 1 → d < k → ∃ ys, laws_fresh.l0 k xs a o i = some ys ∧ ys.length ≤ 700 := by
  induction d with
  | zero =>
    intro k o i i0 i1 hd ho hk
    obtain ⟨k, rfl⟩ : ∃ m, k = m + 1 := ⟨k - 1, by omega⟩
    have h6 : ¬ i < 600 := by omega
    rw [laws_fresh.l0]
    by_cases h : i < (xs.length : Int)
    · rw [if_pos h, if_neg h6]; exact ⟨o, rfl, by omega⟩
    · rw [if_neg h]; exact ⟨o, rfl, by omega⟩
  | succ d ih =>
    intro k o i i0 i1 hd ho hk
    obtain ⟨k, rfl⟩ : ∃ m, k = m + 1 := ⟨k - 1, by omega⟩
    rw [laws_fresh.l0]
    by_cases h : i < (xs.length : Int)
    · rw [if_pos h, if_pos (by omega), if_pos i0, if_pos (by omega), w64 (x := i + 1) (by omega) (by omega)]
      exact ih k _ (i + 1) (by omega) (by omega) (by omega) (by rw [List.length_append]; simp; omega) (by omega)
    · rw [if_neg h]; exact ⟨o, rfl, by omega⟩
theorem fresh_c (xs : List Int) (a : Int) {k : Nat} (hk : 1000 ≤ k) : ∃ ys, laws_fresh.f k xs a = some ys ∧ ys.length ≤ 700 := by
  unfold laws_fresh.f
  exact freshl_c xs a 600 k _ 0 (by omega) (by omega) (by omega) (by simp) (by omega)
theorem size_i (W H : Int) : impl_sized.f W H = some (decide (Sz W H)) := by
  unfold impl_sized.f
  by_cases h : 1 ≤ W ∧ W ≤ 64 ∧ 1 ≤ H ∧ H ≤ 64
  · have := mul_bd (c := 64) (d := 64) (show 0 ≤ W by omega) h.2.1 (show 0 ≤ H by omega) h.2.2.2
    rw [if_pos (by omega), if_pos (by omega), if_pos (by omega), if_pos (by omega), w64 (by omega) (by omega)]
    exact dec_dd (by unfold Sz; omega)
  · repeat' split
    all_goals first | exact dec_ff (by unfold Sz; omega) | (exfalso; omega)
theorem within_i {l : List Int} (hl : l.length ≤ 1048576) (m : Int) : impl_within.f l m = some (decide (All m l)) := by
  unfold impl_within.f
  rw [if_pos (by omega)]; simp only [Option.some.injEq]
  rw [Bool.eq_iff_iff, List.all_eq_true, decide_eq_true_iff]
  exact ⟨fun h v hv => of_decide_eq_true (h v hv), fun h v hv => decide_eq_true (h v hv)⟩
theorem pict_i {W H : Int} {l : List Int} (hl : l.length ≤ 1048576) : impl_IsPicture.f W H l = some (decide (Up W H l 255)) := by
  unfold impl_IsPicture.f
  rw [size_i, Option.bind_some]
  by_cases h : Sz W H
  · have := h.area
    rw [if_pos (decide_eq_true h), w64 (by omega) (by omega), within_i hl]
    by_cases e : (l.length : Int) = W * H
    · rw [if_pos e]; exact dec_dd ⟨fun x => ⟨h, e, x⟩, fun x => x.2.2⟩
    · rw [if_neg e]; exact dec_ff (fun x => e x.2.1)
  · rw [if_neg (by rw [decide_eq_true_iff]; exact h)]; exact dec_ff (fun x => h x.1)
theorem gridO_tab {W H : Int} {AT : Int → Int → Option Int} {F : Int → Int} (hW : 1 ≤ W) (hH : 0 ≤ H) (h : ∀ x y, 0 ≤ x → x < W → 0 ≤ y → y < H → AT x y = some (F (y * W + x))) : Ext.gridO W H AT = some (tab F (W * H).toNat 0) := by
  rw [Ext.gridO_of (g := fun x y => F (y * W + x)) hW hH h]
  simp only [Option.some.injEq]
  unfold Ext.grid Ext.pref
  rw [← tab_range]
  apply List.map_congr_left
  intro i _
  show F ((i : Int) / W * W + (i : Int) % W) = _
  rw [xy_of]
theorem drawn_some {W H : Int} (hs : Sz W H) {AT : Int → Int → Option Int} {F : Int → Int} (h : ∀ x y, 0 ≤ x → x < W → 0 ≤ y → y < H → AT x y = some (F (y * W + x))) :
    (if 1 ≤ W ∧ W ≤ 1024 ∧ 0 ≤ H ∧ H ≤ 1024 ∧ W * H ≤ 1024 then (Ext.gridO W H AT).map fun l => (W, H, l) else none) = some (W, H, tab F (W * H).toNat 0) := by
  have hW := hs.1; have hW2 := hs.2.1; have hH := hs.2.2.1; have hH2 := hs.2.2.2.1; have ha := hs.area
  rw [if_pos (by omega), gridO_tab hW (by omega) h]; rfl
theorem idx_w {W H x y : Int} (hs : Sz W H) (x0 : 0 ≤ x) (x1 : x < W) (y0 : 0 ≤ y) (y1 : y < H) : wrap64 (wrap64 (y * W) + x) = y * W + x ∧ 0 ≤ y * W + x ∧ y * W + x < W * H ∧ (y * W + x) % W = x ∧ (y * W + x) / W = y := by
  have hi := xy_idx x0 x1 y0 y1
  have hW := hs.1; have hW2 := hs.2.1; have hH2 := hs.2.2.2.1; have ha := hs.area
  have q := mul_bd (c := 64) (d := 64) y0 (by omega) (show 0 ≤ W by omega) hW2
  refine ⟨by rw [w64 (x := y * W) (by omega) (by omega), w64 (by omega) (by omega)], hi.1, hi.2, ?_, ?_⟩
  · rw [Int.add_comm, Int.add_mul_emod_self_right, Int.emod_eq_of_lt x0 x1]
  · rw [Int.add_comm, Int.add_mul_ediv_right _ _ (by omega), Int.ediv_eq_zero_of_lt x0 x1, Int.zero_add]
-- nothing on slices_Clone_int_int
theorem copied_i (W H : Int) {l : List Int} (hl : l.length ≤ 1048576) : impl_copied.f W H l = some (W, H, l) := by
  unfold impl_copied.f slices_Clone_int_int.f; rw [if_pos (by omega), Option.bind_some]
-- nothing on impl_diffused_1
-- nothing on impl_diffused_1.drawn
theorem mod_i {x n : Int} (h0 : 0 < n) (h1 : n ≤ 9223372036854775807) : impl_mod.f x n = some (x % n) := by
  unfold impl_mod.f
  rw [if_neg (by omega)]
  have h2 := Int.emod_nonneg x (show n ≠ 0 by omega)
  have h3 := Int.emod_lt_of_pos x h0
  have e := Int.tmod_eq_emod (a := x) (b := n)
  by_cases hc : 0 ≤ x ∨ n ∣ x
  · rw [if_pos hc] at e
    rw [e, if_neg (by omega)]; simp
  · rw [if_neg hc] at e
    rw [e, if_pos (by omega), w64 (by omega) (by omega)]; simp only [Option.some.injEq]; omega
-- nothing on impl_down
theorem shares_il (K : List S60) (hK : K.length ≤ 12) {S : Int} (hS : S ≠ 0) (e : Int) (d : Nat) : ∀ (k : Nat) (o : List Int) (r i : Int), 0 ≤ i → (K.length : Int) - i = d → d < k → o.length ≤ 12 → o.length = i.toNat → 1 ≤ K.length →
    impl_shares.l0 k e S o r K K.length i = some (shF S e (K.drop i.toNat) o r) := by
  induction d with
  | zero =>
    intro k o r i h0 hd hk ho he hn
    obtain ⟨k, rfl⟩ : ∃ m, k = m + 1 := ⟨k - 1, by omega⟩
    rw [impl_shares.l0, if_neg (by omega), List.drop_eq_nil_of_le (by omega), if_pos (by omega)]; rfl
  | succ d ih =>
    intro k o r i h0 hd hk ho he hn
    obtain ⟨k, rfl⟩ : ∃ m, k = m + 1 := ⟨k - 1, by omega⟩
    have hm : ∀ v : Int, impl_mod.f v S = some (if Int.tmod v S < 0 then wrap64 (Int.tmod v S + S) else Int.tmod v S) := by
      intro v; unfold impl_mod.f; rw [if_neg hS]; split <;> rfl
    have hdn : ∀ v : Int, impl_down.f v S = some (kShr S v) := by
      intro v; unfold impl_down.f; rw [hm, Option.bind_some, if_neg hS]; rfl
    rw [impl_shares.l0, if_pos (by omega), if_pos h0, if_pos (by omega), hdn, Option.bind_some, if_pos (by omega), w64 (x := i + 1) (by omega) (by omega)]
    rw [dropK h0 (by omega), shF]
    exact ih k _ _ (i + 1) (by omega) (by omega) (by omega) (by rw [List.length_append]; simp only [List.length_cons, List.length_nil]; omega) (by rw [List.length_append]; simp only [List.length_cons, List.length_nil]; omega) hn
theorem shares_i {K : List S60} (h : Ker K) (e : Int) {k : Nat} (hk : 13 ≤ k) : impl_shares.f k K e = some (kShares K e) := by
  unfold impl_shares.f; have := h.wt; have := h.2.1
  rw [wt_i h hk, Option.bind_some, shares_il K h.2.1 (by omega) e K.length k [] e 0 (by omega) (by omega) (by omega) (by simp) (by simp) h.1]; rfl
theorem run_l2 {K : List S60} (hk : Ker K) {W H : Int} (hs : Sz W H) (al : Bool) (D E : List Int) (way x y c : Int) (p : List Int) (hw : way = 1 ∨ way = -1) (x0 : 0 ≤ x) (x1 : x < W) (y0 : 0 ≤ y) (y1 : y < H) (sh : List Int) (hsh : sh.length = K.length) (d : Nat) :
    ∀ (k : Nat) (V : List Int) (L j : Int), 0 ≤ j → (K.length : Int) - j = d → (V.length : Int) = W * H →
    impl_diffused.l2 (k + d + 1) K al V E L y way x H y W c sh sh.length j W H p W H D = impl_diffused.l1 k K al (spread W H way x y (K.drop j.toNat) (sh.drop j.toNat) V L).1 E (spread W H way x y (K.drop j.toNat) (sh.drop j.toNat) V L).2 y way H y W (wrap64 (c + 1)) W H p W H D := by
  have hK := hk.2.1
  induction d with
  | zero =>
    intro k V L j h0 hd hV
    rw [impl_diffused.l2, if_neg (by omega), List.drop_eq_nil_of_le (by omega)]; rfl
  | succ d ih =>
    intro k V L j h0 hd hV
    have h2 := hk.ok (memK h0 (show j < K.length by omega)); unfold okP at h2
    have h3 := way_mul hw h2.1 h2.2.1
    have hW := hs.1; have hW2 := hs.2.1; have hH := hs.2.2.1; have hH2 := hs.2.2.2.1
    rw [← Nat.add_assoc, impl_diffused.l2, if_pos (by omega), if_pos h0, if_pos (by omega), if_pos (by omega), w64 (x := way * (rd_T60 K j).f0) (by omega) (by omega), w64 (x := x + way * (rd_T60 K j).f0) (by omega) (by omega), w64 (x := y + (rd_T60 K j).f1) (by omega) (by omega)]
    rw [dropK h0 (by omega), drop_at sh h0 (by omega), spread, w64 (x := j + 1) (by omega) (by omega), rd_at]
    by_cases cc : x + way * (rd_T60 K j).f0 < 0 ∨ W ≤ x + way * (rd_T60 K j).f0 ∨ H ≤ y + (rd_T60 K j).f1
    · rw [if_pos cc]
      by_cases c1 : x + way * (rd_T60 K j).f0 < 0
      · rw [if_pos c1]; exact ih k V _ (j + 1) (by omega) (by omega) hV
      · rw [if_neg c1]
        by_cases c2 : x + way * (rd_T60 K j).f0 ≥ W
        · rw [if_pos c2]; exact ih k V _ (j + 1) (by omega) (by omega) hV
        · rw [if_neg c2, if_pos (by omega)]; exact ih k V _ (j + 1) (by omega) (by omega) hV
    · have q := xy_idx (W := W) (H := H) (x := x + way * (rd_T60 K j).f0) (y := y + (rd_T60 K j).f1) (by omega) (by omega) (by omega) (by omega)
      rw [if_neg cc, if_neg (show ¬ x + way * (rd_T60 K j).f0 < 0 by omega), if_neg (show ¬ x + way * (rd_T60 K j).f0 ≥ W by omega), if_neg (show ¬ y + (rd_T60 K j).f1 ≥ H by omega), put_idx hs (by omega) (by omega) (by omega) (by omega), if_pos q.1, if_pos (by omega), rd_at]
      exact ih k _ L (j + 1) (by omega) (by omega) (by rw [List.length_set]; exact hV)
theorem run_i {K : List S60} (hk : Ker K) {W H : Int} (hs : Sz W H) (al : Bool) (p : List Int) (d : Nat) : ∀ (k : Nat) (V D E : List Int) (L y c : Int), 0 ≤ y → y < H → 0 ≤ c → c < W → W * H - (y * W + c) = d → (V.length : Int) = W * H → (D.length : Int) = W * H → (E.length : Int) = W * H → d * 30 + 100 < k →
    impl_diffused.l1 k K al V E L y (wayF al y) H y W c W H p W H D = some (W, H, (difF K W H al d (y * W + c) V D E L).1, (difF K W H al d (y * W + c) V D E L).2.1, (difF K W H al d (y * W + c) V D E L).2.2) := by
  have hK := hk.2.1; have ha := hs.area
  have hW := hs.1; have hW2 := hs.2.1; have hH := hs.2.2.1; have hH2 := hs.2.2.2.1
  induction d with
  | zero =>
    intro k V D E L y c y0 y1 c0 c1 hd hV hD hE hf
    have := (xy_idx c0 c1 y0 y1).2; omega
  | succ d ih =>
    intro k V D E L y c y0 y1 c0 c1 hd hV hD hE hf
    obtain ⟨k, rfl⟩ : ∃ m, k = m + K.length + 1 + 1 + 1 + 1 := ⟨k - K.length - 4, by omega⟩
    have hi := idx_w hs c0 c1 y0 y1
    have hw : wayF al y = 1 ∨ wayF al y = -1 := by unfold wayF; split <;> omega
    have hc : 0 ≤ colF W al (y * W + c) ∧ colF W al (y * W + c) < W := col_bd hs hi.2.1 hi.2.2.1 al
    have hcol : colF W al (y * W + c) = if wayF al y < 0 then W - 1 - c else c := by
      unfold colF wayF; rw [hi.2.2.2.1, hi.2.2.2.2]
      by_cases h : al = true ∧ y % 2 = 1
      · rw [if_pos h, if_pos h, if_pos (by omega)]
      · rw [if_neg h, if_neg h, if_neg (by omega)]
    have hx := xy_idx hc.1 hc.2 y0 y1
    rw [impl_diffused.l1, if_pos c1, w64 (x := W - 1) (by omega) (by omega), w64 (x := W - 1 - c) (by omega) (by omega)]
    have key : impl_diffused.j4 (k + K.length + 1 + 1 + 1) K al V E L y (wayF al y) (colF W al (y * W + c)) H y W c W H p W H D = some (W, H, (difF K W H al (d + 1) (y * W + c) V D E L).1, (difF K W H al (d + 1) (y * W + c) V D E L).2.1, (difF K W H al (d + 1) (y * W + c) V D E L).2.2) := by
      rw [impl_diffused.j4, put_idx hs (by omega) (by omega) (by omega) (by omega), if_pos hx.1, if_pos (by omega), rd_at]
      have fin : ∀ (D' : List Int) (e : Int), (D'.length : Int) = W * H → impl_diffused.j5 (k + K.length + 1 + 1) K al V E L y (wayF al y) (colF W al (y * W + c)) (y * W + colF W al (y * W + c)) e H y W c W H p W H D' =
          some (W, H, (difF K W H al d (y * W + c + 1) (spread W H (wayF al y) (colF W al (y * W + c)) y K (kShares K e) V L).1 D' (E.set (y * W + colF W al (y * W + c)).toNat e) (spread W H (wayF al y) (colF W al (y * W + c)) y K (kShares K e) V L).2).1, (difF K W H al d (y * W + c + 1) (spread W H (wayF al y) (colF W al (y * W + c)) y K (kShares K e) V L).1 D' (E.set (y * W + colF W al (y * W + c)).toNat e) (spread W H (wayF al y) (colF W al (y * W + c)) y K (kShares K e) V L).2).2.1, (difF K W H al d (y * W + c + 1) (spread W H (wayF al y) (colF W al (y * W + c)) y K (kShares K e) V L).1 D' (E.set (y * W + colF W al (y * W + c)).toNat e) (spread W H (wayF al y) (colF W al (y * W + c)) y K (kShares K e) V L).2).2.2) := by
        intro D' e hD'
        have hsl := kShares_len K e
        rw [impl_diffused.j5, if_pos hx.1, if_pos (by omega), shares_i hk e (by omega), Option.bind_some]
        rw [run_l2 hk hs al _ _ _ _ _ _ _ hw hc.1 hc.2 y0 y1 _ hsl K.length k V L 0 (by omega) (by omega) hV]
        rw [w64 (x := c + 1) (by omega) (by omega)]
        show impl_diffused.l1 k K al (spread W H (wayF al y) (colF W al (y * W + c)) y K (kShares K e) V L).1 _ (spread W H (wayF al y) (colF W al (y * W + c)) y K (kShares K e) V L).2 y _ H y W (c + 1) W H p W H D' = _
        generalize hG : spread W H (wayF al y) (colF W al (y * W + c)) y K (kShares K e) V L = G
        have hGl : (G.1.length : Int) = W * H := by rw [← hG, spread_len]; exact hV
        by_cases hcW : c + 1 < W
        · rw [show y * W + c + 1 = y * W + (c + 1) by omega]
          exact ih k _ _ _ _ y (c + 1) y0 y1 (by omega) hcW (by omega) hGl hD' (by rw [List.length_set]; exact hE) (by omega)
        · have e1 : y * W + c + 1 = (y + 1) * W + 0 := by rw [Int.add_mul]; omega
          obtain ⟨k, rfl⟩ : ∃ m, k = m + 1 + 1 + 1 + 1 := ⟨k - 4, by omega⟩
          rw [impl_diffused.l1, if_neg hcW, impl_diffused.l0, w64 (x := y + 1) (by omega) (by omega)]
          by_cases hy : y + 1 < H
          · have e2 : (y + 1) * W + 0 = y * W + c + 1 := e1.symm
            have rc_ : impl_diffused.l1 k K al G.1 (E.set (y * W + colF W al (y * W + c)).toNat e) G.2 (y + 1) (wayF al (y + 1)) H (y + 1) W 0 W H p W H D' = _ := ih k G.1 D' (E.set (y * W + colF W al (y * W + c)).toNat e) G.2 (y + 1) 0 (by omega) hy (by omega) (by omega) (by omega) hGl hD' (by rw [List.length_set]; exact hE) (by omega)
            rw [if_pos hy, e1, ← rc_, tmod_pos (show 0 ≤ y + 1 by omega)]
            by_cases a1 : al = true
            · rw [if_pos a1, impl_diffused.j1]
              by_cases a2 : (y + 1) % 2 = 1
              · rw [if_pos (beq_iff_eq.mpr a2), impl_diffused.j2, show wayF al (y + 1) = -1 by unfold wayF; rw [if_pos ⟨a1, a2⟩]]
              · rw [if_neg (by rw [beq_iff_eq]; exact a2), impl_diffused.j2, show wayF al (y + 1) = 1 by unfold wayF; rw [if_neg (fun h => a2 h.2)]]
            · rw [if_neg a1, impl_diffused.j1, if_neg (by decide), impl_diffused.j2, show wayF al (y + 1) = 1 by unfold wayF; rw [if_neg (fun h => a1 h.1)]]
          · have e3 : d = 0 := by
              have : y + 1 = H := by omega
              rw [this] at e1; have := Int.mul_comm H W; omega
            rw [if_neg hy, e3]; rfl
      rw [difF, hi.2.2.2.2]
      by_cases cv : at_ V (y * W + colF W al (y * W + c)) ≥ 128
      · rw [if_pos cv, if_pos (by omega), fin _ _ (by rw [List.length_set]; exact hD), if_pos cv]
        rw [show errF (at_ V (y * W + colF W al (y * W + c))) = wrap64 (at_ V (y * W + colF W al (y * W + c)) - 255) by unfold errF; rw [if_pos cv]]
      · rw [if_neg cv, fin _ _ hD, if_neg cv]
        rw [show errF (at_ V (y * W + colF W al (y * W + c))) = at_ V (y * W + colF W al (y * W + c)) by unfold errF; rw [if_neg cv]]
    by_cases cw : wayF al y < 0
    · rw [if_pos cw, ← show colF W al (y * W + c) = W - 1 - c by rw [hcol, if_pos cw]]; exact key
    · rw [if_neg cw]
      have e : colF W al (y * W + c) = c := by rw [hcol, if_neg cw]
      conv => lhs; arg 9; rw [← e]
      exact key
theorem tab_rep (n : Nat) : ∀ i : Int, tab (fun _ => 0) n i = List.replicate n 0 := by
  induction n with
  | zero => intro i; rfl
  | succ n ih => intro i; rw [tab, ih, List.replicate_succ]
theorem dif_i {K : List S60} (hk : Ker K) {W H : Int} {l : List Int} (hu : Up W H l 255) (al : Bool) {k : Nat} (hf : 1000000 ≤ k) : impl_diffused.f k K W H l al = some (W, H, (dif K W H l al).1, (dif K W H l al).2.1, (dif K W H l al).2.2) := by
  have ha := hu.1.area; have hl := hu.2.1
  have hW := hu.1.1; have hH := hu.1.2.2.1
  unfold impl_diffused.f impl_diffused_1.drawn.f
  rw [copied_i W H (by omega), Option.bind_some, drawn_some (AT := fun x y => impl_diffused_1.f x y) (F := fun _ => 0) hu.1 (fun x y _ _ _ _ => rfl), Option.bind_some, if_pos (by omega), if_pos (by omega), Int.toNat_natCast, tab_rep]
  obtain ⟨k, rfl⟩ : ∃ m, k = m + 1 + 1 + 1 := ⟨k - 3, by omega⟩
  have hn : (W * H).toNat = l.length := by omega
  have rc_ := run_i hk hu.1 al l l.length k l (List.replicate l.length 0) (List.replicate l.length 0) 0 0 0 (by omega) (by omega) (by omega) (by omega) (by omega) hl (by simpa using hl) (by simpa using hl) (by omega)
  rw [show (0 : Int) * W + 0 = 0 by omega] at rc_
  have e : wayF al 0 = 1 := by unfold wayF; rw [if_neg (by omega)]
  rw [e] at rc_
  rw [impl_diffused.l0, if_pos (by omega), hn]
  by_cases a1 : al = true
  · rw [if_pos a1, impl_diffused.j1, if_neg (by decide), impl_diffused.j2]; exact rc_
  · rw [if_neg a1, impl_diffused.j1, if_neg (by decide), impl_diffused.j2]; exact rc_
theorem dif_in {K : List S60} {W H : Int} {al : Bool} (d : Nat) : ∀ (i : Int) (V D E : List Int) (L : Int), All 1 D → All 1 (difF K W H al d i V D E L).1 := by
  induction d with
  | zero => intro i V D E L hD; exact hD
  | succ d ih =>
    intro i V D E L hD
    rw [difF]
    refine ih (i + 1) _ _ _ _ ?_
    split
    · intro v hv
      rcases List.mem_or_eq_of_mem_set hv with h | h
      · exact hD v h
      · subst h; exact ⟨by omega, by omega⟩
    · exact hD
theorem dif_up {K : List S60} {W H : Int} {l : List Int} (al : Bool) (hu : Up W H l 255) : Up W H (dif K W H l al).1 1 :=
  ⟨hu.1, by rw [(dif_len K W H l al).1]; exact hu.2.1, dif_in _ _ _ _ _ _ (fun v hv => by rw [(List.mem_replicate.mp hv).2]; exact ⟨by omega, by omega⟩)⟩
def kDif (K : List S60) (W H : Int) (l : List Int) (al : Bool) : Int × Int × List Int × Int × Bool := if Ker K ∧ Up W H l 255 then (W, H, (dif K W H l al).1, (dif K W H l al).2.2, true) else (0, 0, [], 0, false)
theorem kDif_len (K : List S60) (W H : Int) (l : List Int) (al : Bool) (hl : l.length ≤ 1048576) : (kDif K W H l al).2.2.1.length ≤ 1048576 := by
  unfold kDif; split
  · show (dif K W H l al).1.length ≤ _
    rw [(dif_len K W H l al).1]; exact hl
  · simp
theorem difp_i {K : List S60} (hK : K.length ≤ 1048576) {W H : Int} {l : List Int} (al : Bool) (hl : l.length ≤ 1048576) {k : Nat} (hk : 1100000 ≤ k) : impl_DiffusePicture.f k K W H l al = some (kDif K W H l al) := by
  unfold impl_DiffusePicture.f kDif
  rw [ker_i hK (by omega), Option.bind_some]
  by_cases h : Ker K
  · rw [if_pos (decide_eq_true h), pict_i hl, Option.bind_some]
    by_cases h2 : Up W H l 255
    · rw [if_pos (decide_eq_true h2), dif_i h h2 al (by omega), Option.bind_some, if_pos ⟨h, h2⟩]
    · rw [if_neg (by rw [decide_eq_true_iff]; exact h2), if_neg (fun x => h2 x.2)]
  · rw [if_neg (by rw [decide_eq_true_iff]; exact h), if_neg (fun x => h x.1)]
theorem size_s (W H : Int) : spec_l1Size.f W H = some (decide (Sz W H)) := by
  unfold spec_l1Size.f
  simp only [l1In, Option.bind_some]
  by_cases hW : 1 ≤ W ∧ W ≤ 64
  · by_cases hH : 1 ≤ H ∧ H ≤ 64
    · have := mul_bd (c := 64) (d := 64) (show 0 ≤ W by omega) hW.2 (show 0 ≤ H by omega) hH.2
      rw [if_pos (decide_eq_true hW), if_pos (decide_eq_true hH), w64 (by omega) (by omega)]
      exact dec_dd (by unfold Sz; omega)
    · rw [if_pos (decide_eq_true hW), if_neg (by rw [decide_eq_true_iff]; exact hH)]; exact dec_ff (fun h => hH ⟨h.2.2.1, h.2.2.2.1⟩)
  · rw [if_neg (by rw [decide_eq_true_iff]; exact hW)]; exact dec_ff (fun h => hW ⟨h.1, h.2.1⟩)
theorem up_l (m : Int) (d : Nat) : ∀ (k : Nat) (l : List Int) (i : Int), 0 ≤ i → l.length ≤ 1048576 → i ≤ l.length → (l.length : Int) - i = d → d < k → spec_l1Up.l0 k m l l.length i = some (decide (All m (l.drop i.toNat))) := by
  induction d with
  | zero =>
    intro k l i h0 hl h1 hd hk
    obtain ⟨k, rfl⟩ : ∃ m, k = m + 1 := ⟨k - 1, by omega⟩
    rw [spec_l1Up.l0, if_neg (by omega), List.drop_eq_nil_of_le (by omega)]
    rw [decide_eq_true (show All m [] from fun v h => by simp at h)]
  | succ d ih =>
    intro k l i h0 hl h1 hd hk
    obtain ⟨k, rfl⟩ : ∃ m, k = m + 1 := ⟨k - 1, by omega⟩
    rw [spec_l1Up.l0, if_pos (by omega), if_pos h0, if_pos (by omega), l1In, rd_at, Option.bind_some, drop_at l h0 (by omega), w64 (by omega) (by omega)]
    by_cases h : 0 ≤ at_ l i ∧ at_ l i ≤ m
    · rw [if_pos (decide_eq_true h), ih k l (i + 1) (by omega) hl (by omega) (by omega) (by omega)]
      exact dec_dd (by rw [All.cons]; exact ⟨fun x => ⟨h, x⟩, fun x => x.2⟩)
    · rw [if_neg (by rw [decide_eq_true_iff]; exact h)]; exact dec_ff (fun x => h (All.cons.mp x).1)
theorem up_s {W H : Int} {l : List Int} (hl : l.length ≤ 1048576) (m : Int) {k : Nat} (hk : 1100000 ≤ k) : spec_l1Up.f k W H l m = some (decide (Up W H l m)) := by
  obtain ⟨k, rfl⟩ : ∃ m, k = m + 1 := ⟨k - 1, by omega⟩
  unfold spec_l1Up.f
  rw [size_s, Option.bind_some]
  by_cases h : Sz W H
  · have := h.area
    rw [if_pos (decide_eq_true h), w64 (by omega) (by omega), spec_l1Up.j0]
    by_cases e : (l.length : Int) = W * H
    · rw [if_neg (by rw [bne_iff_ne]; exact fun x => x e), up_l m l.length k l 0 (by omega) hl (by omega) (by omega) (by omega)]
      exact dec_dd ⟨fun x => ⟨h, e, x⟩, fun x => x.2.2⟩
    · rw [if_pos (by rw [bne_iff_ne]; exact e)]; exact dec_ff (fun x => e x.2.1)
  · rw [if_neg (by rw [decide_eq_true_iff]; exact h), spec_l1Up.j0, if_pos rfl]; exact dec_ff (fun x => h x.1)
theorem pict_s {W H : Int} {l : List Int} (hl : l.length ≤ 1048576) {k : Nat} (hk : 1100000 ≤ k) : spec_IsPicture.f k W H l = some (decide (Up W H l 255)) := by
  unfold spec_IsPicture.f; rw [up_s hl 255 hk]; rfl
/-- the mirrored place -/
def mi (W i : Int) : Int := i / W * W + (W - 1 - i % W)
theorem mi_in {W H i : Int} (hs : Sz W H) (h0 : 0 ≤ i) (h1 : i < W * H) : 0 ≤ mi W i ∧ mi W i < W * H ∧ mi W i / W = i / W ∧ mi W i % W = W - 1 - i % W ∧ mi W (mi W i) = i := by
  have hr := hs.row h0 h1
  have q := xy_idx (W := W) (H := H) (x := W - 1 - i % W) (y := i / W) (by omega) (by omega) hr.2.2.1 hr.2.2.2
  have w := idx_w (x := W - 1 - i % W) (y := i / W) hs (by omega) (by omega) hr.2.2.1 hr.2.2.2
  have hxy := xy_of W i
  have e1 : mi W i / W = i / W := w.2.2.2.2
  have e2 : mi W i % W = W - 1 - i % W := w.2.2.2.1
  refine ⟨q.1, q.2, e1, e2, ?_⟩
  unfold mi at e1 e2 ⊢
  rw [e1, e2]; omega
def mirL (W : Int) (l : List Int) : List Int := tab (fun i => at_ l (mi W i)) l.length 0
theorem mirL_len (W : Int) (l : List Int) : (mirL W l).length = l.length := tab_length _ _ _
theorem mirL_at {W : Int} {l : List Int} {i : Int} (h0 : 0 ≤ i) (h : i < l.length) : at_ (mirL W l) i = at_ l (mi W i) := tab_val _ h0 h
theorem mirpl_s {W H : Int} {l : List Int} (hs : Sz W H) (hl : (l.length : Int) = W * H) (p : List Int) (d : Nat) : ∀ (k : Nat) (i : Int) (M : List Int), 0 ≤ i → (M.length : Int) = W * H → W * H - i = d → d < k →
    ∃ R, spec_MirrorPicture.l0 k l l.length i W H p W H M = some (W, H, R) ∧ (R.length : Int) = W * H ∧ ∀ j, 0 ≤ j → j < W * H → at_ R j = if mi W j < i then at_ M j else at_ l (mi W j) := by
  have ha := hs.area
  induction d with
  | zero =>
    intro k i M i0 hM hd hk
    obtain ⟨k, rfl⟩ : ∃ m, k = m + 1 := ⟨k - 1, by omega⟩
    rw [spec_MirrorPicture.l0, if_neg (by omega)]
    refine ⟨M, rfl, hM, fun j j0 j1 => ?_⟩
    have := (mi_in hs j0 j1).2.1; rw [if_pos (by omega)]
  | succ d ih =>
    intro k i M i0 hM hd hk
    obtain ⟨k, rfl⟩ : ∃ m, k = m + 1 := ⟨k - 1, by omega⟩
    have hr := hs.row i0 (by omega)
    have hW := hs.1; have hW2 := hs.2.1; have hH2 := hs.2.2.2.1
    have hm := mi_in hs i0 (show i < W * H by omega)
    have hx : wrap64 (wrap64 (wrap64 (wrap64 (wrap64 (Int.tdiv i W) * W) + W) - 1) - Int.tmod i W) = mi W i := by
      have hxy := xy_of W i
      rw [tdiv_pos i0, tmod_pos i0, w64 (x := i / W) (by omega) (by omega), w64 (x := i / W * W) (by omega) (by omega), w64 (x := i / W * W + W) (by omega) (by omega), w64 (x := i / W * W + W - 1) (by omega) (by omega), w64 (by omega) (by omega)]
      unfold mi; omega
    rw [spec_MirrorPicture.l0, if_pos (by omega), if_pos i0, if_pos (by omega), if_neg (by omega), hx, if_pos hm.1, if_pos (by omega), w64 (x := i + 1) (by omega) (by omega), rd_at]
    obtain ⟨R, h1, h2, h3⟩ := ih k (i + 1) (M.set (mi W i).toNat (at_ l i)) (by omega) (by rw [List.length_set]; exact hM) (by omega) (by omega)
    refine ⟨R, h1, h2, fun j j0 j1 => ?_⟩
    have hj := mi_in hs j0 j1
    rw [h3 j j0 j1]
    by_cases c : mi W j < i
    · rw [if_pos (by omega), if_pos c, at_set hm.1 (by omega) j0, if_neg (fun e => by have := hj.2.2.2.2; rw [e, hm.2.2.2.2] at c; omega)]
    · rw [if_neg c]
      by_cases c2 : mi W j = i
      · rw [if_pos (by omega), at_set hm.1 (by omega) j0, if_pos (by rw [← c2]; exact hj.2.2.2.2.symm), c2]
      · rw [if_neg (by omega)]
theorem mirp_s {W H : Int} {l : List Int} (hu : Up W H l 255) {k : Nat} (hk : 1200000 ≤ k) : spec_MirrorPicture.f k W H l = some (W, H, mirL W l) := by
  have ha := hu.1.area; have hl := hu.2.1
  unfold spec_MirrorPicture.f
  rw [pict_s (by omega) (by omega), Option.bind_some, if_pos (decide_eq_true hu), empty_s hu.1, Option.bind_some]
  obtain ⟨R, h1, h2, h3⟩ := mirpl_s hu.1 hl l (W * H).toNat k 0 (List.replicate (W * H).toNat 0) (by omega) (by rw [List.length_replicate]; omega) (by omega) (by omega)
  refine h1.trans ?_
  congr 3
  refine list_ext (by rw [mirL_len]; omega) fun j j0 j1 => ?_
  have hj := mi_in hu.1 j0 (by omega)
  rw [h3 j j0 (by omega), if_neg (by omega), mirL_at j0 (by omega)]
theorem ints_l (l : List Int) (hl : l.length ≤ 1048576) (d : Nat) : ∀ (k : Nat) (j : Int), 0 ≤ j → j ≤ l.length → (l.length : Int) - j = d → d < k → laws_ints.l0 k l l l.length j = some true := by
  induction d with
  | zero =>
    intro k j j0 j1 hd hk
    obtain ⟨k, rfl⟩ : ∃ m, k = m + 1 := ⟨k - 1, by omega⟩
    rw [laws_ints.l0, if_neg (by omega)]
  | succ d ih =>
    intro k j j0 j1 hd hk
    obtain ⟨k, rfl⟩ : ∃ m, k = m + 1 := ⟨k - 1, by omega⟩
    rw [laws_ints.l0, if_pos (by omega), if_pos j0, if_pos (by omega), if_pos (by omega), if_pos rfl, w64 (by omega) (by omega)]
    exact ih k (j + 1) (by omega) (by omega) (by omega) (by omega)
theorem ints_c (l : List Int) (hl : l.length ≤ 1048576) {k : Nat} (hk : 1100000 ≤ k) : laws_ints.f k l l = some true := by
  unfold laws_ints.f; rw [if_pos rfl, ints_l l hl l.length k 0 (by omega) (by omega) (by omega) (by omega)]
theorem same_c (a b : Int) (l : List Int) (hl : l.length ≤ 1048576) {k : Nat} (hk : 1100000 ≤ k) : laws_same.f k a b l a b l = some true := by
  unfold laws_same.f; rw [if_pos rfl, if_pos rfl, ints_c l hl hk]; rfl
-- nothing on impl_MirrorPicture_1
-- nothing on impl_MirrorPicture_1.drawn
theorem mirp_i {W H : Int} {l : List Int} (hu : Up W H l 255) : impl_MirrorPicture.f W H l = some (W, H, mirL W l) := by
  have ha := hu.1.area; have hl := hu.2.1
  have hW := hu.1.1; have hW2 := hu.1.2.1; have hH2 := hu.1.2.2.2.1
  unfold impl_MirrorPicture.f impl_MirrorPicture_1.drawn.f
  rw [pict_i (by omega), Option.bind_some, if_pos (decide_eq_true hu)]
  rw [drawn_some (AT := fun x y => impl_MirrorPicture_1.f x y W H l) (F := fun i => at_ l (mi W i)) hu.1 (fun x y x0 x1 y0 y1 => by
    have w := idx_w hu.1 x0 x1 y0 y1
    have hm := mi_in hu.1 w.2.1 w.2.2.1
    have hx : wrap64 (wrap64 (wrap64 (wrap64 (y * W) + W) - 1) - x) = mi W (y * W + x) := by
      have p := mul_bd (c := 64) (d := 64) y0 (by omega) (show 0 ≤ W by omega) hW2
      rw [w64 (x := y * W) (by omega) (by omega), w64 (x := y * W + W) (by omega) (by omega), w64 (x := y * W + W - 1) (by omega) (by omega), w64 (by omega) (by omega)]
      unfold mi; rw [w.2.2.2.1, w.2.2.2.2]; omega
    unfold impl_MirrorPicture_1.f
    rw [hx, if_pos hm.1, if_pos (by omega), rd_at]), Option.bind_some]
  show some (W, H, tab (fun i => at_ l (mi W i)) (W * H).toNat 0) = _
  rw [show (W * H).toNat = l.length by omega]; rfl
-- nothing on impl_SteinKernel
/-- an elementary step: an amount put on a value, or on what is lost (place -1) -/
def el (st : List Int × Int) (o : Int × Int) : List Int × Int := if o.1 < 0 then (st.1, wrap64 (st.2 + o.2)) else (st.1.set o.1.toNat (wrap64 (at_ st.1 o.1 + o.2)), st.2)
theorem wr2 (a s t : Int) : wrap64 (wrap64 (a + s) + t) = wrap64 (wrap64 (a + t) + s) := by unfold wrap64; omega
theorem at_set_far {l : List Int} {i j v : Int} (i0 : 0 ≤ i) (j0 : 0 ≤ j) (h : j ≠ i) : at_ (l.set i.toNat v) j = at_ l j := by
  unfold at_; rw [List.getD_eq_getElem?_getD, List.getD_eq_getElem?_getD, List.getElem?_set_ne (by omega)]
theorem el_comm (st : List Int × Int) (o p : Int × Int) : el (el st o) p = el (el st p) o := by
  obtain ⟨V, L⟩ := st
  unfold el
  by_cases h1 : o.1 < 0
  · by_cases h2 : p.1 < 0
    · simp only [if_pos h1, if_pos h2, wr2 L o.2 p.2]
    · simp only [if_pos h1, if_neg h2]
  · by_cases h2 : p.1 < 0
    · simp only [if_neg h1, if_pos h2]
    · simp only [if_neg h1, if_neg h2]
      by_cases e : o.1 = p.1
      · rw [e]
        by_cases hl : p.1 < V.length
        · rw [at_set (by omega) hl (by omega), at_set (by omega) hl (by omega), if_pos rfl, if_pos rfl, wr2, List.set_set, List.set_set]
        · have hV : ∀ v : Int, V.set p.1.toNat v = V := fun v => List.set_eq_of_length_le (by omega)
          simp only [hV]
      · rw [at_set_far (by omega) (by omega) (fun h => e h.symm), at_set_far (by omega) (by omega) e, List.set_comm _ _ (by omega)]
theorem el_len (st : List Int × Int) (o : Int × Int) : (el st o).1.length = st.1.length := by unfold el; split <;> simp
theorem els_len : ∀ (os : List (Int × Int)) (st : List Int × Int), (os.foldl el st).1.length = st.1.length := by
  intro os
  induction os with
  | nil => intro st; rfl
  | cons o t ih => intro st; rw [List.foldl_cons, ih, el_len]
/-- the steps that a cell's shares make -/
def spO (W H x y : Int) : List S60 → List Int → List (Int × Int)
  | a :: t, s :: u => (if x + a.f0 < 0 ∨ W ≤ x + a.f0 ∨ H ≤ y + a.f1 then (-1 : Int) else (y + a.f1) * W + (x + a.f0), s) :: spO W H x y t u
  | _, _ => []
theorem spread_el {W H x y : Int} (hW : 1 ≤ W) (y0 : 0 ≤ y) : ∀ (t : List S60) (u V : List Int) (L : Int), (∀ a ∈ t, 1 ≤ a.f1) → spread W H 1 x y t u V L = (spO W H x y t u).foldl el (V, L) := by
  intro t
  induction t with
  | nil => intro u V L _; rfl
  | cons a t ih =>
    intro u V L hd
    cases u with
    | nil => rfl
    | cons s u =>
      have ha := hd a (List.mem_cons_self ..)
      have ht : ∀ b ∈ t, 1 ≤ b.f1 := fun b hb => hd b (List.mem_cons_of_mem _ hb)
      rw [spread, spO, List.foldl_cons, Int.one_mul]
      by_cases c : x + a.f0 < 0 ∨ W ≤ x + a.f0 ∨ H ≤ y + a.f1
      · rw [if_pos c, if_pos c, ih u V _ ht]; unfold el; rw [if_pos (by show (-1 : Int) < 0; omega)]
      · have q := xy_idx (W := W) (H := H) (x := x + a.f0) (y := y + a.f1) (by omega) (by omega) (by omega) (by omega)
        rw [if_neg c, if_neg c, ih u _ L ht]; unfold el; rw [if_neg (by show ¬ (_ : Int) < 0; omega)]
theorem spO_in {W H x y : Int} (hW : 1 ≤ W) (y0 : 0 ≤ y) : ∀ (t : List S60) (u : List Int), (∀ a ∈ t, 1 ≤ a.f1) → ∀ o ∈ spO W H x y t u, o.1 = -1 ∨ (y + 1) * W ≤ o.1 ∧ o.1 < W * H := by
  intro t
  induction t with
  | nil => intro u _ o ho; cases ho
  | cons a t ih =>
    intro u hd o ho
    cases u with
    | nil => cases ho
    | cons s u =>
      have ha := hd a (List.mem_cons_self ..)
      rw [spO] at ho
      rcases List.mem_cons.mp ho with e | e
      · rw [e]
        by_cases c : x + a.f0 < 0 ∨ W ≤ x + a.f0 ∨ H ≤ y + a.f1
        · rw [if_pos c]; exact .inl rfl
        · have q := xy_idx (W := W) (H := H) (x := x + a.f0) (y := y + a.f1) (by omega) (by omega) (by omega) (by omega)
          have m : (y + 1) * W ≤ (y + a.f1) * W := Int.mul_le_mul_of_nonneg_right (by omega) (by omega)
          rw [if_neg c]; exact .inr ⟨by show (y + 1) * W ≤ (y + a.f1) * W + (x + a.f0); omega, q.2⟩
      · exact ih u (fun b hb => hd b (List.mem_cons_of_mem _ hb)) o e
/-- the values and what is lost behind the first so many cells -/
def cS (K : List S60) (W H : Int) (l : List Int) : Nat → List Int × Int
  | 0 => (l, 0)
  | i + 1 => spread W H 1 ((i : Int) % W) ((i : Int) / W) K (kShares K (errF (at_ (cS K W H l i).1 i))) (cS K W H l i).1 (cS K W H l i).2
theorem cS_len (K : List S60) (W H : Int) (l : List Int) : ∀ i, (cS K W H l i).1.length = l.length := by
  intro i
  induction i with
  | zero => rfl
  | succ i ih => rw [cS, spread_len, ih]
theorem difF_cS {K : List S60} {W H : Int} {l : List Int} (hs : Sz W H) (d : Nat) : ∀ (i : Nat) (D E : List Int), (i : Int) + d = W * H → (D.length : Int) = W * H →
    (difF K W H false d i (cS K W H l i).1 D E (cS K W H l i).2).2.2 = (cS K W H l (W * H).toNat).2 ∧
    ∀ j : Nat, (j : Int) < W * H → at_ (difF K W H false d i (cS K W H l i).1 D E (cS K W H l i).2).1 j = if j < i then at_ D j else if at_ (cS K W H l j).1 j ≥ 128 then 1 else at_ D j := by
  induction d with
  | zero =>
    intro i D E hi hD
    refine ⟨by rw [difF, show (W * H).toNat = i by omega], fun j hj => ?_⟩
    rw [difF, if_pos (by omega)]
  | succ d ih =>
    intro i D E hi hD
    have e1 : colF W false (i : Int) = (i : Int) % W := by unfold colF; rw [if_neg (by simp)]
    have e2 : wayF false ((i : Int) / W) = 1 := by unfold wayF; rw [if_neg (by simp)]
    rw [difF, e1, e2, xy_of]
    have := ih (i + 1) (if at_ (cS K W H l i).1 i ≥ 128 then D.set (i : Int).toNat 1 else D) (E.set (i : Int).toNat (errF (at_ (cS K W H l i).1 i))) (by omega) (by split <;> simp [hD])
    rw [cS, show ((i + 1 : Nat) : Int) = (i : Int) + 1 by omega] at this
    refine ⟨this.1, fun j hj => ?_⟩
    rw [this.2 j hj]
    by_cases c : at_ (cS K W H l i).1 i ≥ 128
    · rw [if_pos c]
      by_cases h1 : j < i
      · rw [if_pos (by omega), if_pos h1, at_set_far (by omega) (by omega) (by omega)]
      · by_cases h2 : j = i
        · subst h2; rw [if_pos (by omega), if_neg (by omega), if_pos c, at_set (by omega) (by omega) (by omega), if_pos rfl]
        · rw [if_neg (by omega), if_neg h1, at_set_far (by omega) (by omega) (by omega)]
    · rw [if_neg c]
      by_cases h1 : j < i
      · rw [if_pos (by omega), if_pos h1]
      · by_cases h2 : j = i
        · subst h2; rw [if_pos (by omega), if_neg (by omega), if_neg c]
        · rw [if_neg (by omega), if_neg h1]
/-- the steps of the first n cells of a row, the row's values given -/
def rowO (K : List S60) (W H : Int) (V : List Int) (y : Int) (n : Nat) : List (Int × Int) := (List.range n).flatMap fun x : Nat => spO W H x y K (kShares K (errF (at_ V (y * W + x))))
theorem els_far {l : Int} : ∀ (os : List (Int × Int)) (st : List Int × Int) (j : Int), 0 ≤ j → j < l → (∀ o ∈ os, o.1 = -1 ∨ 0 ≤ o.1 ∧ l ≤ o.1) → at_ (os.foldl el st).1 j = at_ st.1 j := by
  intro os
  induction os with
  | nil => intro st j _ _ _; rfl
  | cons o t ih =>
    intro st j j0 j1 h
    rw [List.foldl_cons, ih _ j j0 j1 (fun p hp => h p (List.mem_cons_of_mem _ hp))]
    have ho := h o (List.mem_cons_self ..)
    unfold el
    by_cases c : o.1 < 0
    · rw [if_pos c]
    · rw [if_neg c]; exact at_set_far (by omega) j0 (by omega)
theorem rowO_in {K : List S60} (hd : ∀ a ∈ K, 1 ≤ a.f1) {W H y : Int} (hW : 1 ≤ W) (y0 : 0 ≤ y) (V : List Int) (n : Nat) : ∀ o ∈ rowO K W H V y n, o.1 = -1 ∨ (y + 1) * W ≤ o.1 ∧ o.1 < W * H := by
  intro o ho
  obtain ⟨x, _, hx⟩ := List.mem_flatMap.mp ho
  exact spO_in hW y0 K _ hd o hx
theorem cS_row {K : List S60} (hd : ∀ a ∈ K, 1 ≤ a.f1) {W H y : Nat} {l : List Int} (hW : 1 ≤ W) (n : Nat) : n ≤ W → cS K W H l (y * W + n) = (rowO K W H (cS K W H l (y * W)).1 y n).foldl el (cS K W H l (y * W)) := by
  have hW' : (1 : Int) ≤ W := by omega
  induction n with
  | zero => intro _; rfl
  | succ n ih =>
    intro hn
    have h1 := ih (by omega)
    have e1 : ((y * W + n : Nat) : Int) % W = n := by rw [show ((y * W + n : Nat) : Int) = (n : Int) + (y : Int) * W by rw [Int.natCast_add, Int.natCast_mul]; omega, Int.add_mul_emod_self_right, Int.emod_eq_of_lt (by omega) (by omega)]
    have e2 : ((y * W + n : Nat) : Int) / W = y := by rw [show ((y * W + n : Nat) : Int) = (n : Int) + (y : Int) * W by rw [Int.natCast_add, Int.natCast_mul]; omega, Int.add_mul_ediv_right _ _ (by omega), Int.ediv_eq_zero_of_lt (by omega) (by omega), Int.zero_add]
    have e3 : ((y * W + n : Nat) : Int) = (y : Int) * W + n := by rw [Int.natCast_add, Int.natCast_mul]
    have e4 : ((y : Int) + 1) * W = (y : Int) * W + W := by rw [Int.add_mul, Int.one_mul]
    have hf : at_ (cS K W H l (y * W + n)).1 ((y : Int) * W + n) = at_ (cS K W H l (y * W)).1 ((y : Int) * W + n) := by
      have p : 0 ≤ (y : Int) * W := by rw [← Int.natCast_mul]; omega
      rw [h1]
      exact els_far (l := ((y : Int) + 1) * W) _ _ _ (by omega) (by omega) (fun o ho => by have := rowO_in hd hW' (show (0 : Int) ≤ y by omega) _ n o ho; omega)
    rw [← Nat.add_assoc, cS, e1, e2, e3, hf, spread_el hW' (by omega) K _ _ _ hd]
    unfold rowO at h1 ⊢
    rw [List.range_succ, List.flatMap_append, List.foldl_append, ← h1]
    simp only [List.flatMap_cons, List.flatMap_nil, List.append_nil]
def mo (W : Int) (o : Int × Int) : Int × Int := (if o.1 < 0 then -1 else mi W o.1, o.2)
theorem mirL_set {W H : Int} {V : List Int} (hs : Sz W H) (hV : (V.length : Int) = W * H) {i v : Int} (i0 : 0 ≤ i) (i1 : i < W * H) : mirL W (V.set i.toNat v) = (mirL W V).set (mi W i).toNat v := by
  have hi := mi_in hs i0 i1
  refine list_ext (by rw [mirL_len, List.length_set, List.length_set, mirL_len]) fun j j0 j1 => ?_
  rw [mirL_len, List.length_set] at j1
  have hj := mi_in hs j0 (show j < W * H by omega)
  rw [mirL_at j0 (by rw [List.length_set]; exact j1), at_set i0 (by omega) hj.1, at_set hi.1 (by rw [mirL_len]; omega) j0, mirL_at j0 j1]
  by_cases c : mi W j = i
  · rw [if_pos c, if_pos (by rw [← c]; exact hj.2.2.2.2.symm)]
  · rw [if_neg c, if_neg (fun e => c (by rw [e]; exact hi.2.2.2.2))]
theorem el_mir {W H : Int} (hs : Sz W H) {st : List Int × Int} (hV : (st.1.length : Int) = W * H) {o : Int × Int} (ho : o.1 = -1 ∨ 0 ≤ o.1 ∧ o.1 < W * H) : el (mirL W st.1, st.2) (mo W o) = (mirL W (el st o).1, (el st o).2) := by
  unfold el mo
  by_cases c : o.1 < 0
  · simp only [if_pos c]; rw [if_pos (by omega)]
  · have hi := mi_in hs (show 0 ≤ o.1 by omega) (show o.1 < W * H by omega)
    simp only [if_neg c]
    rw [if_neg (by omega), mirL_set hs hV (by omega) (by omega), mirL_at hi.1 (by omega), hi.2.2.2.2]
theorem els_mir {W H : Int} (hs : Sz W H) : ∀ (os : List (Int × Int)) (st : List Int × Int), (st.1.length : Int) = W * H → (∀ o ∈ os, o.1 = -1 ∨ 0 ≤ o.1 ∧ o.1 < W * H) → (os.map (mo W)).foldl el (mirL W st.1, st.2) = (mirL W (os.foldl el st).1, (os.foldl el st).2) := by
  intro os
  induction os with
  | nil => intro st _ _; rfl
  | cons o t ih =>
    intro st hV h
    rw [List.map_cons, List.foldl_cons, List.foldl_cons, el_mir hs hV (h o (List.mem_cons_self ..))]
    exact ih (el st o) (by rw [el_len]; exact hV) (fun p hp => h p (List.mem_cons_of_mem _ hp))
theorem spO_mir {W H x y : Int} (hs : Sz W H) (x0 : 0 ≤ x) (x1 : x < W) (y0 : 0 ≤ y) : ∀ (t : List S60) (u : List Int), (∀ a ∈ t, 1 ≤ a.f1) → spO W H (W - 1 - x) y (t.map mirK) u = (spO W H x y t u).map (mo W) := by
  intro t
  induction t with
  | nil => intro u _; rfl
  | cons a t ih =>
    intro u hd
    cases u with
    | nil => rfl
    | cons s u =>
      have ha := hd a (List.mem_cons_self ..)
      rw [List.map_cons, spO, spO, List.map_cons, ih u (fun b hb => hd b (List.mem_cons_of_mem _ hb))]
      congr 1
      unfold mo mirK
      by_cases c : x + a.f0 < 0 ∨ W ≤ x + a.f0 ∨ H ≤ y + a.f1
      · simp only [if_pos c]; rw [if_pos (by omega), if_pos (by omega)]
      · have w := idx_w (x := x + a.f0) (y := y + a.f1) hs (by omega) (by omega) (by omega) (by omega)
        simp only [if_neg c]; rw [if_neg (by omega), if_neg (by omega)]
        unfold mi; rw [w.2.2.2.1, w.2.2.2.2]; congr 1; omega
theorem rev_range (n : Nat) : (List.range n).reverse = (List.range n).map fun x => n - 1 - x := by
  refine List.ext_getElem (by simp) fun i h1 h2 => ?_
  simp at h1 h2 ⊢
theorem mapF {α β γ : Type} (f : α → List β) (g : β → γ) : ∀ l : List α, (l.flatMap f).map g = l.flatMap fun x => (f x).map g := by
  intro l
  induction l with
  | nil => rfl
  | cons a t ih => rw [List.flatMap_cons, List.map_append, ih, List.flatMap_cons]
theorem cS_mir {K : List S60} (hd : ∀ a ∈ K, 1 ≤ a.f1) {W H : Nat} {l : List Int} (hs : Sz W H) (hl : (l.length : Int) = (W : Int) * H) (y : Nat) : y ≤ H → cS (K.map mirK) W H (mirL W l) (y * W) = (mirL W (cS K W H l (y * W)).1, (cS K W H l (y * W)).2) := by
  have hW : 1 ≤ W := by have := hs.1; omega
  induction y with
  | zero => intro _; rw [Nat.zero_mul]; rfl
  | succ y ih =>
    intro hy
    have h1 := ih (by omega)
    have hlen : ((cS K W H l (y * W)).1.length : Int) = (W : Int) * H := by rw [cS_len]; exact hl
    have hd2 : ∀ a ∈ K.map mirK, 1 ≤ a.f1 := fun a ha => by obtain ⟨b, hb, rfl⟩ := List.mem_map.mp ha; exact hd b hb
    rw [Nat.succ_mul, cS_row hd hW W (Nat.le_refl _), cS_row hd2 hW W (Nat.le_refl _), h1]
    generalize hst : cS K W H l (y * W) = st at hlen
    have hin : ∀ o ∈ rowO K W H st.1 y W, o.1 = -1 ∨ 0 ≤ o.1 ∧ o.1 < (W : Int) * H := fun o ho => by
      have := rowO_in hd (show (1 : Int) ≤ W by omega) (show (0 : Int) ≤ y by omega) _ _ o ho
      have p : 0 ≤ ((y : Int) + 1) * W := Int.mul_nonneg (by omega) (by omega)
      omega
    rw [← els_mir hs (rowO K W H st.1 y W) st hlen hin]
    have eqv : rowO (K.map mirK) W H (mirL W st.1) y W = ((List.range W).reverse.flatMap fun x : Nat => (spO W H x y K (kShares K (errF (at_ st.1 ((y : Int) * W + x))))).map (mo W)) := by
      unfold rowO
      rw [rev_range, List.flatMap_map]
      refine congrArg List.flatten (List.map_congr_left fun x hx => ?_)
      have hx := List.mem_range.mp hx
      have w := idx_w (W := (W : Int)) (H := (H : Int)) (x := (x : Int)) (y := (y : Int)) hs (by omega) (by omega) (by omega) (by omega)
      have e0 : (((W - 1 - x : Nat)) : Int) = (W : Int) - 1 - x := by omega
      have e1 : at_ (mirL W st.1) ((y : Int) * W + x) = at_ st.1 ((y : Int) * W + ((W - 1 - x : Nat) : Int)) := by
        rw [mirL_at w.2.1 (by omega), e0]; unfold mi; rw [w.2.2.2.1, w.2.2.2.2]
      rw [e1, mirk_shares, ← spO_mir hs (by omega) (by omega) (by omega) K _ hd, e0, show (W : Int) - 1 - ((W : Int) - 1 - x) = x by omega]
    rw [eqv]
    refine List.Perm.foldl_eq' ?_ (fun a _ b _ z => el_comm z a b) _
    unfold rowO
    rw [mapF]
    exact (List.reverse_perm _).flatMap_right _
theorem dif_mir {K : List S60} (h : Down K) {W H : Int} {l : List Int} (hs : Sz W H) (hl : (l.length : Int) = W * H) : (dif (K.map mirK) W H (mirL W l) false).1 = mirL W (dif K W H l false).1 ∧ (dif (K.map mirK) W H (mirL W l) false).2.2 = (dif K W H l false).2.2 := by
  have ha := hs.area; have hW := hs.1; have hH := hs.2.2.1
  obtain ⟨w, rfl⟩ : ∃ w : Nat, W = w := ⟨W.toNat, by omega⟩
  obtain ⟨g, rfl⟩ : ∃ g : Nat, H = g := ⟨H.toNat, by omega⟩
  have hd2 : ∀ a ∈ K.map mirK, 1 ≤ a.f1 := h.mir.2
  have rl : ((List.replicate l.length (0 : Int)).length : Int) = (w : Int) * g := by rw [List.length_replicate]; exact hl
  have A := difF_cS (K := K) (l := l) hs l.length 0 (List.replicate l.length 0) (List.replicate l.length 0) (by omega) rl
  have B := difF_cS (K := K.map mirK) (l := mirL w l) hs l.length 0 (List.replicate l.length 0) (List.replicate l.length 0) (by omega) rl
  have z : ∀ j : Nat, at_ (List.replicate l.length (0 : Int)) (j : Int) = 0 := by
    intro j; unfold at_; rw [List.getD_eq_getElem?_getD, List.getElem?_replicate]; split <;> rfl
  have row : ∀ (Q : List S60) (r : List Int), (∀ a ∈ Q, 1 ≤ a.f1) → ∀ j : Nat, at_ (cS Q w g r j).1 j = at_ (cS Q w g r (j / w * w)).1 j := by
    intro Q r hq j
    have hw1 : 1 ≤ w := by omega
    have hm : j / w * w + j % w = j := by rw [Nat.mul_comm]; exact Nat.div_add_mod j w
    have hlt : j % w < w := Nat.mod_lt _ hw1
    have e := cS_row (H := g) (y := j / w) (l := r) hq hw1 (j % w) (by omega)
    rw [hm] at e
    rw [e]
    have p : ((j / w : Nat) : Int) * w + ((j % w : Nat) : Int) = j := by rw [← Int.natCast_mul, ← Int.natCast_add, hm]
    have p2 : (((j / w : Nat) : Int) + 1) * w = ((j / w : Nat) : Int) * w + w := by rw [Int.add_mul, Int.one_mul]
    have p3 : (0 : Int) ≤ ((j / w : Nat) : Int) * w := by rw [← Int.natCast_mul]; omega
    exact els_far (l := (((j / w : Nat) : Int) + 1) * w) _ _ _ (by omega) (by omega) (fun o ho => by have := rowO_in hq (show (1 : Int) ≤ w by omega) (Int.natCast_nonneg (j / w)) _ _ o ho; omega)
  have ml : (mirL w l).length = l.length := mirL_len _ _
  have eA : dif K w g l false = difF K w g false l.length 0 l (List.replicate l.length 0) (List.replicate l.length 0) 0 := rfl
  have eB : dif (K.map mirK) w g (mirL w l) false = difF (K.map mirK) w g false l.length 0 (mirL w l) (List.replicate l.length 0) (List.replicate l.length 0) 0 := by unfold dif; rw [ml]
  have hN : ((w : Int) * g).toNat = g * w := by rw [← Int.natCast_mul, Int.toNat_natCast, Nat.mul_comm]
  refine ⟨?_, ?_⟩
  · refine list_ext (by rw [mirL_len, (dif_len _ _ _ _ _).1, (dif_len _ _ _ _ _).1, ml]) fun j j0 j1 => ?_
    rw [(dif_len _ _ _ _ _).1, ml] at j1
    have hj := mi_in hs j0 (show j < (w : Int) * g by omega)
    rw [mirL_at j0 (by rw [(dif_len _ _ _ _ _).1]; exact j1)]
    obtain ⟨n, rfl⟩ : ∃ n : Nat, j = n := ⟨j.toNat, by omega⟩
    obtain ⟨m, hm⟩ : ∃ m : Nat, mi w n = m := ⟨(mi w n).toNat, by omega⟩
    rw [hm] at hj ⊢
    have b := B.2 n (by omega); have a := A.2 m (by omega)
    rw [if_neg (by omega), z] at a b
    rw [eA, eB]
    refine b.trans (Eq.trans ?_ a.symm)
    have k1 : n / w = m / w := by have := hj.2.2.1; rw [← Int.natCast_ediv, ← Int.natCast_ediv] at this; omega
    have hyl : n / w ≤ g := by
      have : n / w < g := Nat.div_lt_of_lt_mul (by have h0 : (n : Int) < (w : Int) * g := by omega
                                                   rw [← Int.natCast_mul] at h0; omega)
      omega
    rw [row _ _ hd2 n, row _ _ h.2 m, cS_mir h.2 hs hl (n / w) hyl, mirL_at (by omega) (by rw [cS_len]; exact j1), hm, k1]
  · rw [eA, eB]
    refine B.1.trans (Eq.trans ?_ A.1.symm)
    rw [hN, cS_mir h.2 hs hl g (Nat.le_refl _)]
theorem mirL_up {W H : Int} {l : List Int} {m : Int} (hu : Up W H l m) : Up W H (mirL W l) m :=
  ⟨hu.1, by rw [mirL_len]; exact hu.2.1, fun v hv => by
    obtain ⟨i, hi, rfl⟩ := List.mem_iff_getElem.mp hv
    rw [mirL_len] at hi
    have h := hu.2.1
    have q := mi_in hu.1 (show (0 : Int) ≤ i by omega) (show (i : Int) < W * H by omega)
    rw [← at_nat _ i (by rw [mirL_len]; exact hi), mirL_at (by omega) (by omega)]
    exact hu.2.2 _ (at_mem q.1 (by omega))⟩
theorem pure_FnMirrored (l0 : List Int) (h0 : l0.length ≤ maxLen) (hl : l0.length * 1 ≤ 140737488351232) (hw : ∀ x ∈ l0, (Lit.int .u8 x).wf = true) : ∃ k, laws_FnMirrored.f k l0 = some true := by
  obtain ⟨m, hm⟩ : ∃ m : Nat, 4000000 ≤ m := ⟨4000000, Nat.le_refl _⟩
  refine ⟨m + 8, ?_⟩
  unfold laws_FnMirrored.f
  by_cases h : (l0.length : Int) > 1048576
  · rw [if_pos h]
  · rw [if_neg h]
    obtain ⟨K, eK, hK⟩ := down_c l0 (by omega) (k := m + 8) (by omega)
    obtain ⟨ys, ey, hy⟩ := fresh_c l0 3 (k := m + 7) (by omega)
    obtain ⟨W, H, l, ep, hW, hH, hu⟩ := pict_c ys (by omega) 8 (by omega) (by omega) (k := m + 7) (by omega)
    have ha := hu.1.area; have hln := hu.2.1; have hk12 := hK.1.2.1; have hM := hK.mir
    have hm12 : (K.map mirK).length ≤ 1048576 := by rw [List.length_map]; omega
    rw [eK, Option.bind_some, mirk_i hK (by omega), Option.bind_some]; simp only
    rw [if_pos trivial, ker_i hm12 (by omega), Option.bind_some, if_pos (decide_eq_true hM.1), if_pos (by rw [List.length_map]), wto_i hM.1 (by omega), Option.bind_some, wto_i hK.1 (by omega), Option.bind_some, mirk_wt, bne_self_eq_false, laws_FnMirrored.j0, if_neg (by decide), ey, Option.bind_some, ep]
    simp only [Option.bind_some]
    have hmu := mirL_up hu
    have KD : ∀ {Q : List S60} {p : List Int}, Ker Q → Up W H p 255 → kDif Q W H p false = (W, H, (dif Q W H p false).1, (dif Q W H p false).2.2, true) := fun hQ hp => by unfold kDif; rw [if_pos ⟨hQ, hp⟩]
    rw [difp_i (by omega) false (by omega) (by omega), Option.bind_some, KD hK.1 hu, mirp_s hu (by omega), Option.bind_some]
    simp only
    rw [difp_i hm12 false (by rw [mirL_len]; omega) (by omega), Option.bind_some, KD hM.1 hmu]
    simp only
    have dm := dif_mir hK hu.1 hln
    have hd := up_wide (dif_up (K := K) false hu)
    rw [if_pos trivial, if_pos trivial, mirp_i hd, Option.bind_some]
    simp only
    rw [dm.1, dm.2, same_c _ _ _ (by rw [mirL_len, (dif_len K W H l false).1]; omega) (by omega), Option.bind_some, if_pos rfl, bne_self_eq_false, laws_FnMirrored.j1, if_neg (by decide)]
    unfold impl_SteinKernel.f
    rw [Option.bind_some]
    unfold impl_MirrorKernel.f
    rw [mirkl_i _ (by decide) (by decide) 4 _ [] 0 (by decide) (by decide) (by decide) rfl (by omega), if_neg (by decide)]; rfl

end Go.Proofs.Ytnohdgbfgdnpfaa.PFnMirrored
