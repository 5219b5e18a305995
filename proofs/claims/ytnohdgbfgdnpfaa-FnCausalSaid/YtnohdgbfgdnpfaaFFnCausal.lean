/- What the functions that laws.FnCausal reaches compute, and that the law is true: over numbers alone. -/
import Derived.Test.YtnohdgbfgdnpfaaPFnCausalx
import Derived.Test.YtnohdgbfgdnpfaaPic2
import Derived.Laws.Strings
namespace Go.Proofs.Ytnohdgbfgdnpfaa.PFnCausal
open Go.RowKit Go.Proofs.YtnohdgbfgdnpfaaW.PrintWords Go.Proofs.YtnohdgbfgdnpfaaW.PrintLast Go.Proofs.YtnohdgbfgdnpfaaW.PrintMore
set_option linter.unusedVariables false
set_option linter.unusedSimpArgs false
set_option linter.unusedSimpArgs false
open Pic
theorem w64 {x : Int} (h1 : -9223372036854775808 ≤ x) (h2 : x ≤ 9223372036854775807) : wrap64 x = x := by unfold wrap64; omega
theorem rd_at (l : List Int) (i : Int) : rd l i = at_ l i := rfl
theorem tmod_pos {n x : Int} (h : 0 ≤ x) : Int.tmod x n = x % n := Int.tmod_eq_emod_of_nonneg h
theorem tdiv_pos {n x : Int} (h : 0 ≤ x) : Int.tdiv x n = x / n := Int.tdiv_eq_ediv_of_nonneg h
theorem dec_ff {p : Prop} [Decidable p] (h : ¬ p) : some false = some (decide p) := by rw [decide_eq_false h]
theorem dec_dd {p q : Prop} [Decidable p] [Decidable q] (h : p ↔ q) : some (decide p) = some (decide q) := by rw [decide_eq_decide.mpr h]
theorem rdK_at {l : List S60} {i : Nat} (h : i < l.length) : rd_T60 l (i : Int) = l[i] := by
  show l.getD (i : Int).toNat z60 = _
  rw [Int.toNat_natCast, List.getD_eq_getElem?_getD, List.getElem?_eq_getElem h]; rfl
theorem dropK {l : List S60} {i : Int} (h0 : 0 ≤ i) (h : i < l.length) : l.drop i.toNat = rd_T60 l i :: l.drop (i + 1).toNat := by
  obtain ⟨j, rfl⟩ : ∃ j : Nat, i = j := ⟨i.toNat, by omega⟩
  rw [rdK_at (by omega), show ((j : Int) + 1).toNat = j + 1 by omega, Int.toNat_natCast]
  exact List.drop_eq_getElem_cons (by omega)
theorem takeK {l : List S60} {i : Int} (h0 : 0 ≤ i) (h : i < l.length) : l.take (i + 1).toNat = l.take i.toNat ++ [rd_T60 l i] := by
  obtain ⟨j, rfl⟩ : ∃ j : Nat, i = j := ⟨i.toNat, by omega⟩
  rw [rdK_at (by omega), show ((j : Int) + 1).toNat = j + 1 by omega, Int.toNat_natCast]
  exact List.take_succ_eq_append_getElem (by omega)
theorem memK {l : List S60} {i : Int} (h0 : 0 ≤ i) (h : i < l.length) : rd_T60 l i ∈ l := by
  obtain ⟨j, rfl⟩ : ∃ j : Nat, i = j := ⟨i.toNat, by omega⟩
  rw [rdK_at (by omega)]; exact List.getElem_mem _
def okP (a : S60) : Prop := -4 ≤ a.f0 ∧ a.f0 ≤ 4 ∧ 0 ≤ a.f1 ∧ a.f1 ≤ 4 ∧ ¬ (a.f1 = 0 ∧ a.f0 < 1) ∧ 1 ≤ a.f2 ∧ a.f2 ≤ 100
instance (a : S60) : Decidable (okP a) := by unfold okP; infer_instance
def newB (x y : Int) : List S60 → Bool
  | [] => true
  | b :: t => if x = b.f0 ∧ y = b.f1 then false else newB x y t
def kerB : List S60 → List S60 → Bool
  | [], _ => true
  | a :: t, s => decide (okP a) && newB a.f0 a.f1 s && kerB t (s ++ [a])
def Ker (K : List S60) : Prop := 1 ≤ K.length ∧ K.length ≤ 12 ∧ kerB K [] = true
instance (K : List S60) : Decidable (Ker K) := by unfold Ker; infer_instance
theorem kerB_ok : ∀ (K s : List S60), kerB K s = true → ∀ a ∈ K, okP a := by
  intro K
  induction K with
  | nil => intro s _ a ha; cases ha
  | cons b t ih =>
    intro s h a ha
    simp only [kerB, Bool.and_eq_true, decide_eq_true_eq] at h
    rcases List.mem_cons.mp ha with e | e
    · rw [e]; exact h.1.1
    · exact ih _ h.2 a e
theorem Ker.ok {K : List S60} (h : Ker K) {a : S60} (ha : a ∈ K) : okP a := kerB_ok K [] h.2.2 a ha
def kWt : List S60 → Int
  | [] => 0
  | a :: t => a.f2 + kWt t
theorem kWt_bd : ∀ (K : List S60), (∀ a ∈ K, okP a) → (K.length : Int) ≤ kWt K ∧ kWt K ≤ 100 * K.length := by
  intro K
  induction K with
  | nil => intro _; exact ⟨by simp [kWt], by simp [kWt]⟩
  | cons b t ih =>
    intro h
    have h1 := ih fun a ha => h a (List.mem_cons_of_mem _ ha)
    have h2 := h b (List.mem_cons_self ..); unfold okP at h2
    simp only [kWt, List.length_cons]; omega
theorem Ker.wt {K : List S60} (h : Ker K) : 1 ≤ kWt K ∧ kWt K ≤ 1200 := by
  have := kWt_bd K fun a ha => h.ok ha
  have h1 := h.1; have h2 := h.2.1; omega
def kShr (S v : Int) : Int := wrap64 (Int.tdiv (wrap64 (v - (if Int.tmod v S < 0 then wrap64 (Int.tmod v S + S) else Int.tmod v S))) S)
def shF (S e : Int) : List S60 → List Int → Int → List Int
  | [], o, r => o.set 0 (wrap64 (at_ o 0 + r))
  | a :: t, o, r => shF S e t (o ++ [kShr S (wrap64 (e * a.f2))]) (wrap64 (r - kShr S (wrap64 (e * a.f2))))
def kShares (K : List S60) (e : Int) : List Int := shF (kWt K) e K [] e
theorem shF_len (S e : Int) : ∀ (t : List S60) (o : List Int) (r : Int), (shF S e t o r).length = o.length + t.length := by
  intro t
  induction t with
  | nil => intro o r; simp [shF]
  | cons a t ih => intro o r; rw [shF, ih]; simp only [List.length_append, List.length_cons, List.length_nil]; omega
theorem kShares_len (K : List S60) (e : Int) : (kShares K e).length = K.length := by unfold kShares; rw [shF_len]; simp
def spread (W H way x y : Int) : List S60 → List Int → List Int → Int → List Int × Int
  | a :: t, s :: u, V, L => if x + way * a.f0 < 0 ∨ W ≤ x + way * a.f0 ∨ H ≤ y + a.f1 then spread W H way x y t u V (wrap64 (L + s))
      else spread W H way x y t u (V.set ((y + a.f1) * W + (x + way * a.f0)).toNat (wrap64 (at_ V ((y + a.f1) * W + (x + way * a.f0)) + s))) L
  | _, _, V, L => (V, L)
theorem spread_len (W H way x y : Int) : ∀ (t : List S60) (u V : List Int) (L : Int), (spread W H way x y t u V L).1.length = V.length := by
  intro t
  induction t with
  | nil => intro u V L; rfl
  | cons a t ih =>
    intro u V L
    cases u with
    | nil => rfl
    | cons s u => rw [spread]; split; · exact ih u V _
                  · rw [ih, List.length_set]
def wayF (alt : Bool) (y : Int) : Int := if alt = true ∧ y % 2 = 1 then -1 else 1
def colF (W : Int) (alt : Bool) (i : Int) : Int := if alt = true ∧ (i / W) % 2 = 1 then W - 1 - i % W else i % W
def errF (v : Int) : Int := if v ≥ 128 then wrap64 (v - 255) else v
def difF (K : List S60) (W H : Int) (alt : Bool) : Nat → Int → List Int → List Int → List Int → Int → List Int × List Int × Int
  | 0, _, _, D, E, L => (D, E, L)
  | d + 1, i, V, D, E, L => difF K W H alt d (i + 1)
      (spread W H (wayF alt (i / W)) (colF W alt i) (i / W) K (kShares K (errF (at_ V (i / W * W + colF W alt i)))) V L).1
      (if at_ V (i / W * W + colF W alt i) ≥ 128 then D.set (i / W * W + colF W alt i).toNat 1 else D)
      (E.set (i / W * W + colF W alt i).toNat (errF (at_ V (i / W * W + colF W alt i))))
      (spread W H (wayF alt (i / W)) (colF W alt i) (i / W) K (kShares K (errF (at_ V (i / W * W + colF W alt i)))) V L).2
def dif (K : List S60) (W H : Int) (l : List Int) (alt : Bool) : List Int × List Int × Int := difF K W H alt l.length 0 l (List.replicate l.length 0) (List.replicate l.length 0) 0
theorem difF_len (K : List S60) (W H : Int) (alt : Bool) : ∀ (d : Nat) (i : Int) (V D E : List Int) (L : Int), (difF K W H alt d i V D E L).1.length = D.length ∧ (difF K W H alt d i V D E L).2.1.length = E.length := by
  intro d
  induction d with
  | zero => intro i V D E L; exact ⟨rfl, rfl⟩
  | succ d ih =>
    intro i V D E L
    rw [difF]
    have := ih (i + 1) (spread W H (wayF alt (i / W)) (colF W alt i) (i / W) K (kShares K (errF (at_ V (i / W * W + colF W alt i)))) V L).1
      (if at_ V (i / W * W + colF W alt i) ≥ 128 then D.set (i / W * W + colF W alt i).toNat 1 else D)
      (E.set (i / W * W + colF W alt i).toNat (errF (at_ V (i / W * W + colF W alt i))))
      (spread W H (wayF alt (i / W)) (colF W alt i) (i / W) K (kShares K (errF (at_ V (i / W * W + colF W alt i)))) V L).2
    refine ⟨?_, by rw [this.2, List.length_set]⟩
    rw [this.1]; split <;> simp
theorem dif_len (K : List S60) (W H : Int) (l : List Int) (alt : Bool) : (dif K W H l alt).1.length = l.length ∧ (dif K W H l alt).2.1.length = l.length := by
  have := difF_len K W H alt l.length 0 l (List.replicate l.length 0) (List.replicate l.length 0) 0
  simp only [List.length_replicate] at this; exact this
theorem col_bd {W H i : Int} (hs : Sz W H) (h0 : 0 ≤ i) (h1 : i < W * H) (alt : Bool) : 0 ≤ colF W alt i ∧ colF W alt i < W := by
  have := hs.row h0 h1
  unfold colF; split <;> omega
theorem put_idx {W H X Y : Int} (hs : Sz W H) (x0 : -300 ≤ X) (x1 : X ≤ 300) (y0 : 0 ≤ Y) (y1 : Y ≤ 300) : wrap64 (wrap64 (Y * W) + X) = Y * W + X := by
  have q := mul_bd (c := 300) (d := 64) y0 y1 (show 0 ≤ W by have := hs.1; omega) hs.2.1
  rw [w64 (x := Y * W) (by omega) (by omega), w64 (by omega) (by omega)]
theorem way_mul {way x : Int} (hw : way = 1 ∨ way = -1) (h0 : -4 ≤ x) (h1 : x ≤ 4) : -4 ≤ way * x ∧ way * x ≤ 4 := by
  rcases hw with rfl | rfl <;> omega
theorem and255 (n : Int) : Go.bits .and .i64 n 255 = n % 256 := by
  have h255 : (BitVec.ofInt 64 255).toNat = 2 ^ 8 - 1 := by decide
  have key : (BitVec.ofInt 64 n &&& BitVec.ofInt 64 255).toNat = (n % ((2 ^ 64 : Nat) : Int)).toNat % 2 ^ 8 := by
    rw [BitVec.toNat_and, BitVec.toNat_ofInt, h255, Nat.and_two_pow_sub_one_eq_mod]
  show IntKind.i64.wrap ((BitVec.ofInt 64 n &&& BitVec.ofInt 64 255).toNat : Nat) = n % 256
  rw [key, IntKind.wrap_i64]
  omega
theorem newl_c (xs : List Int) (d : Nat) : ∀ (k : Nat) (h i : Int), 0 ≤ i → i ≤ 4000 → 4000 - i = d → d < k → ∃ h', spec_l01New.l0 k xs h i = some (xs, 0, h') := by
  induction d with
  | zero =>
    intro k h i h0 h1 hd hk
    obtain ⟨k, rfl⟩ : ∃ m, k = m + 1 := ⟨k - 1, by omega⟩
    simp only [spec_l01New.l0]
    have : ¬ i < 4000 := by omega
    simp only [if_neg this]
    split <;> exact ⟨_, rfl⟩
  | succ d ih =>
    intro k h i h0 h1 hd hk
    obtain ⟨k, rfl⟩ : ∃ m, k = m + 1 := ⟨k - 1, by omega⟩
    rw [spec_l01New.l0]
    by_cases hlt : i < (xs.length : Int)
    · rw [if_pos hlt, if_pos (by omega), if_pos h0, w64 (x := i + 1) (by omega) (by omega)]
      exact ih k _ (i + 1) (by omega) (by omega) (by omega) (by omega)
    · rw [if_neg hlt]; exact ⟨_, rfl⟩
theorem new_c (xs : List Int) (k : Nat) (hk : 4001 ≤ k) : ∃ h, spec_l01New.f k xs = some (xs, 0, h) :=
  newl_c xs 4000 k _ 0 (by omega) (by omega) (by omega) (by omega)
theorem byte_c (xs : List Int) (hl : xs.length ≤ 140737488351232) (i h : Int) (h0 : 0 ≤ i) (h1 : i ≤ xs.length) : ∃ r i' h', spec_l01Byte.f xs i h = some (r, i', h') ∧ 0 ≤ r ∧ r ≤ 255 ∧ 0 ≤ i' ∧ i' ≤ xs.length := by
  unfold spec_l01Byte.f
  simp only [and255]
  by_cases hlt : i < (xs.length : Int)
  · rw [if_pos hlt, if_pos h0, w64 (x := i + 1) (by omega) (by omega)]
    exact ⟨_, _, _, rfl, Int.emod_nonneg _ (by omega), by have := Int.emod_lt_of_pos (wrap64 ((wrap64 ((Go.bits .xor .i64 ((wrap64 ((wrap64 (h * 6364136223846793005)) + 1442695040888963407)) / 8589934592) ((wrap64 ((wrap64 (h * 6364136223846793005)) + 1442695040888963407)) / 35184372088832)) % 256)) + wrap64 (rd xs i))) (show (0 : Int) < 256 by omega); omega, by omega, by omega⟩
  · rw [if_neg hlt]
    exact ⟨_, _, _, rfl, Int.emod_nonneg _ (by omega), by have := Int.emod_lt_of_pos (Go.bits .xor .i64 ((wrap64 ((wrap64 (h * 6364136223846793005)) + 1442695040888963407)) / 8589934592) ((wrap64 ((wrap64 (h * 6364136223846793005)) + 1442695040888963407)) / 35184372088832)) (show (0 : Int) < 256 by omega); omega, h0, h1⟩
theorem below_c (xs : List Int) (hl : xs.length ≤ 140737488351232) (i h n : Int) (h0 : 0 ≤ i) (h1 : i ≤ xs.length) (hn : 1 ≤ n) (hn2 : n ≤ 256) : ∃ r i' h', spec_l01Below.f xs i h n = some (r, i', h') ∧ 0 ≤ r ∧ r < n ∧ 0 ≤ i' ∧ i' ≤ xs.length := by
  unfold spec_l01Below.f
  rw [if_neg (by omega), if_pos hn2]
  obtain ⟨r, i', h', e, r0, r1, i0, i1⟩ := byte_c xs hl i h h0 h1
  rw [e]; simp only [Option.bind_some]
  rw [if_neg (by omega)]
  have := Int.emod_nonneg r (show n ≠ 0 by omega); have := Int.emod_lt_of_pos r (show 0 < n by omega)
  refine ⟨_, _, _, rfl, ?_, ?_, i0, i1⟩ <;> rw [tmod_pos r0] <;> omega
theorem empty_s {W H : Int} (h : Sz W H) : spec_l1Empty.f W H = some (W, H, List.replicate (W * H).toNat 0) := by
  have := h.area
  unfold spec_l1Empty.f
  rw [w64 (by omega) (by omega), if_pos (by omega), if_pos (by omega)]
theorem int_c (xs : List Int) (hl : xs.length ≤ 140737488351232) (i h : Int) (h0 : 0 ≤ i) (h1 : i ≤ xs.length) {l : List Int} (n0 : 1 ≤ l.length) (n1 : l.length ≤ 256) : ∃ r i' h', spec_l01Int.f xs i h l = some (r, i', h') ∧ r ∈ l ∧ 0 ≤ i' ∧ i' ≤ xs.length := by
  obtain ⟨r, i', h', e, r0, r1, a0, a1⟩ := below_c xs hl i h l.length h0 h1 (by omega) (by omega)
  unfold spec_l01Int.f
  rw [e]; simp only [Option.bind_some]
  rw [if_pos r0, if_pos r1, rd_at]
  exact ⟨_, _, _, rfl, at_mem r0 r1, a0, a1⟩
theorem drawl_c (xs : List Int) (hl : xs.length ≤ 140737488351232) {W H : Int} (hs : Sz W H) (q : Int) (d : Nat) : ∀ (k : Nat) (j i h : Int) (M : List Int), 0 ≤ i → i ≤ xs.length → 0 ≤ j → Up W H M 255 → W * H - j = d → d < k →
    ∃ l i' h', spec_l1Draw.l0 k q (W * H) j xs i h W H M = some (W, H, l, i', h') ∧ Up W H l 255 := by
  have ha := hs.area
  induction d with
  | zero =>
    intro k j i h M i0 i1 j0 hu hd hk
    obtain ⟨k, rfl⟩ : ∃ m, k = m + 1 := ⟨k - 1, by omega⟩
    rw [spec_l1Draw.l0, if_neg (by omega)]; exact ⟨M, _, _, rfl, hu⟩
  | succ d ih =>
    intro k j i h M i0 i1 j0 hu hd hk
    obtain ⟨k, rfl⟩ : ∃ m, k = m + 1 := ⟨k - 1, by omega⟩
    have hln := hu.2.1
    have fin : ∀ r i' h' : Int, In 255 r → 0 ≤ i' → i' ≤ xs.length → ∃ l i2 h2, (if 0 ≤ j then (if j < (M.length : Int) then spec_l1Draw.l0 k q (W * H) (wrap64 (j + 1)) xs i' h' W H (M.set j.toNat r) else none) else none) = some (W, H, l, i2, h2) ∧ Up W H l 255 := by
      intro r i' h' r0 a0 a1
      rw [if_pos j0, if_pos (by omega), w64 (by omega) (by omega)]
      exact ih k (j + 1) i' h' _ a0 a1 (by omega) (hu.set r0) (by omega) (by omega)
    rw [spec_l1Draw.l0, if_pos (by omega)]
    by_cases q0 : q = 0
    · obtain ⟨r, i', h', e, r0, r1, a0, a1⟩ := below_c xs hl i h 256 i0 i1 (by omega) (by omega)
      rw [if_pos q0, e]; exact fin r i' h' ⟨r0, by omega⟩ a0 a1
    rw [if_neg q0]
    by_cases q1 : q = 1
    · obtain ⟨r, i', h', e, hm, a0, a1⟩ := int_c xs hl i h i0 i1 (l := [0, 255, 128, 127, 1, 254]) (by simp) (by simp)
      rw [if_pos q1, e]; exact fin r i' h' (by simp only [List.mem_cons, List.not_mem_nil, or_false] at hm; unfold In; omega) a0 a1
    rw [if_neg q1]
    by_cases q2 : q = 2
    · obtain ⟨r, i', h', e, r0, r1, a0, a1⟩ := below_c xs hl i h 2 i0 i1 (by omega) (by omega)
      rw [if_pos q2, e]; exact fin r i' h' ⟨r0, by omega⟩ a0 a1
    rw [if_neg q2]
    have hW := hs.1; have hW2 := hs.2.1
    have hm : mx 1 (wrap64 (W - 1)) = if W = 1 then 1 else W - 1 := by
      rw [w64 (by omega) (by omega)]; unfold mx
      split <;> split <;> omega
    have hr := hs.row j0 (by omega)
    rw [if_neg (by omega), hm, if_neg (by split <;> omega), tmod_pos j0, w64 (x := j % W * 255) (by omega) (by omega), tdiv_pos (by omega)]
    refine fin _ i h ?_ i0 i1
    have hb : 0 ≤ (j % W * 255) / (if W = 1 then 1 else W - 1) ∧ (j % W * 255) / (if W = 1 then 1 else W - 1) ≤ 255 := by
      by_cases h1 : W = 1
      · rw [if_pos h1]; subst h1; omega
      · rw [if_neg h1]
        refine ⟨Int.ediv_nonneg (by omega) (by omega), ?_⟩
        have : (j % W * 255) / (W - 1) < 256 := Int.ediv_lt_of_lt_mul (by omega) (by omega)
        omega
    rw [w64 (by omega) (by omega)]; exact hb
theorem draw_c (xs : List Int) (hl : xs.length ≤ 140737488351232) (i h m : Int) (h0 : 0 ≤ i) (h1 : i ≤ xs.length) (hm : 1 ≤ m) (hm2 : m ≤ 16) {k : Nat} (hk : 5000 ≤ k) : ∃ W H l i' h', spec_l1Draw.f k xs i h m = some (W, H, l, i', h') ∧ W ≤ m ∧ H ≤ m ∧ Up W H l 255 := by
  unfold spec_l1Draw.f
  obtain ⟨a, i1, h1, e1, a0, a1, p0, p1⟩ := below_c xs hl i h m h0 h1 hm (by omega)
  rw [e1]; simp only [Option.bind_some]
  obtain ⟨b, i2, h2, e2, b0, b1, p2, p3⟩ := below_c xs hl i1 h1 m p0 p1 hm (by omega)
  rw [e2]; simp only [Option.bind_some]
  have hs : Sz (1 + a) (1 + b) := ⟨by omega, by omega, by omega, by omega, by have := mul_bd (c := 16) (d := 16) (show 0 ≤ 1 + a by omega) (by omega) (show 0 ≤ 1 + b by omega) (by omega); omega⟩
  have ha := hs.area
  obtain ⟨q, i3, h3, e3, q0, q1, p4, p5⟩ := below_c xs hl i2 h2 4 p2 p3 (by omega) (by omega)
  rw [w64 (x := 1 + a) (by omega) (by omega), w64 (x := 1 + b) (by omega) (by omega), empty_s hs, Option.bind_some, e3]; simp only [Option.bind_some]
  have hu : Up (1 + a) (1 + b) (List.replicate ((1 + a) * (1 + b)).toNat 0) 255 := ⟨hs, by rw [List.length_replicate]; omega, fun v hv => by rw [(List.mem_replicate.mp hv).2]; exact ⟨by omega, by omega⟩⟩
  have hl2 := hu.2.1
  rw [hl2]
  obtain ⟨l, i', h', hl3, hu3⟩ := drawl_c xs hl hs q ((1 + a) * (1 + b)).toNat k 0 i3 h3 _ p4 p5 (by omega) hu (by omega) (by omega)
  exact ⟨1 + a, 1 + b, l, i', h', hl3, by omega, by omega, hu3⟩
theorem pict_c (xs : List Int) (hl : xs.length ≤ 140737488351232) (m : Int) (hm : 1 ≤ m) (hm2 : m ≤ 16) {k : Nat} (hk : 5000 ≤ k) : ∃ W H l, spec_MakePicture.f k xs m = some (W, H, l) ∧ W ≤ m ∧ H ≤ m ∧ Up W H l 255 := by
  obtain ⟨h, e⟩ := new_c xs k (by omega)
  have hx : mx 1 (mn m 16) = m := by unfold mx mn; repeat' split
                                     all_goals omega
  unfold spec_MakePicture.f
  rw [e, hx]; simp only [Option.bind_some]
  obtain ⟨W, H, l, i', h', e2, c1, c2, hu⟩ := draw_c xs hl 0 h m (by omega) (by omega) hm hm2 hk
  rw [e2]; exact ⟨W, H, l, rfl, c1, c2, hu⟩
theorem freshl_c (xs : List Int) (a : Int) (d : Nat) : ∀ (k : Nat) (o : List Int) (i : Int), 0 ≤ i → i ≤ 600 → 600 - i = d → (o.length : Int) = i + 1 → d < k → ∃ ys, laws_fresh.l0 k xs a o i = some ys ∧ ys.length ≤ 700 := by
  induction d with
  | zero =>
    intro k o i i0 i1 hd ho hk
    obtain ⟨k, rfl⟩ : ∃ m, k = m + 1 := ⟨k - 1, by omega⟩
    have h6 : ¬ i < 600 := by omega
    rw [laws_fresh.l0]
    by_cases h : i < (xs.length : Int)
    · rw [if_pos h, if_neg h6]; exact ⟨o, rfl, by omega⟩
    · rw [if_neg h]; exact ⟨o, rfl, by omega⟩
  | succ d ih =>
    intro k o i i0 i1 hd ho hk
    obtain ⟨k, rfl⟩ : ∃ m, k = m + 1 := ⟨k - 1, by omega⟩
    rw [laws_fresh.l0]
    by_cases h : i < (xs.length : Int)
    · rw [if_pos h, if_pos (by omega), if_pos i0, if_pos (by omega), w64 (x := i + 1) (by omega) (by omega)]
      exact ih k _ (i + 1) (by omega) (by omega) (by omega) (by rw [List.length_append]; simp; omega) (by omega)
    · rw [if_neg h]; exact ⟨o, rfl, by omega⟩
theorem fresh_c (xs : List Int) (a : Int) {k : Nat} (hk : 1000 ≤ k) : ∃ ys, laws_fresh.f k xs a = some ys ∧ ys.length ≤ 700 := by
  unfold laws_fresh.f
  exact freshl_c xs a 600 k _ 0 (by omega) (by omega) (by omega) (by simp) (by omega)
theorem keri_l1 (K xs : List S60) (m i : Int) (x y z : Int) (d : Nat) : ∀ (k : Nat) (s : List S60) (j : Int), 0 ≤ j → s.length ≤ 12 → (s.length : Int) - j = d →
    impl_IsKernel.l1 (k + d + 1) K xs m i s s.length j x y z = if newB x y (s.drop j.toNat) = true then impl_IsKernel.l0 k K xs m (wrap64 (i + 1)) else some false := by
  induction d with
  | zero =>
    intro k s j h0 hs hd
    rw [impl_IsKernel.l1, if_neg (by omega), List.drop_eq_nil_of_le (by omega)]; rfl
  | succ d ih =>
    intro k s j h0 hs hd
    rw [← Nat.add_assoc, impl_IsKernel.l1, if_pos (by omega), if_pos h0, if_pos (by omega), w64 (by omega) (by omega), ih k s (j + 1) (by omega) hs (by omega), dropK h0 (by omega), newB]
    by_cases h1 : x = (rd_T60 s j).f0
    · by_cases h2 : y = (rd_T60 s j).f1
      · rw [if_pos h1, if_pos h2, if_pos (And.intro h1 h2)]; rfl
      · rw [if_pos h1, if_neg h2, if_neg (show ¬ (_ ∧ _) from fun h => h2 h.2)]
    · rw [if_neg h1, if_neg (show ¬ (_ ∧ _) from fun h => h1 h.1)]
theorem chainI {α : Type} (J : Bool → Option α) (a : S60) : (if a.f0 < (-4) then J true else (if a.f0 > 4 then J true else (if a.f1 < 0 then J true else (if a.f1 > 4 then J true else (if a.f1 = 0 then (if a.f0 < 1 then J true else (if a.f2 < 1 then J true else J (decide (a.f2 > 100)))) else (if a.f2 < 1 then J true else J (decide (a.f2 > 100)))))))) = J (!decide (okP a)) := by
  simp only [← decide_not]
  repeat' split
  all_goals (congr 1; first | exact decide_eq_decide.mpr (by unfold okP; omega) | exact (decide_eq_true (by unfold okP; omega)).symm)
theorem keri_l (K : List S60) (hK : K.length ≤ 12) (d : Nat) : ∀ (k : Nat) (i : Int), 0 ≤ i → (K.length : Int) - i = d → d * 16 < k →
    impl_IsKernel.l0 k K K K.length i = some (kerB (K.drop i.toNat) (K.take i.toNat)) := by
  induction d with
  | zero =>
    intro k i h0 hd hk
    obtain ⟨k, rfl⟩ : ∃ m, k = m + 1 := ⟨k - 1, by omega⟩
    rw [impl_IsKernel.l0, if_neg (by omega), List.drop_eq_nil_of_le (by omega)]; rfl
  | succ d ih =>
    intro k i h0 hd hk
    have tl : (K.take i.toNat).length = i.toNat := by rw [List.length_take]; omega
    obtain ⟨k, rfl⟩ : ∃ m, k = m + i.toNat + 1 + 1 + 1 := ⟨k - i.toNat - 3, by omega⟩
    rw [impl_IsKernel.l0, if_pos (by omega), if_pos h0, if_pos (by omega), dropK h0 (by omega), kerB]
    refine (chainI (fun b => impl_IsKernel.j2 _ K i K K.length i b (rd_T60 K i).f0 (rd_T60 K i).f1 (rd_T60 K i).f2) (rd_T60 K i)).trans ?_
    rw [impl_IsKernel.j2]
    by_cases ho : okP (rd_T60 K i)
    · rw [decide_eq_true ho, if_neg (by decide), if_pos h0, if_pos (by omega), Option.bind_some, keri_l1 K K K.length i _ _ _ i.toNat k (K.take i.toNat) 0 (by omega) (by omega) (by omega)]
      rw [w64 (by omega) (by omega), ih k (i + 1) (by omega) (by omega) (by omega), takeK h0 (by omega)]
      show _ = some (true && newB _ _ (K.take i.toNat) && _)
      rw [Bool.true_and]
      show (if newB _ _ (K.take i.toNat) = true then _ else _) = _
      cases newB (rd_T60 K i).f0 (rd_T60 K i).f1 (K.take i.toNat) <;> rfl
    · rw [decide_eq_false ho, if_pos (by decide)]; rfl
theorem ker_i {K : List S60} (hK : K.length ≤ 1048576) {k : Nat} (hk : 1100 ≤ k) : impl_IsKernel.f k K = some (decide (Ker K)) := by
  obtain ⟨k, rfl⟩ : ∃ m, k = m + 1 := ⟨k - 1, by omega⟩
  unfold impl_IsKernel.f
  by_cases h : (K.length : Int) < 1
  · rw [if_pos h, impl_IsKernel.j0, if_pos rfl]; exact dec_ff (fun e => by have := e.1; omega)
  · rw [if_neg h, impl_IsKernel.j0]
    by_cases h2 : (K.length : Int) > 12
    · rw [if_pos (decide_eq_true h2)]; exact dec_ff (fun e => by have := e.2.1; omega)
    · rw [if_neg (by rw [decide_eq_true_iff]; exact h2), keri_l K (by omega) K.length k 0 (by omega) (by omega) (by omega)]
      show some (kerB K []) = _
      have : Ker K ↔ kerB K [] = true := ⟨fun h => h.2.2, fun e => ⟨by omega, by omega, e⟩⟩
      by_cases hb : kerB K [] = true
      · rw [hb, decide_eq_true (this.mpr hb)]
      · rw [decide_eq_false (fun e => hb (this.mp e))]; simpa using hb
theorem size_i (W H : Int) : impl_sized.f W H = some (decide (Sz W H)) := by
  unfold impl_sized.f
  by_cases h : 1 ≤ W ∧ W ≤ 64 ∧ 1 ≤ H ∧ H ≤ 64
  · have := mul_bd (c := 64) (d := 64) (show 0 ≤ W by omega) h.2.1 (show 0 ≤ H by omega) h.2.2.2
    rw [if_pos (by omega), if_pos (by omega), if_pos (by omega), if_pos (by omega), w64 (by omega) (by omega)]
    exact dec_dd (by unfold Sz; omega)
  · repeat' split
    all_goals first | exact dec_ff (by unfold Sz; omega) | (exfalso; omega)
theorem within_i {l : List Int} (hl : l.length ≤ 1048576) (m : Int) : impl_within.f l m = some (decide (All m l)) := by
  unfold impl_within.f
  rw [if_pos (by omega)]; simp only [Option.some.injEq]
  rw [Bool.eq_iff_iff, List.all_eq_true, decide_eq_true_iff]
  exact ⟨fun h v hv => of_decide_eq_true (h v hv), fun h v hv => decide_eq_true (h v hv)⟩
theorem pict_i {W H : Int} {l : List Int} (hl : l.length ≤ 1048576) : impl_IsPicture.f W H l = some (decide (Up W H l 255)) := by
  unfold impl_IsPicture.f
  rw [size_i, Option.bind_some]
  by_cases h : Sz W H
  · have := h.area
    rw [if_pos (decide_eq_true h), w64 (by omega) (by omega), within_i hl]
    by_cases e : (l.length : Int) = W * H
    · rw [if_pos e]; exact dec_dd ⟨fun x => ⟨h, e, x⟩, fun x => x.2.2⟩
    · rw [if_neg e]; exact dec_ff (fun x => e x.2.1)
  · rw [if_neg (by rw [decide_eq_true_iff]; exact h)]; exact dec_ff (fun x => h x.1)
theorem gridO_tab {W H : Int} {AT : Int → Int → Option Int} {F : Int → Int} (hW : 1 ≤ W) (hH : 0 ≤ H) (h : ∀ x y, 0 ≤ x → x < W → 0 ≤ y → y < H → AT x y = some (F (y * W + x))) : Ext.gridO W H AT = some (tab F (W * H).toNat 0) := by
  rw [Ext.gridO_of (g := fun x y => F (y * W + x)) hW hH h]
  simp only [Option.some.injEq]
  unfold Ext.grid Ext.pref
  rw [← tab_range]
  apply List.map_congr_left
  intro i _
  show F ((i : Int) / W * W + (i : Int) % W) = _
  rw [xy_of]
theorem drawn_some {W H : Int} (hs : Sz W H) {AT : Int → Int → Option Int} {F : Int → Int} (h : ∀ x y, 0 ≤ x → x < W → 0 ≤ y → y < H → AT x y = some (F (y * W + x))) :
    (if 1 ≤ W ∧ W ≤ 1024 ∧ 0 ≤ H ∧ H ≤ 1024 ∧ W * H ≤ 1024 then (Ext.gridO W H AT).map fun l => (W, H, l) else none) = some (W, H, tab F (W * H).toNat 0) := by
  have hW := hs.1; have hW2 := hs.2.1; have hH := hs.2.2.1; have hH2 := hs.2.2.2.1; have ha := hs.area
  rw [if_pos (by omega), gridO_tab hW (by omega) h]; rfl
theorem idx_w {W H x y : Int} (hs : Sz W H) (x0 : 0 ≤ x) (x1 : x < W) (y0 : 0 ≤ y) (y1 : y < H) : wrap64 (wrap64 (y * W) + x) = y * W + x ∧ 0 ≤ y * W + x ∧ y * W + x < W * H ∧ (y * W + x) % W = x ∧ (y * W + x) / W = y := by
  have hi := xy_idx x0 x1 y0 y1
  have hW := hs.1; have hW2 := hs.2.1; have hH2 := hs.2.2.2.1; have ha := hs.area
  have q := mul_bd (c := 64) (d := 64) y0 (by omega) (show 0 ≤ W by omega) hW2
  refine ⟨by rw [w64 (x := y * W) (by omega) (by omega), w64 (by omega) (by omega)], hi.1, hi.2, ?_, ?_⟩
  · rw [Int.add_comm, Int.add_mul_emod_self_right, Int.emod_eq_of_lt x0 x1]
  · rw [Int.add_comm, Int.add_mul_ediv_right _ _ (by omega), Int.ediv_eq_zero_of_lt x0 x1, Int.zero_add]
theorem copied_i (W H : Int) {l : List Int} (hl : l.length ≤ 1048576) : impl_copied.f W H l = some (W, H, l) := by
  unfold impl_copied.f slices_Clone_int_int.f; rw [if_pos (by omega), Option.bind_some]
theorem wt_il (K : List S60) (hK : K.length ≤ 12) (ho : ∀ a ∈ K, okP a) (d : Nat) : ∀ (k : Nat) (s i : Int), 0 ≤ i → (K.length : Int) - i = d → d < k → 0 ≤ s → s + 100 * d ≤ 100000 →
    impl_weight.l0 k s K K.length i = some (s + kWt (K.drop i.toNat)) := by
  induction d with
  | zero =>
    intro k s i h0 hd hk s0 s1
    obtain ⟨k, rfl⟩ : ∃ m, k = m + 1 := ⟨k - 1, by omega⟩
    rw [impl_weight.l0, if_neg (by omega), List.drop_eq_nil_of_le (by omega)]; simp [kWt]
  | succ d ih =>
    intro k s i h0 hd hk s0 s1
    obtain ⟨k, rfl⟩ : ∃ m, k = m + 1 := ⟨k - 1, by omega⟩
    have h2 := ho _ (memK h0 (show i < K.length by omega)); unfold okP at h2
    rw [impl_weight.l0, if_pos (by omega), if_pos h0, if_pos (by omega), w64 (by omega) (by omega), w64 (by omega) (by omega), ih k _ (i + 1) (by omega) (by omega) (by omega) (by omega) (by omega), dropK h0 (by omega), kWt, Int.add_assoc]
theorem wt_i {K : List S60} (h : Ker K) {k : Nat} (hk : 13 ≤ k) : impl_weight.f k K = some (kWt K) := by
  have := h.2.1
  unfold impl_weight.f
  rw [wt_il K h.2.1 (fun a ha => h.ok ha) K.length k 0 0 (by omega) (by omega) (by omega) (by omega) (by omega)]
  simp
theorem shares_il (K : List S60) (hK : K.length ≤ 12) {S : Int} (hS : S ≠ 0) (e : Int) (d : Nat) : ∀ (k : Nat) (o : List Int) (r i : Int), 0 ≤ i → (K.length : Int) - i = d → d < k → o.length ≤ 12 → o.length = i.toNat → 1 ≤ K.length →
    impl_shares.l0 k e S o r K K.length i = some (shF S e (K.drop i.toNat) o r) := by
  induction d with
  | zero =>
    intro k o r i h0 hd hk ho he hn
    obtain ⟨k, rfl⟩ : ∃ m, k = m + 1 := ⟨k - 1, by omega⟩
    rw [impl_shares.l0, if_neg (by omega), List.drop_eq_nil_of_le (by omega), if_pos (by omega)]; rfl
  | succ d ih =>
    intro k o r i h0 hd hk ho he hn
    obtain ⟨k, rfl⟩ : ∃ m, k = m + 1 := ⟨k - 1, by omega⟩
    have hm : ∀ v : Int, impl_mod.f v S = some (if Int.tmod v S < 0 then wrap64 (Int.tmod v S + S) else Int.tmod v S) := by
      intro v; unfold impl_mod.f; rw [if_neg hS]; split <;> rfl
    have hdn : ∀ v : Int, impl_down.f v S = some (kShr S v) := by
      intro v; unfold impl_down.f; rw [hm, Option.bind_some, if_neg hS]; rfl
    rw [impl_shares.l0, if_pos (by omega), if_pos h0, if_pos (by omega), hdn, Option.bind_some, if_pos (by omega), w64 (x := i + 1) (by omega) (by omega)]
    rw [dropK h0 (by omega), shF]
    exact ih k _ _ (i + 1) (by omega) (by omega) (by omega) (by rw [List.length_append]; simp only [List.length_cons, List.length_nil]; omega) (by rw [List.length_append]; simp only [List.length_cons, List.length_nil]; omega) hn
theorem shares_i {K : List S60} (h : Ker K) (e : Int) {k : Nat} (hk : 13 ≤ k) : impl_shares.f k K e = some (kShares K e) := by
  unfold impl_shares.f; have := h.wt; have := h.2.1
  rw [wt_i h hk, Option.bind_some, shares_il K h.2.1 (by omega) e K.length k [] e 0 (by omega) (by omega) (by omega) (by simp) (by simp) h.1]; rfl
theorem run_l2 {K : List S60} (hk : Ker K) {W H : Int} (hs : Sz W H) (al : Bool) (D E : List Int) (way x y c : Int) (p : List Int) (hw : way = 1 ∨ way = -1) (x0 : 0 ≤ x) (x1 : x < W) (y0 : 0 ≤ y) (y1 : y < H) (sh : List Int) (hsh : sh.length = K.length) (d : Nat) :
    ∀ (k : Nat) (V : List Int) (L j : Int), 0 ≤ j → (K.length : Int) - j = d → (V.length : Int) = W * H →
    impl_diffused.l2 (k + d + 1) K al V E L y way x H y W c sh sh.length j W H p W H D = impl_diffused.l1 k K al (spread W H way x y (K.drop j.toNat) (sh.drop j.toNat) V L).1 E (spread W H way x y (K.drop j.toNat) (sh.drop j.toNat) V L).2 y way H y W (wrap64 (c + 1)) W H p W H D := by
  have hK := hk.2.1
  induction d with
  | zero =>
    intro k V L j h0 hd hV
    rw [impl_diffused.l2, if_neg (by omega), List.drop_eq_nil_of_le (by omega)]; rfl
  | succ d ih =>
    intro k V L j h0 hd hV
    have h2 := hk.ok (memK h0 (show j < K.length by omega)); unfold okP at h2
    have h3 := way_mul hw h2.1 h2.2.1
    have hW := hs.1; have hW2 := hs.2.1; have hH := hs.2.2.1; have hH2 := hs.2.2.2.1
    rw [← Nat.add_assoc, impl_diffused.l2, if_pos (by omega), if_pos h0, if_pos (by omega), if_pos (by omega), w64 (x := way * (rd_T60 K j).f0) (by omega) (by omega), w64 (x := x + way * (rd_T60 K j).f0) (by omega) (by omega), w64 (x := y + (rd_T60 K j).f1) (by omega) (by omega)]
    rw [dropK h0 (by omega), drop_at sh h0 (by omega), spread, w64 (x := j + 1) (by omega) (by omega), rd_at]
    by_cases cc : x + way * (rd_T60 K j).f0 < 0 ∨ W ≤ x + way * (rd_T60 K j).f0 ∨ H ≤ y + (rd_T60 K j).f1
    · rw [if_pos cc]
      by_cases c1 : x + way * (rd_T60 K j).f0 < 0
      · rw [if_pos c1]; exact ih k V _ (j + 1) (by omega) (by omega) hV
      · rw [if_neg c1]
        by_cases c2 : x + way * (rd_T60 K j).f0 ≥ W
        · rw [if_pos c2]; exact ih k V _ (j + 1) (by omega) (by omega) hV
        · rw [if_neg c2, if_pos (by omega)]; exact ih k V _ (j + 1) (by omega) (by omega) hV
    · have q := xy_idx (W := W) (H := H) (x := x + way * (rd_T60 K j).f0) (y := y + (rd_T60 K j).f1) (by omega) (by omega) (by omega) (by omega)
      rw [if_neg cc, if_neg (show ¬ x + way * (rd_T60 K j).f0 < 0 by omega), if_neg (show ¬ x + way * (rd_T60 K j).f0 ≥ W by omega), if_neg (show ¬ y + (rd_T60 K j).f1 ≥ H by omega), put_idx hs (by omega) (by omega) (by omega) (by omega), if_pos q.1, if_pos (by omega), rd_at]
      exact ih k _ L (j + 1) (by omega) (by omega) (by rw [List.length_set]; exact hV)
theorem run_i {K : List S60} (hk : Ker K) {W H : Int} (hs : Sz W H) (al : Bool) (p : List Int) (d : Nat) : ∀ (k : Nat) (V D E : List Int) (L y c : Int), 0 ≤ y → y < H → 0 ≤ c → c < W → W * H - (y * W + c) = d → (V.length : Int) = W * H → (D.length : Int) = W * H → (E.length : Int) = W * H → d * 30 + 100 < k →
    impl_diffused.l1 k K al V E L y (wayF al y) H y W c W H p W H D = some (W, H, (difF K W H al d (y * W + c) V D E L).1, (difF K W H al d (y * W + c) V D E L).2.1, (difF K W H al d (y * W + c) V D E L).2.2) := by
  have hK := hk.2.1; have ha := hs.area
  have hW := hs.1; have hW2 := hs.2.1; have hH := hs.2.2.1; have hH2 := hs.2.2.2.1
  induction d with
  | zero =>
    intro k V D E L y c y0 y1 c0 c1 hd hV hD hE hf
    have := (xy_idx c0 c1 y0 y1).2; omega
  | succ d ih =>
    intro k V D E L y c y0 y1 c0 c1 hd hV hD hE hf
    obtain ⟨k, rfl⟩ : ∃ m, k = m + K.length + 1 + 1 + 1 + 1 := ⟨k - K.length - 4, by omega⟩
    have hi := idx_w hs c0 c1 y0 y1
    have hw : wayF al y = 1 ∨ wayF al y = -1 := by unfold wayF; split <;> omega
    have hc : 0 ≤ colF W al (y * W + c) ∧ colF W al (y * W + c) < W := col_bd hs hi.2.1 hi.2.2.1 al
    have hcol : colF W al (y * W + c) = if wayF al y < 0 then W - 1 - c else c := by
      unfold colF wayF; rw [hi.2.2.2.1, hi.2.2.2.2]
      by_cases h : al = true ∧ y % 2 = 1
      · rw [if_pos h, if_pos h, if_pos (by omega)]
      · rw [if_neg h, if_neg h, if_neg (by omega)]
    have hx := xy_idx hc.1 hc.2 y0 y1
    rw [impl_diffused.l1, if_pos c1, w64 (x := W - 1) (by omega) (by omega), w64 (x := W - 1 - c) (by omega) (by omega)]
    have key : impl_diffused.j4 (k + K.length + 1 + 1 + 1) K al V E L y (wayF al y) (colF W al (y * W + c)) H y W c W H p W H D = some (W, H, (difF K W H al (d + 1) (y * W + c) V D E L).1, (difF K W H al (d + 1) (y * W + c) V D E L).2.1, (difF K W H al (d + 1) (y * W + c) V D E L).2.2) := by
      rw [impl_diffused.j4, put_idx hs (by omega) (by omega) (by omega) (by omega), if_pos hx.1, if_pos (by omega), rd_at]
      have fin : ∀ (D' : List Int) (e : Int), (D'.length : Int) = W * H → impl_diffused.j5 (k + K.length + 1 + 1) K al V E L y (wayF al y) (colF W al (y * W + c)) (y * W + colF W al (y * W + c)) e H y W c W H p W H D' =
          some (W, H, (difF K W H al d (y * W + c + 1) (spread W H (wayF al y) (colF W al (y * W + c)) y K (kShares K e) V L).1 D' (E.set (y * W + colF W al (y * W + c)).toNat e) (spread W H (wayF al y) (colF W al (y * W + c)) y K (kShares K e) V L).2).1, (difF K W H al d (y * W + c + 1) (spread W H (wayF al y) (colF W al (y * W + c)) y K (kShares K e) V L).1 D' (E.set (y * W + colF W al (y * W + c)).toNat e) (spread W H (wayF al y) (colF W al (y * W + c)) y K (kShares K e) V L).2).2.1, (difF K W H al d (y * W + c + 1) (spread W H (wayF al y) (colF W al (y * W + c)) y K (kShares K e) V L).1 D' (E.set (y * W + colF W al (y * W + c)).toNat e) (spread W H (wayF al y) (colF W al (y * W + c)) y K (kShares K e) V L).2).2.2) := by
        intro D' e hD'
        have hsl := kShares_len K e
        rw [impl_diffused.j5, if_pos hx.1, if_pos (by omega), shares_i hk e (by omega), Option.bind_some]
        rw [run_l2 hk hs al _ _ _ _ _ _ _ hw hc.1 hc.2 y0 y1 _ hsl K.length k V L 0 (by omega) (by omega) hV]
        rw [w64 (x := c + 1) (by omega) (by omega)]
        show impl_diffused.l1 k K al (spread W H (wayF al y) (colF W al (y * W + c)) y K (kShares K e) V L).1 _ (spread W H (wayF al y) (colF W al (y * W + c)) y K (kShares K e) V L).2 y _ H y W (c + 1) W H p W H D' = _
        generalize hG : spread W H (wayF al y) (colF W al (y * W + c)) y K (kShares K e) V L = G
        have hGl : (G.1.length : Int) = W * H := by rw [← hG, spread_len]; exact hV
        by_cases hcW : c + 1 < W
        · rw [show y * W + c + 1 = y * W + (c + 1) by omega]
          exact ih k _ _ _ _ y (c + 1) y0 y1 (by omega) hcW (by omega) hGl hD' (by rw [List.length_set]; exact hE) (by omega)
        · have e1 : y * W + c + 1 = (y + 1) * W + 0 := by rw [Int.add_mul]; omega
          obtain ⟨k, rfl⟩ : ∃ m, k = m + 1 + 1 + 1 + 1 := ⟨k - 4, by omega⟩
          rw [impl_diffused.l1, if_neg hcW, impl_diffused.l0, w64 (x := y + 1) (by omega) (by omega)]
          by_cases hy : y + 1 < H
          · have e2 : (y + 1) * W + 0 = y * W + c + 1 := e1.symm
            have rc_ : impl_diffused.l1 k K al G.1 (E.set (y * W + colF W al (y * W + c)).toNat e) G.2 (y + 1) (wayF al (y + 1)) H (y + 1) W 0 W H p W H D' = _ := ih k G.1 D' (E.set (y * W + colF W al (y * W + c)).toNat e) G.2 (y + 1) 0 (by omega) hy (by omega) (by omega) (by omega) hGl hD' (by rw [List.length_set]; exact hE) (by omega)
            rw [if_pos hy, e1, ← rc_, tmod_pos (show 0 ≤ y + 1 by omega)]
            by_cases a1 : al = true
            · rw [if_pos a1, impl_diffused.j1]
              by_cases a2 : (y + 1) % 2 = 1
              · rw [if_pos (beq_iff_eq.mpr a2), impl_diffused.j2, show wayF al (y + 1) = -1 by unfold wayF; rw [if_pos ⟨a1, a2⟩]]
              · rw [if_neg (by rw [beq_iff_eq]; exact a2), impl_diffused.j2, show wayF al (y + 1) = 1 by unfold wayF; rw [if_neg (fun h => a2 h.2)]]
            · rw [if_neg a1, impl_diffused.j1, if_neg (by decide), impl_diffused.j2, show wayF al (y + 1) = 1 by unfold wayF; rw [if_neg (fun h => a1 h.1)]]
          · have e3 : d = 0 := by
              have : y + 1 = H := by omega
              rw [this] at e1; have := Int.mul_comm H W; omega
            rw [if_neg hy, e3]; rfl
      rw [difF, hi.2.2.2.2]
      by_cases cv : at_ V (y * W + colF W al (y * W + c)) ≥ 128
      · rw [if_pos cv, if_pos (by omega), fin _ _ (by rw [List.length_set]; exact hD), if_pos cv]
        rw [show errF (at_ V (y * W + colF W al (y * W + c))) = wrap64 (at_ V (y * W + colF W al (y * W + c)) - 255) by unfold errF; rw [if_pos cv]]
      · rw [if_neg cv, fin _ _ hD, if_neg cv]
        rw [show errF (at_ V (y * W + colF W al (y * W + c))) = at_ V (y * W + colF W al (y * W + c)) by unfold errF; rw [if_neg cv]]
    by_cases cw : wayF al y < 0
    · rw [if_pos cw, ← show colF W al (y * W + c) = W - 1 - c by rw [hcol, if_pos cw]]; exact key
    · rw [if_neg cw]
      have e : colF W al (y * W + c) = c := by rw [hcol, if_neg cw]
      conv => lhs; arg 9; rw [← e]
      exact key
theorem tab_rep (n : Nat) : ∀ i : Int, tab (fun _ => 0) n i = List.replicate n 0 := by
  induction n with
  | zero => intro i; rfl
  | succ n ih => intro i; rw [tab, ih, List.replicate_succ]
theorem dif_i {K : List S60} (hk : Ker K) {W H : Int} {l : List Int} (hu : Up W H l 255) (al : Bool) {k : Nat} (hf : 1000000 ≤ k) : impl_diffused.f k K W H l al = some (W, H, (dif K W H l al).1, (dif K W H l al).2.1, (dif K W H l al).2.2) := by
  have ha := hu.1.area; have hl := hu.2.1
  have hW := hu.1.1; have hH := hu.1.2.2.1
  unfold impl_diffused.f impl_diffused_1.drawn.f
  rw [copied_i W H (by omega), Option.bind_some, drawn_some (AT := fun x y => impl_diffused_1.f x y) (F := fun _ => 0) hu.1 (fun x y _ _ _ _ => rfl), Option.bind_some, if_pos (by omega), if_pos (by omega), Int.toNat_natCast, tab_rep]
  obtain ⟨k, rfl⟩ : ∃ m, k = m + 1 + 1 + 1 := ⟨k - 3, by omega⟩
  have hn : (W * H).toNat = l.length := by omega
  have rc_ := run_i hk hu.1 al l l.length k l (List.replicate l.length 0) (List.replicate l.length 0) 0 0 0 (by omega) (by omega) (by omega) (by omega) (by omega) hl (by simpa using hl) (by simpa using hl) (by omega)
  rw [show (0 : Int) * W + 0 = 0 by omega] at rc_
  have e : wayF al 0 = 1 := by unfold wayF; rw [if_neg (by omega)]
  rw [e] at rc_
  rw [impl_diffused.l0, if_pos (by omega), hn]
  by_cases a1 : al = true
  · rw [if_pos a1, impl_diffused.j1, if_neg (by decide), impl_diffused.j2]; exact rc_
  · rw [if_neg a1, impl_diffused.j1, if_neg (by decide), impl_diffused.j2]; exact rc_
theorem dif_in {K : List S60} {W H : Int} {al : Bool} (d : Nat) : ∀ (i : Int) (V D E : List Int) (L : Int), All 1 D → All 1 (difF K W H al d i V D E L).1 := by
  induction d with
  | zero => intro i V D E L hD; exact hD
  | succ d ih =>
    intro i V D E L hD
    rw [difF]
    refine ih (i + 1) _ _ _ _ ?_
    split
    · intro v hv
      rcases List.mem_or_eq_of_mem_set hv with h | h
      · exact hD v h
      · subst h; exact ⟨by omega, by omega⟩
    · exact hD
theorem dif_up {K : List S60} {W H : Int} {l : List Int} (al : Bool) (hu : Up W H l 255) : Up W H (dif K W H l al).1 1 :=
  ⟨hu.1, by rw [(dif_len K W H l al).1]; exact hu.2.1, dif_in _ _ _ _ _ _ (fun v hv => by rw [(List.mem_replicate.mp hv).2]; exact ⟨by omega, by omega⟩)⟩
def kDif (K : List S60) (W H : Int) (l : List Int) (al : Bool) : Int × Int × List Int × Int × Bool := if Ker K ∧ Up W H l 255 then (W, H, (dif K W H l al).1, (dif K W H l al).2.2, true) else (0, 0, [], 0, false)
theorem difp_i {K : List S60} (hK : K.length ≤ 1048576) {W H : Int} {l : List Int} (al : Bool) (hl : l.length ≤ 1048576) {k : Nat} (hk : 1100000 ≤ k) : impl_DiffusePicture.f k K W H l al = some (kDif K W H l al) := by
  unfold impl_DiffusePicture.f kDif
  rw [ker_i hK (by omega), Option.bind_some]
  by_cases h : Ker K
  · rw [if_pos (decide_eq_true h), pict_i hl, Option.bind_some]
    by_cases h2 : Up W H l 255
    · rw [if_pos (decide_eq_true h2), dif_i h h2 al (by omega), Option.bind_some, if_pos ⟨h, h2⟩]
    · rw [if_neg (by rw [decide_eq_true_iff]; exact h2), if_neg (fun x => h2 x.2)]
  · rw [if_neg (by rw [decide_eq_true_iff]; exact h), if_neg (fun x => h x.1)]
theorem ints_l (l : List Int) (hl : l.length ≤ 1048576) (d : Nat) : ∀ (k : Nat) (j : Int), 0 ≤ j → j ≤ l.length → (l.length : Int) - j = d → d < k → laws_ints.l0 k l l l.length j = some true := by
  induction d with
  | zero =>
    intro k j j0 j1 hd hk
    obtain ⟨k, rfl⟩ : ∃ m, k = m + 1 := ⟨k - 1, by omega⟩
    rw [laws_ints.l0, if_neg (by omega)]
  | succ d ih =>
    intro k j j0 j1 hd hk
    obtain ⟨k, rfl⟩ : ∃ m, k = m + 1 := ⟨k - 1, by omega⟩
    rw [laws_ints.l0, if_pos (by omega), if_pos j0, if_pos (by omega), if_pos (by omega), if_pos rfl, w64 (by omega) (by omega)]
    exact ih k (j + 1) (by omega) (by omega) (by omega) (by omega)
theorem ints_c (l : List Int) (hl : l.length ≤ 1048576) {k : Nat} (hk : 1100000 ≤ k) : laws_ints.f k l l = some true := by
  unfold laws_ints.f; rw [if_pos rfl, ints_l l hl l.length k 0 (by omega) (by omega) (by omega) (by omega)]
theorem same_c (a b : Int) (l : List Int) (hl : l.length ≤ 1048576) {k : Nat} (hk : 1100000 ≤ k) : laws_same.f k a b l a b l = some true := by
  unfold laws_same.f; rw [if_pos rfl, if_pos rfl, ints_c l hl hk]; rfl
theorem l1In (x a b : Int) : spec_l1In.f x a b = some (decide (a ≤ x ∧ x ≤ b)) := by
  unfold spec_l1In.f
  split
  all_goals first | exact dec_dd (by omega) | exact dec_ff (by omega)
theorem kers_l1 (K xs : List S60) (m i : Int) (x y z : Int) (d : Nat) : ∀ (k : Nat) (s : List S60) (j : Int), 0 ≤ j → s.length ≤ 12 → (s.length : Int) - j = d →
    spec_IsKernel.l1 (k + d + 1) K xs m i s s.length j x y z = if newB x y (s.drop j.toNat) = true then spec_IsKernel.l0 k K xs m (wrap64 (i + 1)) else some false := by
  induction d with
  | zero =>
    intro k s j h0 hs hd
    rw [spec_IsKernel.l1, if_neg (by omega), List.drop_eq_nil_of_le (by omega)]; rfl
  | succ d ih =>
    intro k s j h0 hs hd
    rw [← Nat.add_assoc, spec_IsKernel.l1, if_pos (by omega), if_pos h0, if_pos (by omega), w64 (by omega) (by omega), ih k s (j + 1) (by omega) hs (by omega), dropK h0 (by omega), newB]
    by_cases h1 : x = (rd_T60 s j).f0
    · by_cases h2 : y = (rd_T60 s j).f1
      · rw [if_pos h1, if_pos h2, if_pos (And.intro h1 h2)]; rfl
      · rw [if_pos h1, if_neg h2, if_neg (show ¬ (_ ∧ _) from fun h => h2 h.2)]
    · rw [if_neg h1, if_neg (show ¬ (_ ∧ _) from fun h => h1 h.1)]
theorem chainS {α : Type} (J : Bool → Option α) (a : S60) : (spec_l1In.f a.f0 (-4) 4).bind (fun t => if t = true then (spec_l1In.f a.f1 0 4).bind (fun t => if t = true then (if a.f1 = 0 then (if a.f0 < 1 then J true else (spec_l1In.f a.f2 1 100).bind fun t => J (!t)) else (spec_l1In.f a.f2 1 100).bind fun t => J (!t)) else J true) else J true) = J (!decide (okP a)) := by
  simp only [l1In, Option.bind_some, decide_eq_true_eq, ← decide_not]
  repeat' split
  all_goals (congr 1; first | exact decide_eq_decide.mpr (by unfold okP; omega) | exact (decide_eq_true (by unfold okP; omega)).symm)
theorem kers_l (K : List S60) (hK : K.length ≤ 12) (d : Nat) : ∀ (k : Nat) (i : Int), 0 ≤ i → (K.length : Int) - i = d → d * 16 < k →
    spec_IsKernel.l0 k K K K.length i = some (kerB (K.drop i.toNat) (K.take i.toNat)) := by
  induction d with
  | zero =>
    intro k i h0 hd hk
    obtain ⟨k, rfl⟩ : ∃ m, k = m + 1 := ⟨k - 1, by omega⟩
    rw [spec_IsKernel.l0, if_neg (by omega), List.drop_eq_nil_of_le (by omega)]; rfl
  | succ d ih =>
    intro k i h0 hd hk
    have tl : (K.take i.toNat).length = i.toNat := by rw [List.length_take]; omega
    obtain ⟨k, rfl⟩ : ∃ m, k = m + i.toNat + 1 + 1 + 1 := ⟨k - i.toNat - 3, by omega⟩
    rw [spec_IsKernel.l0, if_pos (by omega), if_pos h0, if_pos (by omega), dropK h0 (by omega), kerB]
    refine (chainS (fun b => spec_IsKernel.j1 _ K i K K.length i b (rd_T60 K i).f0 (rd_T60 K i).f1 (rd_T60 K i).f2) (rd_T60 K i)).trans ?_
    rw [spec_IsKernel.j1]
    by_cases ho : okP (rd_T60 K i)
    · rw [decide_eq_true ho, if_neg (by decide), if_pos h0, if_pos (by omega), Option.bind_some, kers_l1 K K K.length i _ _ _ i.toNat k (K.take i.toNat) 0 (by omega) (by omega) (by omega)]
      rw [w64 (by omega) (by omega), ih k (i + 1) (by omega) (by omega) (by omega), takeK h0 (by omega)]
      show _ = some (true && newB _ _ (K.take i.toNat) && _)
      rw [Bool.true_and]
      show (if newB _ _ (K.take i.toNat) = true then _ else _) = _
      cases newB (rd_T60 K i).f0 (rd_T60 K i).f1 (K.take i.toNat) <;> rfl
    · rw [decide_eq_false ho, if_pos (by decide)]; rfl
theorem ker_s {K : List S60} {k : Nat} (hk : 1100 ≤ k) : spec_IsKernel.f k K = some (decide (Ker K)) := by
  unfold spec_IsKernel.f
  rw [l1In, Option.bind_some]
  by_cases h : 1 ≤ (K.length : Int) ∧ (K.length : Int) ≤ 12
  · rw [if_pos (decide_eq_true h), kers_l K (by omega) K.length k 0 (by omega) (by omega) (by omega)]
    show some (kerB K []) = _
    have : Ker K ↔ kerB K [] = true := ⟨fun h => h.2.2, fun e => ⟨by omega, by omega, e⟩⟩
    by_cases hb : kerB K [] = true
    · rw [hb, decide_eq_true (this.mpr hb)]
    · rw [decide_eq_false (fun e => hb (this.mp e))]; simpa using hb
  · rw [if_neg (by rw [decide_eq_true_iff]; exact h)]; exact dec_ff (fun e => h ⟨by have := e.1; omega, by have := e.2.1; omega⟩)
theorem kdrawl_c (xs : List Int) (hl : xs.length ≤ 140737488351232) (d : Nat) : ∀ (k : Nat) (K : List S60) (n i h : Int), 0 ≤ i → i ≤ xs.length → n ≤ d ∧ n ≤ 100 → d + 2000 < k → Ker K →
    ∃ K' i' h', spec_l4Draw.l0 k K n xs i h = some (K', i', h') ∧ Ker K' := by
  induction d with
  | zero =>
    intro k K n i h i0 i1 hn hk hK
    obtain ⟨k, rfl⟩ : ∃ m, k = m + 1 := ⟨k - 1, by omega⟩
    rw [spec_l4Draw.l0, if_neg (by omega)]; exact ⟨K, _, _, rfl, hK⟩
  | succ d ih =>
    intro k K n i h i0 i1 hn hk hK
    obtain ⟨k, rfl⟩ : ∃ m, k = m + 1 := ⟨k - 1, by omega⟩
    rw [spec_l4Draw.l0]
    by_cases h0 : n > 0
    · rw [if_pos h0]
      obtain ⟨a, i1_, h1, e1, a0, a1, p0, p1⟩ := below_c xs hl i h 9 i0 i1 (by omega) (by omega)
      rw [e1]; simp only [Option.bind_some]
      obtain ⟨b, i2, h2, e2, b0, b1, p2, p3⟩ := below_c xs hl i1_ h1 5 p0 p1 (by omega) (by omega)
      rw [e2]; simp only [Option.bind_some]
      obtain ⟨c, i3, h3, e3, c0, c1, p4, p5⟩ := below_c xs hl i2 h2 30 p2 p3 (by omega) (by omega)
      rw [e3]; simp only [Option.bind_some]
      have hkl := hK.2.1
      rw [if_pos (by simp only [List.length_nil]; omega), if_pos (by simp only [List.length_append, List.length_nil, List.length_cons]; omega), ker_s (by omega), Option.bind_some, w64 (x := n - 1) (by omega) (by omega)]
      split
      · rename_i hd; exact ih k _ (n - 1) i3 h3 p4 p5 ⟨by omega, by omega⟩ (by omega) (of_decide_eq_true hd)
      · exact ih k K (n - 1) i3 h3 p4 p5 ⟨by omega, by omega⟩ (by omega) hK
    · rw [if_neg h0]; exact ⟨K, _, _, rfl, hK⟩
theorem kdraw_c (xs : List Int) (hl : xs.length ≤ 140737488351232) (i h : Int) (h0 : 0 ≤ i) (h1 : i ≤ xs.length) {k : Nat} (hk : 5000 ≤ k) : ∃ K i' h', spec_l4Draw.f k xs i h = some (K, i', h') ∧ Ker K := by
  unfold spec_l4Draw.f
  obtain ⟨a, i1, h1_, e1, a0, a1, p0, p1⟩ := below_c xs hl i h 4 h0 h1 (by omega) (by omega)
  rw [e1]; simp only [Option.bind_some]
  by_cases q0 : a = 0
  · rw [if_pos q0]; exact ⟨_, _, _, rfl, by decide⟩
  rw [if_neg q0]
  by_cases q1 : a = 1
  · rw [if_pos q1]; exact ⟨_, _, _, rfl, by decide⟩
  rw [if_neg q1]
  by_cases q2 : a = 2
  · rw [if_pos q2]; exact ⟨_, _, _, rfl, by decide⟩
  rw [if_neg q2]
  obtain ⟨b, i2, h2, e2, b0, b1, p2, p3⟩ := below_c xs hl i1 h1_ 9 p0 p1 (by omega) (by omega)
  rw [e2]; simp only [Option.bind_some]
  obtain ⟨c, i3, h3, e3, c0, c1, p4, p5⟩ := below_c xs hl i2 h2 4 p2 p3 (by omega) (by omega)
  rw [e3]; simp only [Option.bind_some]
  refine kdrawl_c xs hl 4 k _ c i3 h3 p4 p5 ⟨by omega, by omega⟩ (by omega) ?_
  rw [w64 (by omega) (by omega)]
  refine ⟨by simp, by simp, ?_⟩
  have : okP (⟨0, 1, 1 + b⟩ : S60) := by unfold okP; simp only; omega
  simp only [kerB, newB, Bool.and_true, List.nil_append]; exact decide_eq_true this
theorem kern_c (xs : List Int) (hl : xs.length ≤ 140737488351232) {k : Nat} (hk : 5000 ≤ k) : ∃ K, spec_MakeKernel.f k xs = some K ∧ Ker K := by
  obtain ⟨h, e⟩ := new_c xs k (by omega)
  unfold spec_MakeKernel.f
  rw [e]; simp only [Option.bind_some]
  obtain ⟨K, i', h', e2, hK⟩ := kdraw_c xs hl 0 h (by omega) (by omega) hk
  rw [e2]; exact ⟨K, rfl, hK⟩
theorem at_c (xs : List Int) (hl : xs.length ≤ 140737488351232) (hw : ∀ x ∈ xs, (Lit.int .u8 x).wf = true) (i : Int) (h0 : 0 ≤ i) (h1 : i ≤ 1000) : ∃ v, laws_at.f xs i = some v ∧ 0 ≤ v ∧ v ≤ 255 := by
  unfold laws_at.f
  by_cases hlt : i < (xs.length : Int)
  · rw [if_pos hlt, if_pos h0]
    have hm : rd xs i ∈ xs := by
      have : i.toNat < xs.length := by omega
      unfold rd; rw [List.getD_eq_getElem?_getD, List.getElem?_eq_getElem this, Option.getD_some]; exact List.getElem_mem this
    have hb : 0 ≤ rd xs i ∧ rd xs i ≤ 255 := by
      have h := hw _ hm
      simp only [Lit.wf, Bool.and_eq_true, decide_eq_true_eq] at h
      exact h
    exact ⟨_, rfl, by rw [w64 (by omega) (by omega)]; exact hb.1, by rw [w64 (by omega) (by omega)]; exact hb.2⟩
  · rw [if_neg hlt]
    refine ⟨_, rfl, ?_⟩
    rw [w64 (x := i * 37) (by omega) (by omega), w64 (x := _ * 11) (by omega) (by omega), w64 (by omega) (by omega), tmod_pos (by omega)]
    omega
theorem sz_top {W H h : Int} (hs : Sz W H) (h0 : 1 ≤ h) (h1 : h ≤ H) : Sz W h ∧ W * h ≤ W * H := by
  have := Int.mul_le_mul_of_nonneg_left h1 (show 0 ≤ W by have := hs.1; omega)
  exact ⟨⟨hs.1, hs.2.1, h0, by have := hs.2.2.2.1; omega, by have := hs.2.2.2.2; omega⟩, this⟩
theorem up_top {W H h m : Int} {l : List Int} (hu : Up W H l m) (h0 : 1 ≤ h) (h1 : h ≤ H) : Up W h (l.take (W * h).toNat) m := by
  have hs := sz_top hu.1 h0 h1
  have hl := hu.2.1; have ha := hs.1.area
  exact ⟨hs.1, by rw [List.length_take]; omega, fun v hv => hu.2.2 v (List.mem_of_mem_take hv)⟩
theorem at_take {l : List Int} {n : Nat} {i : Int} (h0 : 0 ≤ i) (h : i < n) : at_ (l.take n) i = at_ l i := by
  unfold at_; rw [List.getD_eq_getElem?_getD, List.getD_eq_getElem?_getD, List.getElem?_take_of_lt (by omega)]
theorem crop_tab {W H h : Int} {l : List Int} (hs : Sz W H) (hl : (l.length : Int) = W * H) (h0 : 1 ≤ h) (h1 : h ≤ H) : tab (fun i => at_ l i) (W * h).toNat 0 = l.take (W * h).toNat := by
  have := sz_top hs h0 h1; have ha := this.1.area
  refine list_ext (by rw [tab_length, List.length_take]; omega) fun i i0 i1 => ?_
  rw [tab_length] at i1
  rw [tab_val _ i0 i1, at_take i0 i1]
theorem crop_i {W H h m : Int} {l : List Int} (hm : m ≤ 255) (hu : Up W H l m) (h0 : 1 ≤ h) (h1 : h ≤ H) : impl_CropPicture.f W H l 0 0 W h = some (W, h, l.take (W * h).toNat, true) := by
  have ht := sz_top hu.1 h0 h1; have ha := ht.1.area; have hA := hu.1.area; have hl := hu.2.1
  have hW := hu.1.1; have hW2 := hu.1.2.1; have hH2 := hu.1.2.2.2.1; have hH1 := hu.1.2.2.1
  have hu2 : Up W H l 255 := ⟨hu.1, hu.2.1, fun v hv => ⟨(hu.2.2 v hv).1, by have := (hu.2.2 v hv).2; omega⟩⟩
  unfold impl_CropPicture.f impl_CropPicture_1.drawn.f
  rw [pict_i (by omega), Option.bind_some, if_pos (decide_eq_true hu2), size_i, Option.bind_some, if_pos (decide_eq_true ht.1), if_neg (by omega), if_neg (by omega), w64 (x := W - W) (by omega) (by omega), if_neg (by omega), w64 (x := H - h) (by omega) (by omega), if_neg (by omega)]
  rw [drawn_some (AT := fun x y => impl_CropPicture_1.f x y W H l 0 0) (F := fun i => at_ l i) ht.1 (fun x y x0 x1 y0 y1 => by
    have q := xy_idx (W := W) (H := h) x0 x1 y0 y1
    have hx : wrap64 (wrap64 (wrap64 (wrap64 (0 + y) * W) + 0) + x) = y * W + x := by
      have p := mul_bd (c := 64) (d := 64) y0 (by omega) (show 0 ≤ W by omega) hW2
      rw [Int.zero_add, w64 (x := y) (by omega) (by omega), w64 (x := y * W) (by omega) (by omega), Int.add_zero, w64 (x := y * W) (by omega) (by omega), w64 (by omega) (by omega)]
    unfold impl_CropPicture_1.f
    rw [hx, if_pos q.1, if_pos (by omega), rd_at]), Option.bind_some, crop_tab hu.1 hl h0 h1]
theorem size_s (W H : Int) : spec_l1Size.f W H = some (decide (Sz W H)) := by
  unfold spec_l1Size.f
  simp only [l1In, Option.bind_some]
  by_cases hW : 1 ≤ W ∧ W ≤ 64
  · by_cases hH : 1 ≤ H ∧ H ≤ 64
    · have := mul_bd (c := 64) (d := 64) (show 0 ≤ W by omega) hW.2 (show 0 ≤ H by omega) hH.2
      rw [if_pos (decide_eq_true hW), if_pos (decide_eq_true hH), w64 (by omega) (by omega)]
      exact dec_dd (by unfold Sz; omega)
    · rw [if_pos (decide_eq_true hW), if_neg (by rw [decide_eq_true_iff]; exact hH)]; exact dec_ff (fun h => hH ⟨h.2.2.1, h.2.2.2.1⟩)
  · rw [if_neg (by rw [decide_eq_true_iff]; exact hW)]; exact dec_ff (fun h => hW ⟨h.1, h.2.1⟩)
theorem up_l (m : Int) (d : Nat) : ∀ (k : Nat) (l : List Int) (i : Int), 0 ≤ i → l.length ≤ 1048576 → i ≤ l.length → (l.length : Int) - i = d → d < k → spec_l1Up.l0 k m l l.length i = some (decide (All m (l.drop i.toNat))) := by
  induction d with
  | zero =>
    intro k l i h0 hl h1 hd hk
    obtain ⟨k, rfl⟩ : ∃ m, k = m + 1 := ⟨k - 1, by omega⟩
    rw [spec_l1Up.l0, if_neg (by omega), List.drop_eq_nil_of_le (by omega)]
    rw [decide_eq_true (show All m [] from fun v h => by simp at h)]
  | succ d ih =>
    intro k l i h0 hl h1 hd hk
    obtain ⟨k, rfl⟩ : ∃ m, k = m + 1 := ⟨k - 1, by omega⟩
    rw [spec_l1Up.l0, if_pos (by omega), if_pos h0, if_pos (by omega), l1In, rd_at, Option.bind_some, drop_at l h0 (by omega), w64 (by omega) (by omega)]
    by_cases h : 0 ≤ at_ l i ∧ at_ l i ≤ m
    · rw [if_pos (decide_eq_true h), ih k l (i + 1) (by omega) hl (by omega) (by omega) (by omega)]
      exact dec_dd (by rw [All.cons]; exact ⟨fun x => ⟨h, x⟩, fun x => x.2⟩)
    · rw [if_neg (by rw [decide_eq_true_iff]; exact h)]; exact dec_ff (fun x => h (All.cons.mp x).1)
theorem up_s {W H : Int} {l : List Int} (hl : l.length ≤ 1048576) (m : Int) {k : Nat} (hk : 1100000 ≤ k) : spec_l1Up.f k W H l m = some (decide (Up W H l m)) := by
  obtain ⟨k, rfl⟩ : ∃ m, k = m + 1 := ⟨k - 1, by omega⟩
  unfold spec_l1Up.f
  rw [size_s, Option.bind_some]
  by_cases h : Sz W H
  · have := h.area
    rw [if_pos (decide_eq_true h), w64 (by omega) (by omega), spec_l1Up.j0]
    by_cases e : (l.length : Int) = W * H
    · rw [if_neg (by rw [bne_iff_ne]; exact fun x => x e), up_l m l.length k l 0 (by omega) hl (by omega) (by omega) (by omega)]
      exact dec_dd ⟨fun x => ⟨h, e, x⟩, fun x => x.2.2⟩
    · rw [if_pos (by rw [bne_iff_ne]; exact e)]; exact dec_ff (fun x => e x.2.1)
  · rw [if_neg (by rw [decide_eq_true_iff]; exact h), spec_l1Up.j0, if_pos rfl]; exact dec_ff (fun x => h x.1)
theorem pict_s {W H : Int} {l : List Int} (hl : l.length ≤ 1048576) {k : Nat} (hk : 1100000 ≤ k) : spec_IsPicture.f k W H l = some (decide (Up W H l 255)) := by
  unfold spec_IsPicture.f; rw [up_s hl 255 hk]; rfl
theorem cropl_s {W H h : Int} {l : List Int} (hs : Sz W H) (hl : (l.length : Int) = W * H) (h0 : 1 ≤ h) (h1 : h ≤ H) (d : Nat) : ∀ (k : Nat) (i : Int) (M : List Int), 0 ≤ i → (M.length : Int) = W * h → W * h - i = d → d < k →
    spec_CropPicture.l0 k 0 0 W (W * h) i W H l W h M = some (W, h, M.take i.toNat ++ (l.take (W * h).toNat).drop i.toNat, true) := by
  have ht := sz_top hs h0 h1; have ha := ht.1.area; have hA := hs.area
  induction d with
  | zero =>
    intro k i M i0 hM hd hk
    obtain ⟨k, rfl⟩ : ∃ m, k = m + 1 := ⟨k - 1, by omega⟩
    rw [spec_CropPicture.l0, if_neg (by omega), List.drop_eq_nil_of_le (by rw [List.length_take]; omega), List.append_nil, List.take_of_length_le (by omega)]
  | succ d ih =>
    intro k i M i0 hM hd hk
    obtain ⟨k, rfl⟩ : ∃ m, k = m + 1 := ⟨k - 1, by omega⟩
    have hr := hs.row i0 (by omega)
    have hW := hs.1; have hW2 := hs.2.1; have hH2 := hs.2.2.2.1
    have hx : wrap64 (wrap64 (wrap64 (wrap64 (0 + wrap64 (Int.tdiv i W)) * W) + 0) + Int.tmod i W) = i := by
      have hx := xy_of W i
      rw [tdiv_pos i0, tmod_pos i0, w64 (x := i / W) (by omega) (by omega), Int.zero_add, w64 (x := i / W) (by omega) (by omega), w64 (x := i / W * W) (by omega) (by omega), Int.add_zero, w64 (x := i / W * W) (by omega) (by omega), hx, w64 (by omega) (by omega)]
    rw [spec_CropPicture.l0, if_pos (by omega), if_neg (by omega), hx, if_pos i0, if_pos (by omega), if_pos i0, if_pos (by omega), w64 (x := i + 1) (by omega) (by omega), ih k (i + 1) _ (by omega) (by rw [List.length_set]; exact hM) (by omega) (by omega), rd_at]
    rw [drop_at (l.take (W * h).toNat) i0 (by rw [List.length_take]; omega), at_take i0 (by omega)]
    rw [show (i + 1).toNat = i.toNat + 1 by omega, List.take_succ_eq_append_getElem (by rw [List.length_set]; omega), List.getElem_set, if_pos rfl, List.take_set_of_le (Nat.le_refl _)]
    simp only [List.append_assoc, List.cons_append, List.nil_append]
theorem crop_s {W H h : Int} {l : List Int} (hu : Up W H l 255) (h0 : 1 ≤ h) (h1 : h ≤ H) {k : Nat} (hk : 1200000 ≤ k) : spec_CropPicture.f k W H l 0 0 W h = some (W, h, l.take (W * h).toNat, true) := by
  have ht := sz_top hu.1 h0 h1; have ha := ht.1.area; have hA := hu.1.area; have hl := hu.2.1
  have hW := hu.1.1; have hW2 := hu.1.2.1; have hH2 := hu.1.2.2.2.1
  obtain ⟨k, rfl⟩ : ∃ m, k = m + 1 := ⟨k - 1, by omega⟩
  unfold spec_CropPicture.f
  rw [pict_s (by omega) (by omega), Option.bind_some, if_pos (decide_eq_true hu), size_s, Option.bind_some, if_pos (decide_eq_true ht.1), l1In, Option.bind_some, w64 (x := W - W) (by omega) (by omega), if_pos (decide_eq_true (by omega)), l1In, Option.bind_some, w64 (x := H - h) (by omega) (by omega), decide_eq_true (show (0 : Int) ≤ 0 ∧ 0 ≤ H - h by omega), spec_CropPicture.j0, if_neg (by simp), empty_s ht.1, Option.bind_some]
  have hn : (((List.replicate (W * h).toNat (0 : Int)).length : Nat) : Int) = W * h := by rw [List.length_replicate]; omega
  show spec_CropPicture.l0 k 0 0 W ((List.replicate (W * h).toNat (0 : Int)).length : Int) 0 W H l W h (List.replicate (W * h).toNat 0) = _
  rw [hn, cropl_s hu.1 hl h0 h1 (W * h).toNat k 0 _ (by omega) hn (by omega) (by omega)]; rfl
theorem take_set_ge {l : List Int} {n i : Nat} {v : Int} (h : n ≤ i) : (l.set i v).take n = l.take n := by
  rw [List.take_set, List.set_eq_of_length_le (by rw [List.length_take]; omega)]
theorem spread_take {W H h way x y : Int} (hs : Sz W H) (h0 : 1 ≤ h) (h1 : h ≤ H) (y0 : 0 ≤ y) : ∀ (t : List S60) (u V : List Int) (L L' : Int), (∀ a ∈ t, okP a) →
    (spread W h way x y t u (V.take (W * h).toNat) L').1 = (spread W H way x y t u V L).1.take (W * h).toNat := by
  intro t
  have hW := hs.1
  induction t with
  | nil => intro u V L L' _; rfl
  | cons a t ih =>
    intro u V L L' ho
    cases u with
    | nil => rfl
    | cons s u =>
      have ht : ∀ b ∈ t, okP b := fun b hb => ho b (List.mem_cons_of_mem _ hb)
      have ha := ho a (List.mem_cons_self ..); unfold okP at ha
      rw [spread, spread]
      by_cases c1 : x + way * a.f0 < 0 ∨ W ≤ x + way * a.f0 ∨ H ≤ y + a.f1
      · rw [if_pos c1, if_pos (by omega)]; exact ih u V _ _ ht
      · rw [if_neg c1]
        have ha2 := sz_top hs h0 h1; have ar := ha2.1.area
        by_cases c2 : h ≤ y + a.f1
        · rw [if_pos (by omega)]
          have q : W * h ≤ (y + a.f1) * W := by rw [Int.mul_comm W h]; exact Int.mul_le_mul_of_nonneg_right c2 (by omega)
          rw [← take_set_ge (l := V) (i := ((y + a.f1) * W + (x + way * a.f0)).toNat) (v := wrap64 (at_ V ((y + a.f1) * W + (x + way * a.f0)) + s)) (show (W * h).toNat ≤ _ by omega)]
          exact ih u _ L _ ht
        · have q := xy_idx (W := W) (H := h) (x := x + way * a.f0) (y := y + a.f1) (by omega) (by omega) (by omega) (by omega)
          rw [if_neg (by omega), at_take q.1 (by omega), ← List.take_set]
          exact ih u _ L L' ht
theorem difF_top {K : List S60} (hk : Ker K) {W H h : Int} (hs : Sz W H) (h0 : 1 ≤ h) (h1 : h ≤ H) (al : Bool) (d : Nat) : ∀ (i : Int) (V D E : List Int) (L L' : Int), 0 ≤ i → W * H - i = d → (V.length : Int) = W * H →
    (difF K W h al (W * h - i).toNat i (V.take (W * h).toNat) (D.take (W * h).toNat) (E.take (W * h).toNat) L').1 = (difF K W H al d i V D E L).1.take (W * h).toNat := by
  have ht := sz_top hs h0 h1; have ha := ht.1.area
  induction d with
  | zero =>
    intro i V D E L L' i0 hd hV
    rw [show (W * h - i).toNat = 0 by omega]; rfl
  | succ d ih =>
    intro i V D E L L' i0 hd hV
    have hr := hs.row i0 (by omega)
    have hc := col_bd hs i0 (by omega) al
    have hxy := xy_of W i
    by_cases c : i < W * h
    · have hr2 := ht.1.row i0 c
      have q := xy_idx (W := W) (H := h) hc.1 hc.2 hr2.2.2.1 hr2.2.2.2
      obtain ⟨e, he⟩ : ∃ e, (W * h - i).toNat = e + 1 := ⟨(W * h - i).toNat - 1, by omega⟩
      have he2 : e = (W * h - (i + 1)).toNat := by omega
      rw [he, difF, difF, at_take q.1 (by omega), spread_take hs h0 h1 hr.2.2.1 K _ V L L' (fun a m => hk.ok m), he2]
      have hD : (if at_ V (i / W * W + colF W al i) ≥ 128 then (D.take (W * h).toNat).set (i / W * W + colF W al i).toNat 1 else D.take (W * h).toNat) = (if at_ V (i / W * W + colF W al i) ≥ 128 then D.set (i / W * W + colF W al i).toNat 1 else D).take (W * h).toNat := by
        split
        · rw [List.take_set]
        · rfl
      rw [hD, ← List.take_set]
      exact ih (i + 1) _ _ _ _ _ (by omega) (by omega) (by rw [spread_len]; exact hV)
    · have q : W * h ≤ i / W * W := by
        have : h ≤ i / W := by
          have : W * h ≤ i := by omega
          exact (Int.le_ediv_iff_mul_le (by have := hs.1; omega)).mpr (by rw [Int.mul_comm]; exact this)
        rw [Int.mul_comm W h]; exact Int.mul_le_mul_of_nonneg_right this (by have := hs.1; omega)
      rw [difF]
      have e0 : (W * h - i).toNat = (W * h - (i + 1)).toNat := by omega
      have hD : D.take (W * h).toNat = (if at_ V (i / W * W + colF W al i) ≥ 128 then D.set (i / W * W + colF W al i).toNat 1 else D).take (W * h).toNat := by
        split
        · rw [take_set_ge (by omega)]
        · rfl
      have e1 : (W * h - i).toNat = 0 := by omega
      have := ih (i + 1) (spread W H (wayF al (i / W)) (colF W al i) (i / W) K (kShares K (errF (at_ V (i / W * W + colF W al i)))) V L).1
        (if at_ V (i / W * W + colF W al i) ≥ 128 then D.set (i / W * W + colF W al i).toNat 1 else D)
        (E.set (i / W * W + colF W al i).toNat (errF (at_ V (i / W * W + colF W al i))))
        (spread W H (wayF al (i / W)) (colF W al i) (i / W) K (kShares K (errF (at_ V (i / W * W + colF W al i)))) V L).2 L' (by omega) (by omega) (by rw [spread_len]; exact hV)
      rw [← this, ← e0, e1, ← hD]; rfl
theorem dif_top {K : List S60} (hk : Ker K) {W H h : Int} {l : List Int} (hs : Sz W H) (hl : (l.length : Int) = W * H) (h0 : 1 ≤ h) (h1 : h ≤ H) (al : Bool) : (dif K W h (l.take (W * h).toNat) al).1 = (dif K W H l al).1.take (W * h).toNat := by
  have ht := sz_top hs h0 h1; have ha := ht.1.area
  have e := difF_top hk hs h0 h1 al l.length 0 l (List.replicate l.length 0) (List.replicate l.length 0) 0 0 (by omega) (by omega) hl
  have n1 : (l.take (W * h).toNat).length = (W * h).toNat := by rw [List.length_take]; omega
  unfold dif
  rw [← e, n1, List.take_replicate, show min (W * h).toNat l.length = (W * h).toNat by omega, Int.sub_zero]
theorem difF_one (K : List S60) {W : Int} (hW : 1 ≤ W) (d : Nat) : ∀ (i : Int) (V D E : List Int) (L : Int), 0 ≤ i → i + d ≤ W → difF K W 1 true d i V D E L = difF K W 1 false d i V D E L := by
  induction d with
  | zero => intro i V D E L _ _; rfl
  | succ d ih =>
    intro i V D E L i0 i1
    have e0 : i / W = 0 := Int.ediv_eq_zero_of_lt i0 (by omega)
    have e1 : colF W true i = colF W false i := by unfold colF; rw [e0, if_neg (by omega), if_neg (by simp)]
    have e2 : wayF true (i / W) = wayF false (i / W) := by unfold wayF; rw [e0, if_neg (by omega), if_neg (by simp)]
    rw [difF, difF, e1, e2]
    exact ih (i + 1) _ _ _ _ (by omega) (by omega)
theorem pure_FnCausal (l0 : List Int) (h0 : l0.length ≤ maxLen) (hl : l0.length * 1 ≤ 140737488351232) (hw : ∀ x ∈ l0, (Lit.int .u8 x).wf = true) : ∃ k, laws_FnCausal.f k l0 = some true := by
  obtain ⟨m, hm⟩ : ∃ m : Nat, 4000000 ≤ m := ⟨4000000, Nat.le_refl _⟩
  refine ⟨m + 8, ?_⟩
  unfold laws_FnCausal.f
  by_cases h : (l0.length : Int) > 1048576
  · rw [if_pos h]
  · rw [if_neg h]
    obtain ⟨K, eK, hK⟩ := kern_c l0 (by omega) (k := m + 8) (by omega)
    obtain ⟨ys, ey, hy⟩ := fresh_c l0 3 (k := m + 8) (by omega)
    obtain ⟨W, H, l, ep, hW, hH, hu⟩ := pict_c ys (by omega) 9 (by omega) (by omega) (k := m + 8) (by omega)
    obtain ⟨v1, ev1, v10, v11⟩ := at_c l0 (by omega) hw 1 (by omega) (by omega)
    obtain ⟨v2, ev2, v20, v21⟩ := at_c l0 (by omega) hw 2 (by omega) (by omega)
    have ha := hu.1.area; have hln := hu.2.1; have hW1 := hu.1.1; have hH1 := hu.1.2.2.1
    rw [eK, Option.bind_some, ey, Option.bind_some, ep]; simp only [Option.bind_some]
    rw [ev1, Option.bind_some, ev2, Option.bind_some, if_neg (by omega)]
    have hk12 := hK.2.1
    have KD : ∀ {G : Int} {p : List Int} (al : Bool), Up W G p 255 → kDif K W G p al = (W, G, (dif K W G p al).1, (dif K W G p al).2.2, true) := fun al hp => by unfold kDif; rw [if_pos ⟨hK, hp⟩]
    have hmod := Int.emod_nonneg v2 (show H ≠ 0 by omega); have hmod2 := Int.emod_lt_of_pos v2 (show 0 < H by omega)
    rw [tmod_pos v20, w64 (x := 1 + v2 % H) (by omega) (by omega)]
    generalize hh : 1 + v2 % H = hgt
    have g0 : 1 ≤ hgt := by omega
    have g1 : hgt ≤ H := by omega
    generalize hal : (Int.tmod v1 2 == 1) = al
    have hut := up_top hu g0 g1
    have hd := dif_up (K := K) al hu
    have hlt : (l.take (W * hgt).toNat).length ≤ 1048576 := by rw [List.length_take]; omega
    rw [difp_i (by omega) al (by omega) (by omega), Option.bind_some, KD al hu]
    simp only
    rw [crop_i (by omega) hd g0 g1, Option.bind_some, crop_s hu g0 g1 (by omega), Option.bind_some]
    simp only
    rw [difp_i (by omega) al hlt (by omega), Option.bind_some, KD al hut]
    simp only
    rw [if_pos trivial, if_pos trivial, if_pos trivial, dif_top hK hu.1 hln g0 g1 al]
    rw [same_c _ _ _ (by rw [List.length_take, (dif_len K W H l al).1]; omega) (by omega), Option.bind_some, laws_FnCausal.j0, if_neg (by simp)]
    have hu1 := up_top hu (show (1 : Int) ≤ 1 by omega) hH1
    have hlt1 : (l.take (W * 1).toNat).length ≤ 1048576 := by rw [List.length_take]; omega
    rw [crop_s hu (show (1 : Int) ≤ 1 by omega) hH1 (by omega), Option.bind_some]
    simp only
    rw [difp_i (by omega) true hlt1 (by omega), Option.bind_some, difp_i (by omega) false hlt1 (by omega), Option.bind_some, KD true hu1, KD false hu1]
    have e1 : dif K W 1 (l.take (W * 1).toNat) true = dif K W 1 (l.take (W * 1).toNat) false := by
      unfold dif; exact difF_one K hW1 _ 0 _ _ _ _ (by omega) (by rw [List.length_take]; omega)
    simp only [e1]
    rw [same_c _ _ _ (by rw [(dif_len K W 1 (l.take (W * 1).toNat) false).1]; exact hlt1) (by omega), Option.bind_some, if_pos rfl, beq_self_eq_true]
end Go.Proofs.Ytnohdgbfgdnpfaa.PFnCausal
