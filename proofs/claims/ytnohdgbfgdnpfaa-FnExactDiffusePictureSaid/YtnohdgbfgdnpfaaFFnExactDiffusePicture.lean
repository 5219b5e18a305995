/- What the functions that laws.FnExactDiffusePicture reaches compute, and that the law is true: over numbers alone. -/
import Derived.Test.YtnohdgbfgdnpfaaPFnExactDiffusePicturex
import Derived.Test.YtnohdgbfgdnpfaaPic2
import Derived.Laws.Strings
namespace Go.Proofs.Ytnohdgbfgdnpfaa.PFnExactDiffusePicture
open Go.RowKit Go.Proofs.YtnohdgbfgdnpfaaW.PrintWords Go.Proofs.YtnohdgbfgdnpfaaW.PrintLast Go.Proofs.YtnohdgbfgdnpfaaW.PrintMore
set_option linter.unusedVariables false
set_option linter.unusedSimpArgs false
set_option linter.unusedSimpArgs false
open Pic
theorem w64 {x : Int} (h1 : -9223372036854775808 ≤ x) (h2 : x ≤ 9223372036854775807) : wrap64 x = x := by unfold wrap64; omega
theorem rd_at (l : List Int) (i : Int) : rd l i = at_ l i := rfl
theorem tmod_pos {n x : Int} (h : 0 ≤ x) : Int.tmod x n = x % n := Int.tmod_eq_emod_of_nonneg h
theorem tdiv_pos {n x : Int} (h : 0 ≤ x) : Int.tdiv x n = x / n := Int.tdiv_eq_ediv_of_nonneg h
theorem dec_ff {p : Prop} [Decidable p] (h : ¬ p) : some false = some (decide p) := by rw [decide_eq_false h]
theorem dec_dd {p q : Prop} [Decidable p] [Decidable q] (h : p ↔ q) : some (decide p) = some (decide q) := by rw [decide_eq_decide.mpr h]
theorem mn_eq (a b : Int) : mn a b = if b < a then b else a := rfl
theorem up_wide {W H : Int} {l : List Int} (h : Up W H l 1) : Up W H l 255 := ⟨h.1, h.2.1, fun v hv => ⟨(h.2.2 v hv).1, by have := (h.2.2 v hv).2; omega⟩⟩
theorem mk_neg (n : Nat) : ¬ ((1 : Int) + n < 0) := by omega
theorem rdK_at {l : List S60} {i : Nat} (h : i < l.length) : rd_T60 l (i : Int) = l[i] := by
  show l.getD (i : Int).toNat z60 = _
  rw [Int.toNat_natCast, List.getD_eq_getElem?_getD, List.getElem?_eq_getElem h]; rfl
theorem dropK {l : List S60} {i : Int} (h0 : 0 ≤ i) (h : i < l.length) : l.drop i.toNat = rd_T60 l i :: l.drop (i + 1).toNat := by
  obtain ⟨j, rfl⟩ : ∃ j : Nat, i = j := ⟨i.toNat, by omega⟩
  rw [rdK_at (by omega), show ((j : Int) + 1).toNat = j + 1 by omega, Int.toNat_natCast]
  exact List.drop_eq_getElem_cons (by omega)
theorem takeK {l : List S60} {i : Int} (h0 : 0 ≤ i) (h : i < l.length) : l.take (i + 1).toNat = l.take i.toNat ++ [rd_T60 l i] := by
  obtain ⟨j, rfl⟩ : ∃ j : Nat, i = j := ⟨i.toNat, by omega⟩
  rw [rdK_at (by omega), show ((j : Int) + 1).toNat = j + 1 by omega, Int.toNat_natCast]
  exact List.take_succ_eq_append_getElem (by omega)
theorem memK {l : List S60} {i : Int} (h0 : 0 ≤ i) (h : i < l.length) : rd_T60 l i ∈ l := by
  obtain ⟨j, rfl⟩ : ∃ j : Nat, i = j := ⟨i.toNat, by omega⟩
  rw [rdK_at (by omega)]; exact List.getElem_mem _
def okP (a : S60) : Prop := -4 ≤ a.f0 ∧ a.f0 ≤ 4 ∧ 0 ≤ a.f1 ∧ a.f1 ≤ 4 ∧ ¬ (a.f1 = 0 ∧ a.f0 < 1) ∧ 1 ≤ a.f2 ∧ a.f2 ≤ 100
instance (a : S60) : Decidable (okP a) := by unfold okP; infer_instance
def newB (x y : Int) : List S60 → Bool
  | [] => true
  | b :: t => if x = b.f0 ∧ y = b.f1 then false else newB x y t
def kerB : List S60 → List S60 → Bool
  | [], _ => true
  | a :: t, s => decide (okP a) && newB a.f0 a.f1 s && kerB t (s ++ [a])
def Ker (K : List S60) : Prop := 1 ≤ K.length ∧ K.length ≤ 12 ∧ kerB K [] = true
instance (K : List S60) : Decidable (Ker K) := by unfold Ker; infer_instance
theorem kerB_ok : ∀ (K s : List S60), kerB K s = true → ∀ a ∈ K, okP a := by
  intro K
  induction K with
  | nil => intro s _ a ha; cases ha
  | cons b t ih =>
    intro s h a ha
    simp only [kerB, Bool.and_eq_true, decide_eq_true_eq] at h
    rcases List.mem_cons.mp ha with e | e
    · rw [e]; exact h.1.1
    · exact ih _ h.2 a e
theorem Ker.ok {K : List S60} (h : Ker K) {a : S60} (ha : a ∈ K) : okP a := kerB_ok K [] h.2.2 a ha
def kWt : List S60 → Int
  | [] => 0
  | a :: t => a.f2 + kWt t
theorem kWt_bd : ∀ (K : List S60), (∀ a ∈ K, okP a) → (K.length : Int) ≤ kWt K ∧ kWt K ≤ 100 * K.length := by
  intro K
  induction K with
  | nil => intro _; exact ⟨by simp [kWt], by simp [kWt]⟩
  | cons b t ih =>
    intro h
    have h1 := ih fun a ha => h a (List.mem_cons_of_mem _ ha)
    have h2 := h b (List.mem_cons_self ..); unfold okP at h2
    simp only [kWt, List.length_cons]; omega
theorem Ker.wt {K : List S60} (h : Ker K) : 1 ≤ kWt K ∧ kWt K ≤ 1200 := by
  have := kWt_bd K fun a ha => h.ok ha
  have h1 := h.1; have h2 := h.2.1; omega
def kShr (S v : Int) : Int := wrap64 (Int.tdiv (wrap64 (v - (if Int.tmod v S < 0 then wrap64 (Int.tmod v S + S) else Int.tmod v S))) S)
def shF (S e : Int) : List S60 → List Int → Int → List Int
  | [], o, r => o.set 0 (wrap64 (at_ o 0 + r))
  | a :: t, o, r => shF S e t (o ++ [kShr S (wrap64 (e * a.f2))]) (wrap64 (r - kShr S (wrap64 (e * a.f2))))
def kShares (K : List S60) (e : Int) : List Int := shF (kWt K) e K [] e
theorem shF_len (S e : Int) : ∀ (t : List S60) (o : List Int) (r : Int), (shF S e t o r).length = o.length + t.length := by
  intro t
  induction t with
  | nil => intro o r; simp [shF]
  | cons a t ih => intro o r; rw [shF, ih]; simp only [List.length_append, List.length_cons, List.length_nil]; omega
theorem kShares_len (K : List S60) (e : Int) : (kShares K e).length = K.length := by unfold kShares; rw [shF_len]; simp
/-- what one cell's shares do to the values and to what is lost -/
def spread (W H way x y : Int) : List S60 → List Int → List Int → Int → List Int × Int
  | a :: t, s :: u, V, L => if x + way * a.f0 < 0 ∨ W ≤ x + way * a.f0 ∨ H ≤ y + a.f1 then spread W H way x y t u V (wrap64 (L + s))
      else spread W H way x y t u (V.set ((y + a.f1) * W + (x + way * a.f0)).toNat (wrap64 (at_ V ((y + a.f1) * W + (x + way * a.f0)) + s))) L
  | _, _, V, L => (V, L)
theorem spread_len (W H way x y : Int) : ∀ (t : List S60) (u V : List Int) (L : Int), (spread W H way x y t u V L).1.length = V.length := by
  intro t
  induction t with
  | nil => intro u V L; rfl
  | cons a t ih =>
    intro u V L
    cases u with
    | nil => rfl
    | cons s u => rw [spread]; split; · exact ih u V _
                  · rw [ih, List.length_set]
def wayF (alt : Bool) (y : Int) : Int := if alt = true ∧ y % 2 = 1 then -1 else 1
def colF (W : Int) (alt : Bool) (i : Int) : Int := if alt = true ∧ (i / W) % 2 = 1 then W - 1 - i % W else i % W
def errF (v : Int) : Int := if v ≥ 128 then wrap64 (v - 255) else v
/-- a diffusion from the turn i on: values, dots, errors, what is lost -/
def difF (K : List S60) (W H : Int) (alt : Bool) : Nat → Int → List Int → List Int → List Int → Int → List Int × List Int × Int
  | 0, _, _, D, E, L => (D, E, L)
  | d + 1, i, V, D, E, L => difF K W H alt d (i + 1)
      (spread W H (wayF alt (i / W)) (colF W alt i) (i / W) K (kShares K (errF (at_ V (i / W * W + colF W alt i)))) V L).1
      (if at_ V (i / W * W + colF W alt i) ≥ 128 then D.set (i / W * W + colF W alt i).toNat 1 else D)
      (E.set (i / W * W + colF W alt i).toNat (errF (at_ V (i / W * W + colF W alt i))))
      (spread W H (wayF alt (i / W)) (colF W alt i) (i / W) K (kShares K (errF (at_ V (i / W * W + colF W alt i)))) V L).2
def dif (K : List S60) (W H : Int) (l : List Int) (alt : Bool) : List Int × List Int × Int := difF K W H alt l.length 0 l (List.replicate l.length 0) (List.replicate l.length 0) 0
theorem difF_len (K : List S60) (W H : Int) (alt : Bool) : ∀ (d : Nat) (i : Int) (V D E : List Int) (L : Int), (difF K W H alt d i V D E L).1.length = D.length ∧ (difF K W H alt d i V D E L).2.1.length = E.length := by
  intro d
  induction d with
  | zero => intro i V D E L; exact ⟨rfl, rfl⟩
  | succ d ih =>
    intro i V D E L
    rw [difF]
    have := ih (i + 1) (spread W H (wayF alt (i / W)) (colF W alt i) (i / W) K (kShares K (errF (at_ V (i / W * W + colF W alt i)))) V L).1
      (if at_ V (i / W * W + colF W alt i) ≥ 128 then D.set (i / W * W + colF W alt i).toNat 1 else D)
      (E.set (i / W * W + colF W alt i).toNat (errF (at_ V (i / W * W + colF W alt i))))
      (spread W H (wayF alt (i / W)) (colF W alt i) (i / W) K (kShares K (errF (at_ V (i / W * W + colF W alt i)))) V L).2
    refine ⟨?_, by rw [this.2, List.length_set]⟩
    rw [this.1]; split <;> simp
theorem dif_len (K : List S60) (W H : Int) (l : List Int) (alt : Bool) : (dif K W H l alt).1.length = l.length ∧ (dif K W H l alt).2.1.length = l.length := by
  have := difF_len K W H alt l.length 0 l (List.replicate l.length 0) (List.replicate l.length 0) 0
  simp only [List.length_replicate] at this; exact this
theorem col_bd {W H i : Int} (hs : Sz W H) (h0 : 0 ≤ i) (h1 : i < W * H) (alt : Bool) : 0 ≤ colF W alt i ∧ colF W alt i < W := by
  have := hs.row h0 h1
  unfold colF; split <;> omega
theorem put_idx {W H X Y : Int} (hs : Sz W H) (x0 : -300 ≤ X) (x1 : X ≤ 300) (y0 : 0 ≤ Y) (y1 : Y ≤ 300) : wrap64 (wrap64 (Y * W) + X) = Y * W + X := by
  have q := mul_bd (c := 300) (d := 64) y0 y1 (show 0 ≤ W by have := hs.1; omega) hs.2.1
  rw [w64 (x := Y * W) (by omega) (by omega), w64 (by omega) (by omega)]
theorem way_mul {way x : Int} (hw : way = 1 ∨ way = -1) (h0 : -4 ≤ x) (h1 : x ≤ 4) : -4 ≤ way * x ∧ way * x ≤ 4 := by
  rcases hw with rfl | rfl <;> omega
theorem keri_l1 (K xs : List S60) (m i : Int) (x y z : Int) (d : Nat) : ∀ (k : Nat) (s : List S60) (j : Int), 0 ≤ j → s.length ≤ 12 → (s.length : Int) - j = d →
    impl_IsKernel.l1 (k + d + 1) K xs m i s s.length j x y z = if newB x y (s.drop j.toNat) = true then impl_IsKernel.l0 k K xs m (wrap64 (i + 1)) else some false := by
  induction d with
  | zero =>
    intro k s j h0 hs hd
    rw [impl_IsKernel.l1, if_neg (by omega), List.drop_eq_nil_of_le (by omega)]; rfl
  | succ d ih =>
    intro k s j h0 hs hd
    rw [← Nat.add_assoc, impl_IsKernel.l1, if_pos (by omega), if_pos h0, if_pos (by omega), w64 (by omega) (by omega), ih k s (j + 1) (by omega) hs (by omega), dropK h0 (by omega), newB]
    by_cases h1 : x = (rd_T60 s j).f0
    · by_cases h2 : y = (rd_T60 s j).f1
      · rw [if_pos h1, if_pos h2, if_pos (And.intro h1 h2)]; rfl
      · rw [if_pos h1, if_neg h2, if_neg (show ¬ (_ ∧ _) from fun h => h2 h.2)]
    · rw [if_neg h1, if_neg (show ¬ (_ ∧ _) from fun h => h1 h.1)]
theorem chainI {α : Type} (J : Bool → Option α) (a : S60) : (if a.f0 < (-4) then J true else (if a.f0 > 4 then J true else (if a.f1 < 0 then J true else (if a.f1 > 4 then J true else (if a.f1 = 0 then (if a.f0 < 1 then J true else (if a.f2 < 1 then J true else J (decide (a.f2 > 100)))) else (if a.f2 < 1 then J true else J (decide (a.f2 > 100)))))))) = J (!decide (okP a)) := by
  simp only [← decide_not]
  repeat' split
  all_goals (congr 1; first | exact decide_eq_decide.mpr (by unfold okP; omega) | exact (decide_eq_true (by unfold okP; omega)).symm)
theorem keri_l (K : List S60) (hK : K.length ≤ 12) (d : Nat) : ∀ (k : Nat) (i : Int), 0 ≤ i → (K.length : Int) - i = d → d * 16 < k →
    impl_IsKernel.l0 k K K K.length i = some (kerB (K.drop i.toNat) (K.take i.toNat)) := by
  induction d with
  | zero =>
    intro k i h0 hd hk
    obtain ⟨k, rfl⟩ : ∃ m, k = m + 1 := ⟨k - 1, by omega⟩
    rw [impl_IsKernel.l0, if_neg (by omega), List.drop_eq_nil_of_le (by omega)]; rfl
  | succ d ih =>
    intro k i h0 hd hk
    have tl : (K.take i.toNat).length = i.toNat := by rw [List.length_take]; omega
    obtain ⟨k, rfl⟩ : ∃ m, k = m + i.toNat + 1 + 1 + 1 := ⟨k - i.toNat - 3, by omega⟩
    rw [impl_IsKernel.l0, if_pos (by omega), if_pos h0, if_pos (by omega), dropK h0 (by omega), kerB]
    refine (chainI (fun b => impl_IsKernel.j2 _ K i K K.length i b (rd_T60 K i).f0 (rd_T60 K i).f1 (rd_T60 K i).f2) (rd_T60 K i)).trans ?_
    rw [impl_IsKernel.j2]
    by_cases ho : okP (rd_T60 K i)
    · rw [decide_eq_true ho, if_neg (by decide), if_pos h0, if_pos (by omega), Option.bind_some, keri_l1 K K K.length i _ _ _ i.toNat k (K.take i.toNat) 0 (by omega) (by omega) (by omega)]
      rw [w64 (by omega) (by omega), ih k (i + 1) (by omega) (by omega) (by omega), takeK h0 (by omega)]
      show _ = some (true && newB _ _ (K.take i.toNat) && _)
      rw [Bool.true_and]
      show (if newB _ _ (K.take i.toNat) = true then _ else _) = _
      cases newB (rd_T60 K i).f0 (rd_T60 K i).f1 (K.take i.toNat) <;> rfl
    · rw [decide_eq_false ho, if_pos (by decide)]; rfl
theorem ker_i {K : List S60} (hK : K.length ≤ 1048576) {k : Nat} (hk : 1100 ≤ k) : impl_IsKernel.f k K = some (decide (Ker K)) := by
  obtain ⟨k, rfl⟩ : ∃ m, k = m + 1 := ⟨k - 1, by omega⟩
  unfold impl_IsKernel.f
  by_cases h : (K.length : Int) < 1
  · rw [if_pos h, impl_IsKernel.j0, if_pos rfl]; exact dec_ff (fun e => by have := e.1; omega)
  · rw [if_neg h, impl_IsKernel.j0]
    by_cases h2 : (K.length : Int) > 12
    · rw [if_pos (decide_eq_true h2)]; exact dec_ff (fun e => by have := e.2.1; omega)
    · rw [if_neg (by rw [decide_eq_true_iff]; exact h2), keri_l K (by omega) K.length k 0 (by omega) (by omega) (by omega)]
      show some (kerB K []) = _
      have : Ker K ↔ kerB K [] = true := ⟨fun h => h.2.2, fun e => ⟨by omega, by omega, e⟩⟩
      by_cases hb : kerB K [] = true
      · rw [hb, decide_eq_true (this.mpr hb)]
      · rw [decide_eq_false (fun e => hb (this.mp e))]; simpa using hb
theorem size_i (W H : Int) : impl_sized.f W H = some (decide (Sz W H)) := by
  unfold impl_sized.f
  by_cases h : 1 ≤ W ∧ W ≤ 64 ∧ 1 ≤ H ∧ H ≤ 64
  · have := mul_bd (c := 64) (d := 64) (show 0 ≤ W by omega) h.2.1 (show 0 ≤ H by omega) h.2.2.2
    rw [if_pos (by omega), if_pos (by omega), if_pos (by omega), if_pos (by omega), w64 (by omega) (by omega)]
    exact dec_dd (by unfold Sz; omega)
  · repeat' split
    all_goals first | exact dec_ff (by unfold Sz; omega) | (exfalso; omega)
theorem within_i {l : List Int} (hl : l.length ≤ 1048576) (m : Int) : impl_within.f l m = some (decide (All m l)) := by
  unfold impl_within.f
  rw [if_pos (by omega)]; simp only [Option.some.injEq]
  rw [Bool.eq_iff_iff, List.all_eq_true, decide_eq_true_iff]
  exact ⟨fun h v hv => of_decide_eq_true (h v hv), fun h v hv => decide_eq_true (h v hv)⟩
theorem pict_i {W H : Int} {l : List Int} (hl : l.length ≤ 1048576) : impl_IsPicture.f W H l = some (decide (Up W H l 255)) := by
  unfold impl_IsPicture.f
  rw [size_i, Option.bind_some]
  by_cases h : Sz W H
  · have := h.area
    rw [if_pos (decide_eq_true h), w64 (by omega) (by omega), within_i hl]
    by_cases e : (l.length : Int) = W * H
    · rw [if_pos e]; exact dec_dd ⟨fun x => ⟨h, e, x⟩, fun x => x.2.2⟩
    · rw [if_neg e]; exact dec_ff (fun x => e x.2.1)
  · rw [if_neg (by rw [decide_eq_true_iff]; exact h)]; exact dec_ff (fun x => h x.1)
theorem gridO_tab {W H : Int} {AT : Int → Int → Option Int} {F : Int → Int} (hW : 1 ≤ W) (hH : 0 ≤ H) (h : ∀ x y, 0 ≤ x → x < W → 0 ≤ y → y < H → AT x y = some (F (y * W + x))) : Ext.gridO W H AT = some (tab F (W * H).toNat 0) := by
  rw [Ext.gridO_of (g := fun x y => F (y * W + x)) hW hH h]
  simp only [Option.some.injEq]
  unfold Ext.grid Ext.pref
  rw [← tab_range]
  apply List.map_congr_left
  intro i _
  show F ((i : Int) / W * W + (i : Int) % W) = _
  rw [xy_of]
theorem drawn_some {W H : Int} (hs : Sz W H) {AT : Int → Int → Option Int} {F : Int → Int} (h : ∀ x y, 0 ≤ x → x < W → 0 ≤ y → y < H → AT x y = some (F (y * W + x))) :
    (if 1 ≤ W ∧ W ≤ 1024 ∧ 0 ≤ H ∧ H ≤ 1024 ∧ W * H ≤ 1024 then (Ext.gridO W H AT).map fun l => (W, H, l) else none) = some (W, H, tab F (W * H).toNat 0) := by
  have hW := hs.1; have hW2 := hs.2.1; have hH := hs.2.2.1; have hH2 := hs.2.2.2.1; have ha := hs.area
  rw [if_pos (by omega), gridO_tab hW (by omega) h]; rfl
theorem idx_w {W H x y : Int} (hs : Sz W H) (x0 : 0 ≤ x) (x1 : x < W) (y0 : 0 ≤ y) (y1 : y < H) : wrap64 (wrap64 (y * W) + x) = y * W + x ∧ 0 ≤ y * W + x ∧ y * W + x < W * H ∧ (y * W + x) % W = x ∧ (y * W + x) / W = y := by
  have hi := xy_idx x0 x1 y0 y1
  have hW := hs.1; have hW2 := hs.2.1; have hH2 := hs.2.2.2.1; have ha := hs.area
  have q := mul_bd (c := 64) (d := 64) y0 (by omega) (show 0 ≤ W by omega) hW2
  refine ⟨by rw [w64 (x := y * W) (by omega) (by omega), w64 (by omega) (by omega)], hi.1, hi.2, ?_, ?_⟩
  · rw [Int.add_comm, Int.add_mul_emod_self_right, Int.emod_eq_of_lt x0 x1]
  · rw [Int.add_comm, Int.add_mul_ediv_right _ _ (by omega), Int.ediv_eq_zero_of_lt x0 x1, Int.zero_add]
-- nothing on slices_Clone_int_int
theorem copied_i (W H : Int) {l : List Int} (hl : l.length ≤ 1048576) : impl_copied.f W H l = some (W, H, l) := by
  unfold impl_copied.f slices_Clone_int_int.f; rw [if_pos (by omega), Option.bind_some]
-- nothing on impl_diffused_1
-- nothing on impl_diffused_1.drawn
theorem wt_il (K : List S60) (hK : K.length ≤ 12) (ho : ∀ a ∈ K, okP a) (d : Nat) : ∀ (k : Nat) (s i : Int), 0 ≤ i → (K.length : Int) - i = d → d < k → 0 ≤ s → s + 100 * d ≤ 100000 →
    impl_weight.l0 k s K K.length i = some (s + kWt (K.drop i.toNat)) := by
  induction d with
  | zero =>
    intro k s i h0 hd hk s0 s1
    obtain ⟨k, rfl⟩ : ∃ m, k = m + 1 := ⟨k - 1, by omega⟩
    rw [impl_weight.l0, if_neg (by omega), List.drop_eq_nil_of_le (by omega)]; simp [kWt]
  | succ d ih =>
    intro k s i h0 hd hk s0 s1
    obtain ⟨k, rfl⟩ : ∃ m, k = m + 1 := ⟨k - 1, by omega⟩
    have h2 := ho _ (memK h0 (show i < K.length by omega)); unfold okP at h2
    rw [impl_weight.l0, if_pos (by omega), if_pos h0, if_pos (by omega), w64 (by omega) (by omega), w64 (by omega) (by omega), ih k _ (i + 1) (by omega) (by omega) (by omega) (by omega) (by omega), dropK h0 (by omega), kWt, Int.add_assoc]
theorem wt_i {K : List S60} (h : Ker K) {k : Nat} (hk : 13 ≤ k) : impl_weight.f k K = some (kWt K) := by
  have := h.2.1
  unfold impl_weight.f
  rw [wt_il K h.2.1 (fun a ha => h.ok ha) K.length k 0 0 (by omega) (by omega) (by omega) (by omega) (by omega)]
  simp
theorem mod_i {x n : Int} (h0 : 0 < n) (h1 : n ≤ 9223372036854775807) : impl_mod.f x n = some (x % n) := by
  unfold impl_mod.f
  rw [if_neg (by omega)]
  have h2 := Int.emod_nonneg x (show n ≠ 0 by omega)
  have h3 := Int.emod_lt_of_pos x h0
  have e := Int.tmod_eq_emod (a := x) (b := n)
  by_cases hc : 0 ≤ x ∨ n ∣ x
  · rw [if_pos hc] at e
    rw [e, if_neg (by omega)]; simp
  · rw [if_neg hc] at e
    rw [e, if_pos (by omega), w64 (by omega) (by omega)]; simp only [Option.some.injEq]; omega
-- nothing on impl_down
theorem shares_il (K : List S60) (hK : K.length ≤ 12) {S : Int} (hS : S ≠ 0) (e : Int) (d : Nat) : ∀ (k : Nat) (o : List Int) (r i : Int), 0 ≤ i → (K.length : Int) - i = d → d < k → o.length ≤ 12 → o.length = i.toNat → 1 ≤ K.length →
    impl_shares.l0 k e S o r K K.length i = some (shF S e (K.drop i.toNat) o r) := by
  induction d with
  | zero =>
    intro k o r i h0 hd hk ho he hn
    obtain ⟨k, rfl⟩ : ∃ m, k = m + 1 := ⟨k - 1, by omega⟩
    rw [impl_shares.l0, if_neg (by omega), List.drop_eq_nil_of_le (by omega), if_pos (by omega)]; rfl
  | succ d ih =>
    intro k o r i h0 hd hk ho he hn
    obtain ⟨k, rfl⟩ : ∃ m, k = m + 1 := ⟨k - 1, by omega⟩
    have hm : ∀ v : Int, impl_mod.f v S = some (if Int.tmod v S < 0 then wrap64 (Int.tmod v S + S) else Int.tmod v S) := by
      intro v; unfold impl_mod.f; rw [if_neg hS]; split <;> rfl
    have hdn : ∀ v : Int, impl_down.f v S = some (kShr S v) := by
      intro v; unfold impl_down.f; rw [hm, Option.bind_some, if_neg hS]; rfl
    rw [impl_shares.l0, if_pos (by omega), if_pos h0, if_pos (by omega), hdn, Option.bind_some, if_pos (by omega), w64 (x := i + 1) (by omega) (by omega)]
    rw [dropK h0 (by omega), shF]
    exact ih k _ _ (i + 1) (by omega) (by omega) (by omega) (by rw [List.length_append]; simp only [List.length_cons, List.length_nil]; omega) (by rw [List.length_append]; simp only [List.length_cons, List.length_nil]; omega) hn
theorem shares_i {K : List S60} (h : Ker K) (e : Int) {k : Nat} (hk : 13 ≤ k) : impl_shares.f k K e = some (kShares K e) := by
  unfold impl_shares.f; have := h.wt; have := h.2.1
  rw [wt_i h hk, Option.bind_some, shares_il K h.2.1 (by omega) e K.length k [] e 0 (by omega) (by omega) (by omega) (by simp) (by simp) h.1]; rfl
theorem run_l2 {K : List S60} (hk : Ker K) {W H : Int} (hs : Sz W H) (al : Bool) (D E : List Int) (way x y c : Int) (p : List Int) (hw : way = 1 ∨ way = -1) (x0 : 0 ≤ x) (x1 : x < W) (y0 : 0 ≤ y) (y1 : y < H) (sh : List Int) (hsh : sh.length = K.length) (d : Nat) :
    ∀ (k : Nat) (V : List Int) (L j : Int), 0 ≤ j → (K.length : Int) - j = d → (V.length : Int) = W * H →
    impl_diffused.l2 (k + d + 1) K al V E L y way x H y W c sh sh.length j W H p W H D = impl_diffused.l1 k K al (spread W H way x y (K.drop j.toNat) (sh.drop j.toNat) V L).1 E (spread W H way x y (K.drop j.toNat) (sh.drop j.toNat) V L).2 y way H y W (wrap64 (c + 1)) W H p W H D := by
  have hK := hk.2.1
  induction d with
  | zero =>
    intro k V L j h0 hd hV
    rw [impl_diffused.l2, if_neg (by omega), List.drop_eq_nil_of_le (by omega)]; rfl
  | succ d ih =>
    intro k V L j h0 hd hV
    have h2 := hk.ok (memK h0 (show j < K.length by omega)); unfold okP at h2
    have h3 := way_mul hw h2.1 h2.2.1
    have hW := hs.1; have hW2 := hs.2.1; have hH := hs.2.2.1; have hH2 := hs.2.2.2.1
    rw [← Nat.add_assoc, impl_diffused.l2, if_pos (by omega), if_pos h0, if_pos (by omega), if_pos (by omega), w64 (x := way * (rd_T60 K j).f0) (by omega) (by omega), w64 (x := x + way * (rd_T60 K j).f0) (by omega) (by omega), w64 (x := y + (rd_T60 K j).f1) (by omega) (by omega)]
    rw [dropK h0 (by omega), drop_at sh h0 (by omega), spread, w64 (x := j + 1) (by omega) (by omega), rd_at]
    by_cases cc : x + way * (rd_T60 K j).f0 < 0 ∨ W ≤ x + way * (rd_T60 K j).f0 ∨ H ≤ y + (rd_T60 K j).f1
    · rw [if_pos cc]
      by_cases c1 : x + way * (rd_T60 K j).f0 < 0
      · rw [if_pos c1]; exact ih k V _ (j + 1) (by omega) (by omega) hV
      · rw [if_neg c1]
        by_cases c2 : x + way * (rd_T60 K j).f0 ≥ W
        · rw [if_pos c2]; exact ih k V _ (j + 1) (by omega) (by omega) hV
        · rw [if_neg c2, if_pos (by omega)]; exact ih k V _ (j + 1) (by omega) (by omega) hV
    · have q := xy_idx (W := W) (H := H) (x := x + way * (rd_T60 K j).f0) (y := y + (rd_T60 K j).f1) (by omega) (by omega) (by omega) (by omega)
      rw [if_neg cc, if_neg (show ¬ x + way * (rd_T60 K j).f0 < 0 by omega), if_neg (show ¬ x + way * (rd_T60 K j).f0 ≥ W by omega), if_neg (show ¬ y + (rd_T60 K j).f1 ≥ H by omega), put_idx hs (by omega) (by omega) (by omega) (by omega), if_pos q.1, if_pos (by omega), rd_at]
      exact ih k _ L (j + 1) (by omega) (by omega) (by rw [List.length_set]; exact hV)
theorem run_i {K : List S60} (hk : Ker K) {W H : Int} (hs : Sz W H) (al : Bool) (p : List Int) (d : Nat) : ∀ (k : Nat) (V D E : List Int) (L y c : Int), 0 ≤ y → y < H → 0 ≤ c → c < W → W * H - (y * W + c) = d → (V.length : Int) = W * H → (D.length : Int) = W * H → (E.length : Int) = W * H → d * 30 + 100 < k →
    impl_diffused.l1 k K al V E L y (wayF al y) H y W c W H p W H D = some (W, H, (difF K W H al d (y * W + c) V D E L).1, (difF K W H al d (y * W + c) V D E L).2.1, (difF K W H al d (y * W + c) V D E L).2.2) := by
  have hK := hk.2.1; have ha := hs.area
  have hW := hs.1; have hW2 := hs.2.1; have hH := hs.2.2.1; have hH2 := hs.2.2.2.1
  induction d with
  | zero =>
    intro k V D E L y c y0 y1 c0 c1 hd hV hD hE hf
    have := (xy_idx c0 c1 y0 y1).2; omega
  | succ d ih =>
    intro k V D E L y c y0 y1 c0 c1 hd hV hD hE hf
    obtain ⟨k, rfl⟩ : ∃ m, k = m + K.length + 1 + 1 + 1 + 1 := ⟨k - K.length - 4, by omega⟩
    have hi := idx_w hs c0 c1 y0 y1
    have hw : wayF al y = 1 ∨ wayF al y = -1 := by unfold wayF; split <;> omega
    have hc : 0 ≤ colF W al (y * W + c) ∧ colF W al (y * W + c) < W := col_bd hs hi.2.1 hi.2.2.1 al
    have hcol : colF W al (y * W + c) = if wayF al y < 0 then W - 1 - c else c := by
      unfold colF wayF; rw [hi.2.2.2.1, hi.2.2.2.2]
      by_cases h : al = true ∧ y % 2 = 1
      · rw [if_pos h, if_pos h, if_pos (by omega)]
      · rw [if_neg h, if_neg h, if_neg (by omega)]
    have hx := xy_idx hc.1 hc.2 y0 y1
    rw [impl_diffused.l1, if_pos c1, w64 (x := W - 1) (by omega) (by omega), w64 (x := W - 1 - c) (by omega) (by omega)]
    have key : impl_diffused.j4 (k + K.length + 1 + 1 + 1) K al V E L y (wayF al y) (colF W al (y * W + c)) H y W c W H p W H D = some (W, H, (difF K W H al (d + 1) (y * W + c) V D E L).1, (difF K W H al (d + 1) (y * W + c) V D E L).2.1, (difF K W H al (d + 1) (y * W + c) V D E L).2.2) := by
      rw [impl_diffused.j4, put_idx hs (by omega) (by omega) (by omega) (by omega), if_pos hx.1, if_pos (by omega), rd_at]
      have fin : ∀ (D' : List Int) (e : Int), (D'.length : Int) = W * H → impl_diffused.j5 (k + K.length + 1 + 1) K al V E L y (wayF al y) (colF W al (y * W + c)) (y * W + colF W al (y * W + c)) e H y W c W H p W H D' =
          some (W, H, (difF K W H al d (y * W + c + 1) (spread W H (wayF al y) (colF W al (y * W + c)) y K (kShares K e) V L).1 D' (E.set (y * W + colF W al (y * W + c)).toNat e) (spread W H (wayF al y) (colF W al (y * W + c)) y K (kShares K e) V L).2).1, (difF K W H al d (y * W + c + 1) (spread W H (wayF al y) (colF W al (y * W + c)) y K (kShares K e) V L).1 D' (E.set (y * W + colF W al (y * W + c)).toNat e) (spread W H (wayF al y) (colF W al (y * W + c)) y K (kShares K e) V L).2).2.1, (difF K W H al d (y * W + c + 1) (spread W H (wayF al y) (colF W al (y * W + c)) y K (kShares K e) V L).1 D' (E.set (y * W + colF W al (y * W + c)).toNat e) (spread W H (wayF al y) (colF W al (y * W + c)) y K (kShares K e) V L).2).2.2) := by
        intro D' e hD'
        have hsl := kShares_len K e
        rw [impl_diffused.j5, if_pos hx.1, if_pos (by omega), shares_i hk e (by omega), Option.bind_some]
        rw [run_l2 hk hs al _ _ _ _ _ _ _ hw hc.1 hc.2 y0 y1 _ hsl K.length k V L 0 (by omega) (by omega) hV]
        rw [w64 (x := c + 1) (by omega) (by omega)]
        show impl_diffused.l1 k K al (spread W H (wayF al y) (colF W al (y * W + c)) y K (kShares K e) V L).1 _ (spread W H (wayF al y) (colF W al (y * W + c)) y K (kShares K e) V L).2 y _ H y W (c + 1) W H p W H D' = _
        generalize hG : spread W H (wayF al y) (colF W al (y * W + c)) y K (kShares K e) V L = G
        have hGl : (G.1.length : Int) = W * H := by rw [← hG, spread_len]; exact hV
        by_cases hcW : c + 1 < W
        · rw [show y * W + c + 1 = y * W + (c + 1) by omega]
          exact ih k _ _ _ _ y (c + 1) y0 y1 (by omega) hcW (by omega) hGl hD' (by rw [List.length_set]; exact hE) (by omega)
        · have e1 : y * W + c + 1 = (y + 1) * W + 0 := by rw [Int.add_mul]; omega
          obtain ⟨k, rfl⟩ : ∃ m, k = m + 1 + 1 + 1 + 1 := ⟨k - 4, by omega⟩
          rw [impl_diffused.l1, if_neg hcW, impl_diffused.l0, w64 (x := y + 1) (by omega) (by omega)]
          by_cases hy : y + 1 < H
          · have e2 : (y + 1) * W + 0 = y * W + c + 1 := e1.symm
            have rc_ : impl_diffused.l1 k K al G.1 (E.set (y * W + colF W al (y * W + c)).toNat e) G.2 (y + 1) (wayF al (y + 1)) H (y + 1) W 0 W H p W H D' = _ := ih k G.1 D' (E.set (y * W + colF W al (y * W + c)).toNat e) G.2 (y + 1) 0 (by omega) hy (by omega) (by omega) (by omega) hGl hD' (by rw [List.length_set]; exact hE) (by omega)
            rw [if_pos hy, e1, ← rc_, tmod_pos (show 0 ≤ y + 1 by omega)]
            by_cases a1 : al = true
            · rw [if_pos a1, impl_diffused.j1]
              by_cases a2 : (y + 1) % 2 = 1
              · rw [if_pos (beq_iff_eq.mpr a2), impl_diffused.j2, show wayF al (y + 1) = -1 by unfold wayF; rw [if_pos ⟨a1, a2⟩]]
              · rw [if_neg (by rw [beq_iff_eq]; exact a2), impl_diffused.j2, show wayF al (y + 1) = 1 by unfold wayF; rw [if_neg (fun h => a2 h.2)]]
            · rw [if_neg a1, impl_diffused.j1, if_neg (by decide), impl_diffused.j2, show wayF al (y + 1) = 1 by unfold wayF; rw [if_neg (fun h => a1 h.1)]]
          · have e3 : d = 0 := by
              have : y + 1 = H := by omega
              rw [this] at e1; have := Int.mul_comm H W; omega
            rw [if_neg hy, e3]; rfl
      rw [difF, hi.2.2.2.2]
      by_cases cv : at_ V (y * W + colF W al (y * W + c)) ≥ 128
      · rw [if_pos cv, if_pos (by omega), fin _ _ (by rw [List.length_set]; exact hD), if_pos cv]
        rw [show errF (at_ V (y * W + colF W al (y * W + c))) = wrap64 (at_ V (y * W + colF W al (y * W + c)) - 255) by unfold errF; rw [if_pos cv]]
      · rw [if_neg cv, fin _ _ hD, if_neg cv]
        rw [show errF (at_ V (y * W + colF W al (y * W + c))) = at_ V (y * W + colF W al (y * W + c)) by unfold errF; rw [if_neg cv]]
    by_cases cw : wayF al y < 0
    · rw [if_pos cw, ← show colF W al (y * W + c) = W - 1 - c by rw [hcol, if_pos cw]]; exact key
    · rw [if_neg cw]
      have e : colF W al (y * W + c) = c := by rw [hcol, if_neg cw]
      conv => lhs; arg 9; rw [← e]
      exact key
theorem tab_rep (n : Nat) : ∀ i : Int, tab (fun _ => 0) n i = List.replicate n 0 := by
  induction n with
  | zero => intro i; rfl
  | succ n ih => intro i; rw [tab, ih, List.replicate_succ]
theorem dif_i {K : List S60} (hk : Ker K) {W H : Int} {l : List Int} (hu : Up W H l 255) (al : Bool) {k : Nat} (hf : 1000000 ≤ k) : impl_diffused.f k K W H l al = some (W, H, (dif K W H l al).1, (dif K W H l al).2.1, (dif K W H l al).2.2) := by
  have ha := hu.1.area; have hl := hu.2.1
  have hW := hu.1.1; have hH := hu.1.2.2.1
  unfold impl_diffused.f impl_diffused_1.drawn.f
  rw [copied_i W H (by omega), Option.bind_some, drawn_some (AT := fun x y => impl_diffused_1.f x y) (F := fun _ => 0) hu.1 (fun x y _ _ _ _ => rfl), Option.bind_some, if_pos (by omega), if_pos (by omega), Int.toNat_natCast, tab_rep]
  obtain ⟨k, rfl⟩ : ∃ m, k = m + 1 + 1 + 1 := ⟨k - 3, by omega⟩
  have hn : (W * H).toNat = l.length := by omega
  have rc_ := run_i hk hu.1 al l l.length k l (List.replicate l.length 0) (List.replicate l.length 0) 0 0 0 (by omega) (by omega) (by omega) (by omega) (by omega) hl (by simpa using hl) (by simpa using hl) (by omega)
  rw [show (0 : Int) * W + 0 = 0 by omega] at rc_
  have e : wayF al 0 = 1 := by unfold wayF; rw [if_neg (by omega)]
  rw [e] at rc_
  rw [impl_diffused.l0, if_pos (by omega), hn]
  by_cases a1 : al = true
  · rw [if_pos a1, impl_diffused.j1, if_neg (by decide), impl_diffused.j2]; exact rc_
  · rw [if_neg a1, impl_diffused.j1, if_neg (by decide), impl_diffused.j2]; exact rc_
def kDif (K : List S60) (W H : Int) (l : List Int) (al : Bool) : Int × Int × List Int × Int × Bool := if Ker K ∧ Up W H l 255 then (W, H, (dif K W H l al).1, (dif K W H l al).2.2, true) else (0, 0, [], 0, false)
theorem kDif_len (K : List S60) (W H : Int) (l : List Int) (al : Bool) (hl : l.length ≤ 1048576) : (kDif K W H l al).2.2.1.length ≤ 1048576 := by
  unfold kDif; split
  · show (dif K W H l al).1.length ≤ _
    rw [(dif_len K W H l al).1]; exact hl
  · simp
theorem difp_i {K : List S60} (hK : K.length ≤ 1048576) {W H : Int} {l : List Int} (al : Bool) (hl : l.length ≤ 1048576) {k : Nat} (hk : 1100000 ≤ k) : impl_DiffusePicture.f k K W H l al = some (kDif K W H l al) := by
  unfold impl_DiffusePicture.f kDif
  rw [ker_i hK (by omega), Option.bind_some]
  by_cases h : Ker K
  · rw [if_pos (decide_eq_true h), pict_i hl, Option.bind_some]
    by_cases h2 : Up W H l 255
    · rw [if_pos (decide_eq_true h2), dif_i h h2 al (by omega), Option.bind_some, if_pos ⟨h, h2⟩]
    · rw [if_neg (by rw [decide_eq_true_iff]; exact h2), if_neg (fun x => h2 x.2)]
  · rw [if_neg (by rw [decide_eq_true_iff]; exact h), if_neg (fun x => h x.1)]
theorem sz_k (l : List S74) (hl : l.length ≤ 140737488351232) : laws_szPartS.f l 1048576 = some (if (l.length : Int) ≤ 1048576 then 1048576 - (l.length : Int) else (-1 : Int)) := by
  unfold laws_szPartS.f
  rw [w64 (by omega) (by omega)]
  by_cases h : (l.length : Int) ≤ 1048576
  · rw [if_neg (by omega), if_pos h]
  · rw [if_pos (by omega), if_neg h]
theorem sz_s (l : List Int) (m : Int) (hm : 0 ≤ m) (hm2 : m ≤ 1048576) (hl : l.length ≤ 140737488351232) : laws_szIntS.f l m = some (if (l.length : Int) ≤ m then m - l.length else -1) := by
  unfold laws_szIntS.f
  rw [w64 (by omega) (by omega)]
  by_cases h : (l.length : Int) ≤ m
  · rw [if_neg (by omega), if_pos h]
  · rw [if_pos (by omega), if_neg h]
theorem sz_p (a b : Int) (l : List Int) (m : Int) (hm : 0 ≤ m) (hm2 : m ≤ 1048576) (hl : l.length ≤ 140737488351232) : laws_szPicture.f a b l m = some (if (l.length : Int) ≤ m then m - l.length else -1) := by
  unfold laws_szPicture.f
  rw [sz_s l m hm hm2 hl, Option.bind_some]
  by_cases h : (l.length : Int) ≤ m
  · rw [if_pos h, if_neg (by omega)]
  · rw [if_neg h, if_pos (by omega)]
-- nothing on laws_toPart
def ck (x : S74) : S60 := ⟨x.f0, x.f1, x.f2⟩
theorem dropQ {l : List S74} {i : Int} (h0 : 0 ≤ i) (h : i < l.length) : l.drop i.toNat = rd_T74 l i :: l.drop (i + 1).toNat := by
  have hj : i.toNat < l.length := by omega
  have e : rd_T74 l i = l[i.toNat] := by unfold rd_T74; rw [List.getD_eq_getElem?_getD, List.getElem?_eq_getElem hj, Option.getD_some]
  rw [List.drop_eq_getElem_cons hj, e, show (i + 1).toNat = i.toNat + 1 by omega]
theorem tok_l {l : List S74} (hl : l.length ≤ 1048576) (d : Nat) : ∀ (k : Nat) (o : List S60) (i : Int), 0 ≤ i → i ≤ l.length → o.length = l.length → (l.length : Int) - i = d → d < k →
    laws_toPartS.l0 k l o i = some (o.take i.toNat ++ (l.drop i.toNat).map ck) := by
  induction d with
  | zero =>
    intro k o i i0 i1 ho hd hk
    obtain ⟨k, rfl⟩ : ∃ m, k = m + 1 := ⟨k - 1, by omega⟩
    rw [laws_toPartS.l0, if_neg (by omega), List.drop_eq_nil_of_le (by omega), List.map_nil, List.append_nil, List.take_of_length_le (by omega)]
  | succ d ih =>
    intro k o i i0 i1 ho hd hk
    obtain ⟨k, rfl⟩ : ∃ m, k = m + 1 := ⟨k - 1, by omega⟩
    have hi : i < l.length := by omega
    have hp : ∀ a b c : Int, laws_toPart.f a b c = some (a, b, c) := fun a b c => rfl
    rw [laws_toPartS.l0, if_pos hi, if_pos i0, hp, Option.bind_some, if_pos (by omega), w64 (by omega) (by omega), ih k _ (i + 1) (by omega) (by omega) (by rw [List.length_set]; exact ho) (by omega) (by omega), dropQ i0 hi]
    rw [show (i + 1).toNat = i.toNat + 1 by omega, List.take_succ_eq_append_getElem (by rw [List.length_set]; omega), List.getElem_set, if_pos rfl, List.take_set_of_le (Nat.le_refl _)]
    simp only [List.append_assoc, List.cons_append, List.nil_append, List.map_cons]; rfl
theorem tok {l : List S74} (hl : l.length ≤ 1048576) {k : Nat} (hk : 1100000 ≤ k) : laws_toPartS.f k l = some (l.map ck) := by
  unfold laws_toPartS.f
  rw [if_pos (by omega), if_pos (by omega), tok_l hl l.length k _ 0 (by omega) (by omega) (by simp) (by omega) (by omega)]; simp
theorem tos_l (d : Nat) : ∀ (k : Nat) (l o : List Int) (i : Int), 0 ≤ i → i ≤ l.length → o.length = l.length → l.length ≤ 1048576 → (l.length : Int) - i = d → d < k → laws_toIntS.l0 k l o i = some (o.take i.toNat ++ l.drop i.toNat) := by
  induction d with
  | zero =>
    intro k l o i h0 h1 ho hl hd hk
    obtain ⟨k, rfl⟩ : ∃ m, k = m + 1 := ⟨k - 1, by omega⟩
    rw [laws_toIntS.l0, if_neg (by omega), List.drop_eq_nil_of_le (by omega), List.append_nil, List.take_of_length_le (by omega)]
  | succ d ih =>
    intro k l o i h0 h1 ho hl hd hk
    obtain ⟨k, rfl⟩ : ∃ m, k = m + 1 := ⟨k - 1, by omega⟩
    rw [laws_toIntS.l0, if_pos (by omega), if_pos h0, if_pos (by omega), w64 (by omega) (by omega), rd_at, ih k l _ (i + 1) (by omega) (by omega) (by rw [List.length_set]; exact ho) hl (by omega) (by omega), drop_at l h0 (by omega)]
    rw [show (i + 1).toNat = i.toNat + 1 by omega, List.take_succ_eq_append_getElem (by rw [List.length_set]; omega), List.getElem_set, if_pos rfl, List.take_set_of_le (Nat.le_refl _)]
    simp only [List.append_assoc, List.cons_append, List.nil_append]
theorem tos {l : List Int} (hl : l.length ≤ 1048576) {k : Nat} (hk : 1100000 ≤ k) : laws_toIntS.f k l = some l := by
  unfold laws_toIntS.f
  rw [if_pos (by omega), if_pos (by omega), tos_l l.length k l _ 0 (by omega) (by omega) (by simp) hl (by omega) (by omega)]; rfl
theorem top (a b : Int) {l : List Int} (hl : l.length ≤ 1048576) {k : Nat} (hk : 1100000 ≤ k) : laws_toPicture.f k a b l = some (a, b, l) := by
  unfold laws_toPicture.f; rw [tos hl hk]; rfl
-- nothing on laws_eqPart
theorem eqk_l {l : List S60} (hl : l.length ≤ 1048576) (d : Nat) : ∀ (k : Nat) (i : Int), 0 ≤ i → i ≤ l.length → (l.length : Int) - i = d → d < k → laws_eqPartS.l0 k l l i = some true := by
  induction d with
  | zero =>
    intro k i i0 i1 hd hk
    obtain ⟨k, rfl⟩ : ∃ m, k = m + 1 := ⟨k - 1, by omega⟩
    rw [laws_eqPartS.l0, if_neg (by omega)]
  | succ d ih =>
    intro k i i0 i1 hd hk
    obtain ⟨k, rfl⟩ : ∃ m, k = m + 1 := ⟨k - 1, by omega⟩
    have hi : i < l.length := by omega
    have hp : ∀ a b c : Int, laws_eqPart.f a b c a b c = some true := fun a b c => by unfold laws_eqPart.f; rw [if_pos rfl, if_pos rfl, if_pos rfl]
    rw [laws_eqPartS.l0, if_pos hi, if_pos i0, if_pos hi, hp, Option.bind_some, if_pos rfl, w64 (by omega) (by omega)]
    exact ih k (i + 1) (by omega) (by omega) (by omega) (by omega)
theorem eqk {l : List S60} (hl : l.length ≤ 1048576) {k : Nat} (hk : 1100000 ≤ k) : laws_eqPartS.f k l l = some true := by
  unfold laws_eqPartS.f; rw [if_pos rfl, eqk_l hl l.length k 0 (by omega) (by omega) (by omega) (by omega)]
theorem eqs_l (d : Nat) : ∀ (k : Nat) (l : List Int) (i : Int), 0 ≤ i → l.length ≤ 1048576 → l.length - i.toNat ≤ d → d < k → laws_eqIntS.l0 k l l i = some true := by
  induction d with
  | zero =>
    intro k l i h0 hl hd hk
    obtain ⟨k, rfl⟩ : ∃ m, k = m + 1 := ⟨k - 1, by omega⟩
    rw [laws_eqIntS.l0, if_neg (by omega)]
  | succ d ih =>
    intro k l i h0 hl hd hk
    obtain ⟨k, rfl⟩ : ∃ m, k = m + 1 := ⟨k - 1, by omega⟩
    rw [laws_eqIntS.l0]
    by_cases h : i < (l.length : Int)
    · rw [if_pos h, if_pos h0, if_pos h, if_pos rfl, w64 (by omega) (by omega)]; exact ih k l (i + 1) (by omega) hl (by omega) (by omega)
    · rw [if_neg h]
theorem eqs {l : List Int} (hl : l.length ≤ 1048576) {k : Nat} (hk : 1100000 ≤ k) : laws_eqIntS.f k l l = some true := by
  unfold laws_eqIntS.f; rw [if_pos rfl, eqs_l l.length k l 0 (by omega) hl (by omega) (by omega)]
theorem eqp (a b : Int) {l : List Int} (hl : l.length ≤ 1048576) {k : Nat} (hk : 1100000 ≤ k) : laws_eqPicture.f k a b l a b l = some true := by
  unfold laws_eqPicture.f; rw [if_pos rfl, if_pos rfl, eqs hl hk]; rfl
theorem markk_l (d : Nat) : ∀ (k : Nat) (l : List S60) (m i : Int), 0 ≤ i → i ≤ l.length → l.length ≤ 1048576 → (l.length : Int) - i = d → d < k → 0 ≤ m → m + 3 * d ≤ 1000000000 → ∃ o, laws_markPartS.l0 k l m i = some (m + 3 * d, o) := by
  induction d with
  | zero =>
    intro k l m i i0 i1 hl hd hk m0 m1
    obtain ⟨k, rfl⟩ : ∃ m, k = m + 1 := ⟨k - 1, by omega⟩
    refine ⟨l, ?_⟩
    rw [laws_markPartS.l0, if_neg (by omega)]; simp
  | succ d ih =>
    intro k l m i i0 i1 hl hd hk m0 m1
    obtain ⟨k, rfl⟩ : ∃ m, k = m + 1 := ⟨k - 1, by omega⟩
    rw [laws_markPartS.l0, if_pos (by omega), if_pos i0, Option.bind_some, Option.bind_some, w64 (x := m + 1) (by omega) (by omega), w64 (x := m + 1 + 1) (by omega) (by omega), w64 (x := m + 1 + 1 + 1) (by omega) (by omega), w64 (x := i + 1) (by omega) (by omega)]
    generalize hG : (List.set _ _ _ : List S60) = G
    have hGl : G.length = l.length := by rw [← hG]; simp only [List.length_set]
    obtain ⟨o, ho⟩ := ih k G (m + 1 + 1 + 1) (i + 1) (by omega) (by omega) (by omega) (by omega) (by omega) (by omega) (by omega)
    refine ⟨o, ?_⟩
    rw [ho]; congr 2; omega
theorem markk {l : List S60} {m : Int} (m0 : 0 ≤ m) (m1 : m ≤ 100000000) (hl : l.length ≤ 1048576) {k : Nat} (hk : 1100000 ≤ k) : ∃ o, laws_markPartS.f k l m = some (m + 3 * (l.length : Nat), o) := by
  unfold laws_markPartS.f; exact markk_l l.length k l m 0 (by omega) (by omega) hl (by omega) (by omega) m0 (by omega)
theorem marks_l (d : Nat) : ∀ (k : Nat) (l : List Int) (m i : Int), 0 ≤ i → i ≤ l.length → 0 ≤ m → m + d ≤ 1000000000 → l.length ≤ 1048576 → (l.length : Int) - i = d → d < k →
    laws_markIntS.l0 k l m i = some (m + d, l.take i.toNat ++ marks m d) := by
  induction d with
  | zero =>
    intro k l m i h0 h1 m0 m1 hl hd hk
    obtain ⟨k, rfl⟩ : ∃ m, k = m + 1 := ⟨k - 1, by omega⟩
    rw [laws_markIntS.l0, if_neg (by omega)]
    simp only [marks, List.append_nil, List.take_of_length_le (show l.length ≤ i.toNat by omega)]
    rw [show m + ((0 : Nat) : Int) = m by omega]
  | succ d ih =>
    intro k l m i h0 h1 m0 m1 hl hd hk
    obtain ⟨k, rfl⟩ : ∃ m, k = m + 1 := ⟨k - 1, by omega⟩
    rw [laws_markIntS.l0, if_pos (by omega), if_pos h0, w64 (by omega) (by omega), w64 (by omega) (by omega), ih k _ (m + 1) (i + 1) (by omega) (by rw [List.length_set]; omega) (by omega) (by omega) (by rw [List.length_set]; omega) (by rw [List.length_set]; omega) (by omega)]
    have e : (l.set i.toNat m).take (i + 1).toNat = l.take i.toNat ++ [m] := by
      rw [show (i + 1).toNat = i.toNat + 1 by omega, List.take_succ_eq_append_getElem (by rw [List.length_set]; omega), List.getElem_set]
      rw [if_pos rfl, List.take_set_of_le (Nat.le_refl _)]
    rw [e]
    simp only [marks, List.append_assoc, List.cons_append, List.nil_append]
    rw [show m + 1 + (d : Int) = m + ((d + 1 : Nat) : Int) by omega]
theorem mark_s {l : List Int} {m : Int} (m0 : 0 ≤ m) (m1 : m ≤ 100000000) (hl : l.length ≤ 1048576) {k : Nat} (hk : 1100000 ≤ k) : laws_markIntS.f k l m = some (m + l.length, marks m l.length) := by
  unfold laws_markIntS.f; rw [marks_l l.length k l m 0 (by omega) (by omega) m0 (by omega) hl (by omega) (by omega)]; rfl
theorem mark_p (a b : Int) {l : List Int} {m : Int} (m0 : 0 ≤ m) (m1 : m ≤ 100000000) (hl : l.length ≤ 1048576) {k : Nat} (hk : 1100000 ≤ k) : laws_markPicture.f k a b l m = some (m + l.length, marks m l.length) := by
  unfold laws_markPicture.f; rw [mark_s m0 m1 hl hk]; rfl
theorem l1In (x a b : Int) : spec_l1In.f x a b = some (decide (a ≤ x ∧ x ≤ b)) := by
  unfold spec_l1In.f
  split
  all_goals first | exact dec_dd (by omega) | exact dec_ff (by omega)
theorem kers_l1 (K xs : List S60) (m i : Int) (x y z : Int) (d : Nat) : ∀ (k : Nat) (s : List S60) (j : Int), 0 ≤ j → s.length ≤ 12 → (s.length : Int) - j = d →
    spec_IsKernel.l1 (k + d + 1) K xs m i s s.length j x y z = if newB x y (s.drop j.toNat) = true then spec_IsKernel.l0 k K xs m (wrap64 (i + 1)) else some false := by
  induction d with
  | zero =>
    intro k s j h0 hs hd
    rw [spec_IsKernel.l1, if_neg (by omega), List.drop_eq_nil_of_le (by omega)]; rfl
  | succ d ih =>
    intro k s j h0 hs hd
    rw [← Nat.add_assoc, spec_IsKernel.l1, if_pos (by omega), if_pos h0, if_pos (by omega), w64 (by omega) (by omega), ih k s (j + 1) (by omega) hs (by omega), dropK h0 (by omega), newB]
    by_cases h1 : x = (rd_T60 s j).f0
    · by_cases h2 : y = (rd_T60 s j).f1
      · rw [if_pos h1, if_pos h2, if_pos (And.intro h1 h2)]; rfl
      · rw [if_pos h1, if_neg h2, if_neg (show ¬ (_ ∧ _) from fun h => h2 h.2)]
    · rw [if_neg h1, if_neg (show ¬ (_ ∧ _) from fun h => h1 h.1)]
theorem chainS {α : Type} (J : Bool → Option α) (a : S60) : (spec_l1In.f a.f0 (-4) 4).bind (fun t => if t = true then (spec_l1In.f a.f1 0 4).bind (fun t => if t = true then (if a.f1 = 0 then (if a.f0 < 1 then J true else (spec_l1In.f a.f2 1 100).bind fun t => J (!t)) else (spec_l1In.f a.f2 1 100).bind fun t => J (!t)) else J true) else J true) = J (!decide (okP a)) := by
  simp only [l1In, Option.bind_some, decide_eq_true_eq, ← decide_not]
  repeat' split
  all_goals (congr 1; first | exact decide_eq_decide.mpr (by unfold okP; omega) | exact (decide_eq_true (by unfold okP; omega)).symm)
theorem kers_l (K : List S60) (hK : K.length ≤ 12) (d : Nat) : ∀ (k : Nat) (i : Int), 0 ≤ i → (K.length : Int) - i = d → d * 16 < k →
    spec_IsKernel.l0 k K K K.length i = some (kerB (K.drop i.toNat) (K.take i.toNat)) := by
  induction d with
  | zero =>
    intro k i h0 hd hk
    obtain ⟨k, rfl⟩ : ∃ m, k = m + 1 := ⟨k - 1, by omega⟩
    rw [spec_IsKernel.l0, if_neg (by omega), List.drop_eq_nil_of_le (by omega)]; rfl
  | succ d ih =>
    intro k i h0 hd hk
    have tl : (K.take i.toNat).length = i.toNat := by rw [List.length_take]; omega
    obtain ⟨k, rfl⟩ : ∃ m, k = m + i.toNat + 1 + 1 + 1 := ⟨k - i.toNat - 3, by omega⟩
    rw [spec_IsKernel.l0, if_pos (by omega), if_pos h0, if_pos (by omega), dropK h0 (by omega), kerB]
    refine (chainS (fun b => spec_IsKernel.j1 _ K i K K.length i b (rd_T60 K i).f0 (rd_T60 K i).f1 (rd_T60 K i).f2) (rd_T60 K i)).trans ?_
    rw [spec_IsKernel.j1]
    by_cases ho : okP (rd_T60 K i)
    · rw [decide_eq_true ho, if_neg (by decide), if_pos h0, if_pos (by omega), Option.bind_some, kers_l1 K K K.length i _ _ _ i.toNat k (K.take i.toNat) 0 (by omega) (by omega) (by omega)]
      rw [w64 (by omega) (by omega), ih k (i + 1) (by omega) (by omega) (by omega), takeK h0 (by omega)]
      show _ = some (true && newB _ _ (K.take i.toNat) && _)
      rw [Bool.true_and]
      show (if newB _ _ (K.take i.toNat) = true then _ else _) = _
      cases newB (rd_T60 K i).f0 (rd_T60 K i).f1 (K.take i.toNat) <;> rfl
    · rw [decide_eq_false ho, if_pos (by decide)]; rfl
theorem ker_s {K : List S60} {k : Nat} (hk : 1100 ≤ k) : spec_IsKernel.f k K = some (decide (Ker K)) := by
  unfold spec_IsKernel.f
  rw [l1In, Option.bind_some]
  by_cases h : 1 ≤ (K.length : Int) ∧ (K.length : Int) ≤ 12
  · rw [if_pos (decide_eq_true h), kers_l K (by omega) K.length k 0 (by omega) (by omega) (by omega)]
    show some (kerB K []) = _
    have : Ker K ↔ kerB K [] = true := ⟨fun h => h.2.2, fun e => ⟨by omega, by omega, e⟩⟩
    by_cases hb : kerB K [] = true
    · rw [hb, decide_eq_true (this.mpr hb)]
    · rw [decide_eq_false (fun e => hb (this.mp e))]; simpa using hb
  · rw [if_neg (by rw [decide_eq_true_iff]; exact h)]; exact dec_ff (fun e => h ⟨by have := e.1; omega, by have := e.2.1; omega⟩)
theorem size_s (W H : Int) : spec_l1Size.f W H = some (decide (Sz W H)) := by
  unfold spec_l1Size.f
  simp only [l1In, Option.bind_some]
  by_cases hW : 1 ≤ W ∧ W ≤ 64
  · by_cases hH : 1 ≤ H ∧ H ≤ 64
    · have := mul_bd (c := 64) (d := 64) (show 0 ≤ W by omega) hW.2 (show 0 ≤ H by omega) hH.2
      rw [if_pos (decide_eq_true hW), if_pos (decide_eq_true hH), w64 (by omega) (by omega)]
      exact dec_dd (by unfold Sz; omega)
    · rw [if_pos (decide_eq_true hW), if_neg (by rw [decide_eq_true_iff]; exact hH)]; exact dec_ff (fun h => hH ⟨h.2.2.1, h.2.2.2.1⟩)
  · rw [if_neg (by rw [decide_eq_true_iff]; exact hW)]; exact dec_ff (fun h => hW ⟨h.1, h.2.1⟩)
theorem up_l (m : Int) (d : Nat) : ∀ (k : Nat) (l : List Int) (i : Int), 0 ≤ i → l.length ≤ 1048576 → i ≤ l.length → (l.length : Int) - i = d → d < k → spec_l1Up.l0 k m l l.length i = some (decide (All m (l.drop i.toNat))) := by
  induction d with
  | zero =>
    intro k l i h0 hl h1 hd hk
    obtain ⟨k, rfl⟩ : ∃ m, k = m + 1 := ⟨k - 1, by omega⟩
    rw [spec_l1Up.l0, if_neg (by omega), List.drop_eq_nil_of_le (by omega)]
    rw [decide_eq_true (show All m [] from fun v h => by simp at h)]
  | succ d ih =>
    intro k l i h0 hl h1 hd hk
    obtain ⟨k, rfl⟩ : ∃ m, k = m + 1 := ⟨k - 1, by omega⟩
    rw [spec_l1Up.l0, if_pos (by omega), if_pos h0, if_pos (by omega), l1In, rd_at, Option.bind_some, drop_at l h0 (by omega), w64 (by omega) (by omega)]
    by_cases h : 0 ≤ at_ l i ∧ at_ l i ≤ m
    · rw [if_pos (decide_eq_true h), ih k l (i + 1) (by omega) hl (by omega) (by omega) (by omega)]
      exact dec_dd (by rw [All.cons]; exact ⟨fun x => ⟨h, x⟩, fun x => x.2⟩)
    · rw [if_neg (by rw [decide_eq_true_iff]; exact h)]; exact dec_ff (fun x => h (All.cons.mp x).1)
theorem up_s {W H : Int} {l : List Int} (hl : l.length ≤ 1048576) (m : Int) {k : Nat} (hk : 1100000 ≤ k) : spec_l1Up.f k W H l m = some (decide (Up W H l m)) := by
  obtain ⟨k, rfl⟩ : ∃ m, k = m + 1 := ⟨k - 1, by omega⟩
  unfold spec_l1Up.f
  rw [size_s, Option.bind_some]
  by_cases h : Sz W H
  · have := h.area
    rw [if_pos (decide_eq_true h), w64 (by omega) (by omega), spec_l1Up.j0]
    by_cases e : (l.length : Int) = W * H
    · rw [if_neg (by rw [bne_iff_ne]; exact fun x => x e), up_l m l.length k l 0 (by omega) hl (by omega) (by omega) (by omega)]
      exact dec_dd ⟨fun x => ⟨h, e, x⟩, fun x => x.2.2⟩
    · rw [if_pos (by rw [bne_iff_ne]; exact e)]; exact dec_ff (fun x => e x.2.1)
  · rw [if_neg (by rw [decide_eq_true_iff]; exact h), spec_l1Up.j0, if_pos rfl]; exact dec_ff (fun x => h x.1)
theorem pict_s {W H : Int} {l : List Int} (hl : l.length ≤ 1048576) {k : Nat} (hk : 1100000 ≤ k) : spec_IsPicture.f k W H l = some (decide (Up W H l 255)) := by
  unfold spec_IsPicture.f; rw [up_s hl 255 hk]; rfl
theorem wt_sl (K : List S60) (hK : K.length ≤ 12) (ho : ∀ a ∈ K, okP a) (d : Nat) : ∀ (k : Nat) (s i : Int), 0 ≤ i → (K.length : Int) - i = d → d < k → 0 ≤ s → s + 100 * d ≤ 100000 →
    spec_WeightOf.l0 k s K K.length i = some (s + kWt (K.drop i.toNat)) := by
  induction d with
  | zero =>
    intro k s i h0 hd hk s0 s1
    obtain ⟨k, rfl⟩ : ∃ m, k = m + 1 := ⟨k - 1, by omega⟩
    rw [spec_WeightOf.l0, if_neg (by omega), List.drop_eq_nil_of_le (by omega)]; simp [kWt]
  | succ d ih =>
    intro k s i h0 hd hk s0 s1
    obtain ⟨k, rfl⟩ : ∃ m, k = m + 1 := ⟨k - 1, by omega⟩
    have h2 := ho _ (memK h0 (show i < K.length by omega)); unfold okP at h2
    rw [spec_WeightOf.l0, if_pos (by omega), if_pos h0, if_pos (by omega), w64 (by omega) (by omega), w64 (by omega) (by omega), ih k _ (i + 1) (by omega) (by omega) (by omega) (by omega) (by omega), dropK h0 (by omega), kWt, Int.add_assoc]
theorem wt_s {K : List S60} (h : Ker K) {k : Nat} (hk : 1100 ≤ k) : spec_WeightOf.f k K = some (kWt K) := by
  have := h.2.1
  unfold spec_WeightOf.f
  rw [ker_s hk, Option.bind_some, if_pos (decide_eq_true h), wt_sl K h.2.1 (fun a ha => h.ok ha) K.length k 0 0 (by omega) (by omega) (by omega) (by omega) (by omega)]
  simp
theorem mod_s {x n : Int} (h0 : 0 < n) (h1 : n ≤ 9223372036854775807) : spec_l2Mod.f x n = some (x % n) := by
  unfold spec_l2Mod.f
  rw [if_neg (by omega)]
  have h2 := Int.emod_nonneg x (show n ≠ 0 by omega)
  have h3 := Int.emod_lt_of_pos x h0
  have e := Int.tmod_eq_emod (a := x) (b := n)
  by_cases hc : 0 ≤ x ∨ n ∣ x
  · rw [if_pos hc] at e
    rw [e, if_neg (by omega)]; simp
  · rw [if_neg hc] at e
    rw [e, if_pos (by omega), w64 (by omega) (by omega)]; simp only [Option.some.injEq]; omega
theorem shares_sl (K : List S60) (hK : K.length ≤ 12) {S : Int} (hS : S ≠ 0) (e : Int) (d : Nat) : ∀ (k : Nat) (o : List Int) (r i : Int), 0 ≤ i → (K.length : Int) - i = d → d < k → o.length ≤ 12 → o.length = i.toNat → 1 ≤ K.length →
    spec_l4Shares.l0 k S e o r K K.length i = some (shF S e (K.drop i.toNat) o r) := by
  induction d with
  | zero =>
    intro k o r i h0 hd hk ho he hn
    obtain ⟨k, rfl⟩ : ∃ m, k = m + 1 := ⟨k - 1, by omega⟩
    rw [spec_l4Shares.l0, if_neg (by omega), List.drop_eq_nil_of_le (by omega), if_pos (by omega)]; rfl
  | succ d ih =>
    intro k o r i h0 hd hk ho he hn
    obtain ⟨k, rfl⟩ : ∃ m, k = m + 1 := ⟨k - 1, by omega⟩
    have hm : ∀ v : Int, spec_l2Mod.f v S = some (if Int.tmod v S < 0 then wrap64 (Int.tmod v S + S) else Int.tmod v S) := by
      intro v; unfold spec_l2Mod.f; rw [if_neg hS]; split <;> rfl
    rw [spec_l4Shares.l0, if_pos (by omega), if_pos h0, if_pos (by omega), hm, Option.bind_some, if_neg hS, if_pos (by omega), w64 (x := i + 1) (by omega) (by omega)]
    rw [dropK h0 (by omega), shF]
    exact ih k _ _ (i + 1) (by omega) (by omega) (by omega) (by rw [List.length_append]; simp only [List.length_cons, List.length_nil]; omega) (by rw [List.length_append]; simp only [List.length_cons, List.length_nil]; omega) hn
theorem shares_s {K : List S60} (h : Ker K) (e : Int) {k : Nat} (hk : 13 ≤ k) : spec_l4Shares.f k K (kWt K) e = some (kShares K e) := by
  unfold spec_l4Shares.f; have := h.wt; have := h.2.1
  rw [shares_sl K h.2.1 (by omega) e K.length k [] e 0 (by omega) (by omega) (by omega) (by simp) (by simp) h.1]; rfl
theorem run_l1 {K : List S60} (hk : Ker K) {W H : Int} (hs : Sz W H) (al : Bool) (D E : List Int) (S way x y m i : Int) (p : List Int) (hw : way = 1 ∨ way = -1) (x0 : 0 ≤ x) (x1 : x < W) (y0 : 0 ≤ y) (y1 : y < H) (sh : List Int) (hsh : sh.length = K.length) (d : Nat) :
    ∀ (k : Nat) (V : List Int) (L j : Int), 0 ≤ j → (K.length : Int) - j = d → (V.length : Int) = W * H →
    spec_l4Run.l1 (k + d + 1) K al V D E S L y x way m i sh sh.length j W H p = spec_l4Run.l0 k K al (spread W H way x y (K.drop j.toNat) (sh.drop j.toNat) V L).1 D E S (spread W H way x y (K.drop j.toNat) (sh.drop j.toNat) V L).2 m (wrap64 (i + 1)) W H p := by
  have hK := hk.2.1
  induction d with
  | zero =>
    intro k V L j h0 hd hV
    rw [spec_l4Run.l1, if_neg (by omega), List.drop_eq_nil_of_le (by omega)]; rfl
  | succ d ih =>
    intro k V L j h0 hd hV
    have h2 := hk.ok (memK h0 (show j < K.length by omega)); unfold okP at h2
    have h3 := way_mul hw h2.1 h2.2.1
    have hW := hs.1; have hW2 := hs.2.1; have hH := hs.2.2.1; have hH2 := hs.2.2.2.1
    rw [← Nat.add_assoc, spec_l4Run.l1, if_pos (by omega), if_pos h0, if_pos (by omega), if_pos (by omega), w64 (x := way * (rd_T60 K j).f0) (by omega) (by omega), w64 (x := x + way * (rd_T60 K j).f0) (by omega) (by omega), w64 (x := W - 1) (by omega) (by omega), w64 (x := y + (rd_T60 K j).f1) (by omega) (by omega), l1In, Option.bind_some]
    rw [dropK h0 (by omega), drop_at sh h0 (by omega), spread, w64 (x := j + 1) (by omega) (by omega), rd_at]
    by_cases c1 : 0 ≤ x + way * (rd_T60 K j).f0 ∧ x + way * (rd_T60 K j).f0 ≤ W - 1
    · rw [if_pos (decide_eq_true c1)]
      by_cases c2 : y + (rd_T60 K j).f1 < H
      · have q := xy_idx (W := W) (H := H) (x := x + way * (rd_T60 K j).f0) (y := y + (rd_T60 K j).f1) c1.1 (by omega) (by omega) c2
        rw [if_pos c2, if_neg (show ¬ (x + way * (rd_T60 K j).f0 < 0 ∨ W ≤ x + way * (rd_T60 K j).f0 ∨ H ≤ y + (rd_T60 K j).f1) by omega), put_idx hs (by omega) (by omega) (by omega) (by omega), if_pos q.1, if_pos (by omega), rd_at]
        exact ih k _ L (j + 1) (by omega) (by omega) (by rw [List.length_set]; exact hV)
      · rw [if_neg c2, if_pos (show (x + way * (rd_T60 K j).f0 < 0 ∨ W ≤ x + way * (rd_T60 K j).f0 ∨ H ≤ y + (rd_T60 K j).f1) by omega)]
        exact ih k V _ (j + 1) (by omega) (by omega) hV
    · rw [if_neg (by rw [decide_eq_true_iff]; exact c1), if_pos (show (x + way * (rd_T60 K j).f0 < 0 ∨ W ≤ x + way * (rd_T60 K j).f0 ∨ H ≤ y + (rd_T60 K j).f1) by omega)]
      exact ih k V _ (j + 1) (by omega) (by omega) hV
theorem run_l {K : List S60} (hk : Ker K) {W H : Int} (hs : Sz W H) (al : Bool) (p : List Int) (d : Nat) : ∀ (k : Nat) (V D E : List Int) (L i : Int), 0 ≤ i → W * H - i = d → (V.length : Int) = W * H → (D.length : Int) = W * H → (E.length : Int) = W * H → d * 20 + 100 < k →
    spec_l4Run.l0 k K al V D E (kWt K) L (W * H) i W H p = some (difF K W H al d i V D E L) := by
  have hK := hk.2.1; have ha := hs.area
  have hW := hs.1; have hW2 := hs.2.1; have hH := hs.2.2.1; have hH2 := hs.2.2.2.1
  induction d with
  | zero =>
    intro k V D E L i h0 hd hV hD hE hf
    obtain ⟨k, rfl⟩ : ∃ m, k = m + 1 := ⟨k - 1, by omega⟩
    rw [spec_l4Run.l0, if_neg (by omega)]; rfl
  | succ d ih =>
    intro k V D E L i h0 hd hV hD hE hf
    obtain ⟨k, rfl⟩ : ∃ m, k = m + K.length + 1 + 1 + 1 + 1 + 1 := ⟨k - K.length - 5, by omega⟩
    have hr := hs.row h0 (by omega)
    have hc := col_bd hs h0 (by omega) al
    have hx := xy_idx hc.1 hc.2 hr.2.2.1 hr.2.2.2
    have hw : wayF al (i / W) = 1 ∨ wayF al (i / W) = -1 := by unfold wayF; split <;> omega
    rw [spec_l4Run.l0, if_pos (by omega), if_neg (by omega), tdiv_pos h0, tmod_pos h0, w64 (x := i / W) (by omega) (by omega), tmod_pos hr.2.2.1]
    have key : ∀ kk, kk = k + K.length + 1 + 1 + 1 → spec_l4Run.j2 kk K al V D E (kWt K) L (i / W) (colF W al i) (wayF al (i / W)) (W * H) i W H p = some (difF K W H al (d + 1) i V D E L) := by
      rintro _ rfl
      rw [spec_l4Run.j2, put_idx hs (by omega) (by omega) (by omega) (by omega), if_pos hx.1, if_pos (by omega), rd_at]
      have fin : ∀ (D' : List Int) (e : Int), (D'.length : Int) = W * H → spec_l4Run.j3 (k + K.length + 1 + 1) K al V D' E (kWt K) L (i / W) (colF W al i) (wayF al (i / W)) (i / W * W + colF W al i) e (W * H) i W H p =
          some (difF K W H al d (i + 1) (spread W H (wayF al (i / W)) (colF W al i) (i / W) K (kShares K e) V L).1 D' (E.set (i / W * W + colF W al i).toNat e) (spread W H (wayF al (i / W)) (colF W al i) (i / W) K (kShares K e) V L).2) := by
        intro D' e hD'
        have hsl := kShares_len K e
        rw [spec_l4Run.j3, if_pos hx.1, if_pos (by omega), shares_s hk e (by omega), Option.bind_some]
        rw [run_l1 hk hs al _ _ _ _ _ _ _ _ _ hw hc.1 hc.2 hr.2.2.1 hr.2.2.2 _ hsl K.length k V L 0 (by omega) (by omega) hV]
        rw [w64 (x := i + 1) (by omega) (by omega)]
        exact ih k _ _ _ _ (i + 1) (by omega) (by omega) (by rw [spread_len]; exact hV) hD' (by rw [List.length_set]; exact hE) (by omega)
      rw [difF]
      by_cases c : at_ V (i / W * W + colF W al i) ≥ 128
      · rw [if_pos c, if_pos (by omega), fin _ _ (by rw [List.length_set]; exact hD), if_pos c]
        rw [show errF (at_ V (i / W * W + colF W al i)) = wrap64 (at_ V (i / W * W + colF W al i) - 255) by unfold errF; rw [if_pos c]]
      · rw [if_neg c, fin _ _ hD, if_neg c]
        rw [show errF (at_ V (i / W * W + colF W al i)) = at_ V (i / W * W + colF W al i) by unfold errF; rw [if_neg c]]
    by_cases c : al = true
    · rw [if_pos c, spec_l4Run.j1]
      by_cases c2 : (i / W) % 2 = 1
      · rw [if_pos (beq_iff_eq.mpr c2), w64 (x := W - 1) (by omega) (by omega), w64 (by omega) (by omega)]
        have e1 : colF W al i = W - 1 - i % W := by unfold colF; rw [if_pos ⟨c, c2⟩]
        have e2 : wayF al (i / W) = -1 := by unfold wayF; rw [if_pos ⟨c, c2⟩]
        rw [← e1, ← e2]; exact key _ rfl
      · rw [if_neg (by rw [beq_iff_eq]; exact c2)]
        have e1 : colF W al i = i % W := by unfold colF; rw [if_neg (fun h => c2 h.2)]
        have e2 : wayF al (i / W) = 1 := by unfold wayF; rw [if_neg (fun h => c2 h.2)]
        rw [← e2]
        conv => lhs; rw [← e1]
        exact key _ rfl
    · rw [if_neg c, spec_l4Run.j1, if_neg (by decide)]
      have e1 : colF W al i = i % W := by unfold colF; rw [if_neg (fun h => c h.1)]
      have e2 : wayF al (i / W) = 1 := by unfold wayF; rw [if_neg (fun h => c h.1)]
      rw [← e2]
      conv => lhs; rw [← e1]
      exact key _ rfl
theorem run_s {K : List S60} (hk : Ker K) {W H : Int} {l : List Int} (hu : Up W H l 255) (al : Bool) {k : Nat} (hf : 1000000 ≤ k) : spec_l4Run.f k K W H l al = some (dif K W H l al) := by
  have ha := hu.1.area; have hl := hu.2.1
  unfold spec_l4Run.f
  rw [Option.bind_some, if_pos (by simp only [List.length_nil]; omega), Option.bind_some, List.nil_append, if_pos (by omega), if_pos (by omega), wt_s hk (by omega), Option.bind_some, Int.toNat_natCast, hl]
  exact run_l hk hu.1 al l l.length k l _ _ 0 0 (by omega) (by omega) hl (by simpa using hl) (by simpa using hl) (by omega)
theorem difp_s {K : List S60} {W H : Int} {l : List Int} (al : Bool) (hl : l.length ≤ 1048576) {k : Nat} (hk : 1100000 ≤ k) : spec_DiffusePicture.f k K W H l al = some (kDif K W H l al) := by
  unfold spec_DiffusePicture.f kDif
  rw [ker_s (by omega), Option.bind_some]
  by_cases h : Ker K
  · rw [if_pos (decide_eq_true h), pict_s hl hk, Option.bind_some]
    by_cases h2 : Up W H l 255
    · rw [if_pos (decide_eq_true h2), run_s h h2 al (by omega), Option.bind_some, if_pos ⟨h, h2⟩]
    · rw [if_neg (by rw [decide_eq_true_iff]; exact h2), if_neg (fun x => h2 x.2)]
  · rw [if_neg (by rw [decide_eq_true_iff]; exact h), if_neg (fun x => h x.1)]
theorem held_l (n : Nat) (m : Int) (m0 : 0 ≤ m) (m1 : m ≤ 100000000) (hn : n ≤ 1048576) (d : Nat) : ∀ (k : Nat) (i : Int), 0 ≤ i → i ≤ n → (n : Int) - i = d → d < k → laws_heldIntS.l0 k (marks m n) (m + i) i = some (m + n) := by
  induction d with
  | zero =>
    intro k i h0 h1 hd hk
    obtain ⟨k, rfl⟩ : ∃ m, k = m + 1 := ⟨k - 1, by omega⟩
    rw [laws_heldIntS.l0, if_neg (by rw [marks_length]; omega), show m + i = m + (n : Int) by omega]
  | succ d ih =>
    intro k i h0 h1 hd hk
    obtain ⟨k, rfl⟩ : ∃ m, k = m + 1 := ⟨k - 1, by omega⟩
    have e : rd (marks m n) i = m + i := by
      rw [rd_at]; unfold at_; rw [List.getD_eq_getElem?_getD, marks_at n m i.toNat (by omega), Option.getD_some]; omega
    rw [laws_heldIntS.l0, if_pos (by rw [marks_length]; omega), if_pos h0, if_pos e, w64 (by omega) (by omega), w64 (by omega) (by omega), show m + i + 1 = m + (i + 1) by omega]
    exact ih k (i + 1) (by omega) (by omega) (by omega) (by omega)
theorem held_s {n : Nat} {m : Int} (m0 : 0 ≤ m) (m1 : m ≤ 100000000) (hn : n ≤ 1048576) {k : Nat} (hk : 1100000 ≤ k) : laws_heldIntS.f k (marks m n) m = some (m + n) := by
  have := held_l n m m0 m1 hn n k 0 (by omega) (by omega) (by omega) (by omega)
  rw [Int.add_zero] at this
  unfold laws_heldIntS.f; exact this
theorem held_p (a b : Int) {n : Nat} {m : Int} (m0 : 0 ≤ m) (m1 : m ≤ 100000000) (hn : n ≤ 1048576) {k : Nat} (hk : 1100000 ≤ k) : laws_heldPicture.f k a b (marks m n) m = some (m + n) := by
  unfold laws_heldPicture.f; rw [held_s m0 m1 hn hk, Option.bind_some, if_neg (by omega)]
theorem pure_FnExactDiffusePicture (K : List S74) (W H : Int) (l : List Int) (al : Bool) (hK : K.length ≤ 140737488351232) (hl : l.length ≤ 140737488351232) : ∃ k, laws_FnExactDiffusePicture.f k K W H l al = some true := by
  obtain ⟨m, hm⟩ : ∃ m : Nat, 2000000 ≤ m := ⟨2000000, Nat.le_refl _⟩
  refine ⟨m + 8, ?_⟩
  unfold laws_FnExactDiffusePicture.f
  rw [sz_k K hK, Option.bind_some]
  by_cases h1 : (K.length : Int) ≤ 1048576
  · rw [if_pos h1, if_neg (by omega), sz_p W H l _ (by omega) (by omega) hl, Option.bind_some]
    by_cases h : (l.length : Int) ≤ 1048576 - K.length
    · rw [if_pos h, if_neg (by omega)]
      have hK' : K.length ≤ 1048576 := by omega
      have hl' : l.length ≤ 1048576 := by omega
      have hk' : (K.map ck).length ≤ 1048576 := by rw [List.length_map]; exact hK'
      have hs := kDif_len (K.map ck) W H l al hl'
      obtain ⟨o, ho⟩ := markk (l := K.map ck) (m := 1) (by omega) (by omega) hk' (k := m + 7) (by omega)
      simp (disch := first | assumption | omega) only [tok, top, Option.bind_some, difp_s, difp_i, eqp, eqk, if_true, bne_self_eq_false]
      rw [laws_FnExactDiffusePicture.j0]
      simp (disch := first | assumption | omega) only [tok, top, Option.bind_some, difp_s, difp_i, eqp, eqk, if_true, bne_self_eq_false, Bool.false_eq_true, if_false, ho]
      rw [mark_p _ _ (by omega) (by omega) hl' (by omega), Option.bind_some, if_neg (by omega)]
      rw [laws_FnExactDiffusePicture.j1]
      simp (disch := first | assumption | omega) only [tok, top, Option.bind_some, difp_s, difp_i, eqp, eqk, if_true, bne_self_eq_false, Bool.false_eq_true, if_false, mark_p, held_p, mk_neg]
      rw [laws_FnExactDiffusePicture.j2]
      simp (disch := first | assumption | omega) only [tok, top, Option.bind_some, difp_s, difp_i, eqp, eqk, if_true, bne_self_eq_false, Bool.false_eq_true, if_false, mark_p, held_p, mk_neg]
    · rw [if_neg h]; rfl
  · rw [if_neg h1]; rfl

end Go.Proofs.Ytnohdgbfgdnpfaa.PFnExactDiffusePicture
