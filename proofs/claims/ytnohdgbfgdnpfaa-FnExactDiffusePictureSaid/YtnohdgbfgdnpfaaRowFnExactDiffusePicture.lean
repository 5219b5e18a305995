/- The row of the law laws.FnExactDiffusePicture: whatever the arguments, the law returns true, and the arguments read as before. No further condition. -/
import Derived.Test.YtnohdgbfgdnpfaaRows
import Derived.Test.YtnohdgbfgdnpfaaFFnExactDiffusePicture
import Derived.Test.YtnohdgbfgdnpfaaOpenK
import Derived.WalkKit
import Derived.ProofKit
import Derived.OpenShut
import Derived.ShutString
import Derived.ChangeOld
import Derived.Below
import Derived.SizedLaws
import Derived.Lib.SmallJoins
namespace Go.Proofs.Ytnohdgbfgdnpfaa.fnExactDiffusePicture
open Go.ChangeShapes Go.WideShapes Go.ChangeAt Go.RowKit Go.Joins
set_option linter.unusedVariables false
theorem own : ownKnob Try.prog.godebug = none := by kernel_rfl
theorem laidOut : laidOutB Try.prog = true := by kernel_rfl
theorem cells44 : Try.prog.cellsOf 44 = 3 := by kernel_rfl
theorem cells74 : Try.prog.cellsOf 74 = 3 := by kernel_rfl
set_option maxRecDepth 100000 in
theorem lifted (os : Os) (started : os.Started) (H : Type) (enc : TypeId × Value → H) :
    ReturnsInHanded {} Try.checked os 6 .any (Rows.fnExactDiffusePictureSpec.pre6 enc Try.prog Try.f6 Rows.fnExactDiffusePictureRow.domain false) (Rows.fnExactDiffusePictureSpec.post enc Try.prog Try.f6 false true false false) := by
  refine returnsInHanded_of_change_sized (C := Try.checked) own started (by kernel_rfl) Try.func6
    (ChangeSpec.witness6 (enc := enc) (C := Try.checked) false ⟨#[], #[.slice none 0 0, .agg #[.int .i64 0, .int .i64 0, .slice none 0 0], .bool false], []⟩ 8 (by kernel_rfl) (by kernel_rfl) (by kernel_rfl) (by kernel_rfl)) ?_
  intro W base args ds gs before hval0 hW _ hsz0 _
  have hsz : (DataW.weightsEach Try.prog (Try.f6.params.toList ++ Rows.fnExactDiffusePictureSpec.plain.varTypes Try.prog) (ds ++ gs)).all (· ≤ reachBytes) = true := hsz0
  have hval : ∀ (j : Nat) t v, Try.f6.params[j]? = some t → args[j]? = some v → Value.okWide Try.prog W .any base t v := hval0
  have hW' := hW
  obtain ⟨p, q, hA0, hV, rfl, _, _⟩ := hW
  have hA : DataW.TrodAll enc Try.prog W 0 (fun _ => true) true Try.f6.params.toList args.toList ds p := hA0
  rw [Try.params6] at hA hval hsz
  obtain ⟨v0, vs0, d0, ds0, p0, q0, hargs, rfl, rfl, h0, r0⟩ := trodAll_cons hA
  obtain ⟨v1, vs1, d1, ds1, p1, q1, rfl, rfl, rfl, h1, r1⟩ := trodAll_cons r0
  obtain ⟨v2, vs2, d2, ds2, p2, q2, rfl, rfl, rfl, h2, r2⟩ := trodAll_cons r1
  obtain ⟨rfl, rfl, rfl⟩ := trodAll_nil r2
  obtain rfl : args = #[v0, v1, v2] := by cases args; simp_all
  obtain ⟨rfl, rfl⟩ := trodVars_none hV
  have k0 := h0
  have lt0 : ∀ x ∈ p0, x.block < W.heap.size := by obtain ⟨m, hm⟩ := k0; exact DataW.trod_lt m _ _ _ hm
  obtain ⟨A0, c0, l0, rfl, hr0, hc0, hl0, _, _⟩ := Open.open_rows PFnExactDiffusePicture.k74 (fun x : PFnExactDiffusePicture.S74 => True) Try.underlying43 (by rw [cells74]; rfl) rfl (of_decide_eq_true (by kernel_rfl)) (hval 0 43 v0 rfl rfl) h0 (Open.each hsz (j := 0) (t := 43) rfl rfl) (fun n_ cs_ y_ h_ hw_ => by
    obtain ⟨a_, b_, c_, rfl⟩ := Open.ints_el Try.underlying74 (by kernel_rfl) cells74 Try.underlying3 Try.underlying3 Try.underlying3 h_
    exact ⟨⟨a_, b_, c_⟩, trivial, PFnExactDiffusePicture.k74_mk W ⟨a_, b_, c_⟩⟩)
  have k1 := h1
  have lt1 : ∀ x ∈ p1, x.block < W.heap.size := by obtain ⟨m, hm⟩ := k1; exact DataW.trod_lt m _ _ _ hm
  obtain ⟨a1, b1, A1, c1, l1, rfl, _, _, hr1, hc1, hl1, _, _⟩ := Open.open_pic (B := 8) Try.underlying44 (by kernel_rfl) cells44 Try.underlying3 Try.underlying3 Try.underlying29 Try.underlying3 (by kernel_rfl) (by kernel_rfl) (by decide) (hval 1 44 v1 rfl rfl) h1 (Open.each hsz (j := 1) (t := 44) rfl rfl)
  obtain ⟨a2, rfl, rfl, rfl⟩ := open_bool Try.underlying4 (hval 2 4 v2 rfl rfl) h2
  clear hA0 hval0
  obtain ⟨k, hk⟩ := PFnExactDiffusePicture.pure_FnExactDiffusePicture l0 a1 b1 l1 a2 hl0 hl1
  refine (PFnExactDiffusePicture.laws_FnExactDiffusePicture.calls k A0 c0 l0 a1 b1 A1 c1 l1 a2 true W hr0 hc0 hr1 hc1 hk).mono fun e W' ⟨he, bel0⟩ => ?_
  have bel : Below W.heap.size W W' := by first | exact bel0 | exact bel0.below
  subst he
  exact ⟨_, rfl, _, _, _, [], _, [], hW', trodAll_mk1 (shut_bool Try.underlying4 _), (trodAll_cons_mk (Below.trod laidOut (by kernel_rfl) (of_decide_eq_true (by kernel_rfl)) k0 bel lt0) (trodAll_cons_mk (Below.trod laidOut (by kernel_rfl) (of_decide_eq_true (by kernel_rfl)) k1 bel lt1) (trodAll_cons_mk (shut_bool Try.underlying4 _) trodAll_mk0))), rfl, bel.frame _, fun h => by cases h⟩
theorem over : Rows.fnExactDiffusePictureRow.holds Try.pinned (OpenSpec.ofChange Rows.fnExactDiffusePictureSpec) :=
  OpenClaim.holds_of_wide 6 Try.f6 rfl rfl rfl rfl rfl rfl rfl ⟨rfl, rfl, rfl, rfl, rfl⟩ rfl rfl rfl rfl rfl (by kernel_rfl) Try.func6 (by kernel_rfl)
    (of_decide_eq_true (by kernel_rfl)) (by unfold Func.isWrapper; first | (rw [if_pos (by decide +kernel)]; kernel_rfl) | (rw [if_neg (by decide +kernel)]; exact ⟨rfl, rfl⟩))
    (fun os started H enc _ => lifted os started H enc)
theorem proved : Rows.FnExactDiffusePictureSaid := over
end Go.Proofs.Ytnohdgbfgdnpfaa.fnExactDiffusePicture
namespace Go.Proofs.Ytnohdgbfgdnpfaa
theorem fnExactDiffusePicture_holds : Rows.FnExactDiffusePictureSaid := fnExactDiffusePicture.proved
#print axioms fnExactDiffusePicture_holds
end Go.Proofs.Ytnohdgbfgdnpfaa
