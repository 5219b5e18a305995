/- The row of the law laws.FnExactIsStack: whatever the arguments, the law returns true, and the arguments read as before. No further condition. -/
import Derived.Test.YtdbbgmnjbkmjmaaRows
import Derived.Test.YtdbbgmnjbkmjmaaFFnExactIsStack
import Derived.Test.YtdbbgmnjbkmjmaaOpen
import Derived.WalkKit
import Derived.ProofKit
import Derived.OpenShut
import Derived.ShutString
import Derived.ChangeOld
import Derived.Below
import Derived.SizedLaws
import Derived.Lib.SmallJoins
namespace Go.Proofs.Ytdbbgmnjbkmjmaa.fnExactIsStack
open Go.ChangeShapes Go.WideShapes Go.ChangeAt Go.RowKit Go.Joins
set_option linter.unusedVariables false
theorem own : ownKnob Try.prog.godebug = none := by kernel_rfl
theorem laidOut : laidOutB Try.prog = true := by kernel_rfl
theorem cells30 : Try.prog.cellsOf 30 = 3 := by kernel_rfl
set_option maxRecDepth 100000 in
theorem lifted (os : Os) (started : os.Started) (H : Type) (enc : TypeId × Value → H) :
    ReturnsInHanded {} Try.checked os 7 .any (Rows.fnExactIsStackSpec.pre6 enc Try.prog Try.f7 Rows.fnExactIsStackRow.domain false) (Rows.fnExactIsStackSpec.post enc Try.prog Try.f7 false true false false) := by
  refine returnsInHanded_of_change_sized (C := Try.checked) own started (by kernel_rfl) Try.func7
    (ChangeSpec.witness6 (enc := enc) (C := Try.checked) false ⟨#[], #[.slice none 0 0], []⟩ 8 (by kernel_rfl) (by kernel_rfl) (by kernel_rfl) (by kernel_rfl)) ?_
  intro W base args ds gs before hval0 hW _ hsz0 _
  have hsz : (DataW.weightsEach Try.prog (Try.f7.params.toList ++ Rows.fnExactIsStackSpec.plain.varTypes Try.prog) (ds ++ gs)).all (· ≤ reachBytes) = true := hsz0
  have hval : ∀ (j : Nat) t v, Try.f7.params[j]? = some t → args[j]? = some v → Value.okWide Try.prog W .any base t v := hval0
  have hW' := hW
  obtain ⟨p, q, hA0, hV, rfl, _, _⟩ := hW
  have hA : DataW.TrodAll enc Try.prog W 0 (fun _ => true) true Try.f7.params.toList args.toList ds p := hA0
  rw [Try.params7] at hA hval hsz
  obtain ⟨v0, vs0, d0, ds0, p0, q0, hargs, rfl, rfl, h0, r0⟩ := trodAll_cons hA
  obtain ⟨rfl, rfl, rfl⟩ := trodAll_nil r0
  obtain rfl : args = #[v0] := by cases args; simp_all
  obtain ⟨rfl, rfl⟩ := trodVars_none hV
  have k0 := h0
  have lt0 : ∀ x ∈ p0, x.block < W.heap.size := by obtain ⟨m, hm⟩ := k0; exact DataW.trod_lt m _ _ _ hm
  obtain ⟨A0, c0, l0, rfl, hr0, hc0, hl0, hq0, _⟩ := Open.open_rows PFnExactIsStack.k30 (fun x : PFnExactIsStack.S30 => x.f2.length ≤ 140737488351232) Try.underlying41 (by rw [cells30]; rfl) rfl (of_decide_eq_true (by kernel_rfl)) (hval 0 41 v0 rfl rfl) h0 (Open.each hsz (j := 0) (t := 41) rfl rfl) (fun n_ cs_ y_ h_ hw_ => by
    obtain ⟨a_, b_, A_, c_, l_, rfl, _, _, hr_, hc_, hl_, _, _⟩ := Open.pic_el (B := 8) Try.underlying30 (by kernel_rfl) cells30 Try.underlying3 Try.underlying3 Try.underlying22 Try.underlying3 (by kernel_rfl) (by kernel_rfl) (by decide) h_ hw_
    exact ⟨⟨a_, b_, l_⟩, hl_, PFnExactIsStack.k30_mk W ⟨a_, b_, l_⟩ hc_ hr_⟩)
  clear hA0 hval0
  obtain ⟨k, hk⟩ := PFnExactIsStack.pure_FnExactIsStack l0 hl0 hq0
  refine (PFnExactIsStack.laws_FnExactIsStack.calls k A0 c0 l0 true W hr0 hc0 hk).mono fun e W' ⟨he, bel0⟩ => ?_
  have bel : Below W.heap.size W W' := by first | exact bel0 | exact bel0.below
  subst he
  exact ⟨_, rfl, _, _, _, [], _, [], hW', trodAll_mk1 (shut_bool Try.underlying4 _), (trodAll_cons_mk (Below.trod laidOut (by kernel_rfl) (of_decide_eq_true (by kernel_rfl)) k0 bel lt0) trodAll_mk0), rfl, bel.frame _, fun h => by cases h⟩
theorem over : Rows.fnExactIsStackRow.holds Try.pinned (OpenSpec.ofChange Rows.fnExactIsStackSpec) :=
  OpenClaim.holds_of_wide 7 Try.f7 rfl rfl rfl rfl rfl rfl rfl ⟨rfl, rfl, rfl, rfl, rfl⟩ rfl rfl rfl rfl rfl (by kernel_rfl) Try.func7 (by kernel_rfl)
    (of_decide_eq_true (by kernel_rfl)) (by unfold Func.isWrapper; first | (rw [if_pos (by decide +kernel)]; kernel_rfl) | (rw [if_neg (by decide +kernel)]; exact ⟨rfl, rfl⟩))
    (fun os started H enc _ => lifted os started H enc)
theorem proved : Rows.FnExactIsStackSaid := over
end Go.Proofs.Ytdbbgmnjbkmjmaa.fnExactIsStack
namespace Go.Proofs.Ytdbbgmnjbkmjmaa
theorem fnExactIsStack_holds : Rows.FnExactIsStackSaid := fnExactIsStack.proved
#print axioms fnExactIsStack_holds
end Go.Proofs.Ytdbbgmnjbkmjmaa
