/- The row of the law laws.FnExactMarkCounts: whatever the arguments, the law returns true, and the arguments read as before. No further condition. -/
import Derived.Test.YtmahpennnnajcaaRows
import Derived.Test.YtmahpennnnajcaaFFnExactMarkCounts
import Derived.Test.YtmahpennnnajcaaOpen
import Derived.WalkKit
import Derived.ProofKit
import Derived.OpenShut
import Derived.ShutString
import Derived.ChangeOld
import Derived.Below
import Derived.SizedLaws
import Derived.Lib.SmallJoins
namespace Go.Proofs.Ytmahpennnnajcaa.fnExactMarkCounts
open Go.ChangeShapes Go.WideShapes Go.ChangeAt Go.RowKit Go.Joins
set_option linter.unusedVariables false
theorem own : ownKnob Try.prog.godebug = none := by kernel_rfl
theorem laidOut : laidOutB Try.prog = true := by kernel_rfl
theorem cells24 : Try.prog.cellsOf 24 = 3 := by kernel_rfl
set_option maxRecDepth 100000 in
theorem lifted (os : Os) (started : os.Started) (H : Type) (enc : TypeId × Value → H) :
    ReturnsInHanded {} Try.checked os 5 .any (Rows.fnExactMarkCountsSpec.pre6 enc Try.prog Try.f5 Rows.fnExactMarkCountsRow.domain false) (Rows.fnExactMarkCountsSpec.post enc Try.prog Try.f5 false true false false) := by
  refine returnsInHanded_of_change_sized (C := Try.checked) own started (by kernel_rfl) Try.func5
    (ChangeSpec.witness6 (enc := enc) (C := Try.checked) false ⟨#[], #[.slice none 0 0], []⟩ 8 (by kernel_rfl) (by kernel_rfl) (by kernel_rfl) (by kernel_rfl)) ?_
  intro W base args ds gs before hval0 hW _ hsz0 _
  have hsz : (DataW.weightsEach Try.prog (Try.f5.params.toList ++ Rows.fnExactMarkCountsSpec.plain.varTypes Try.prog) (ds ++ gs)).all (· ≤ reachBytes) = true := hsz0
  have hval : ∀ (j : Nat) t v, Try.f5.params[j]? = some t → args[j]? = some v → Value.okWide Try.prog W .any base t v := hval0
  have hW' := hW
  obtain ⟨p, q, hA0, hV, rfl, _, _⟩ := hW
  have hA : DataW.TrodAll enc Try.prog W 0 (fun _ => true) true Try.f5.params.toList args.toList ds p := hA0
  rw [Try.params5] at hA hval hsz
  obtain ⟨v0, vs0, d0, ds0, p0, q0, hargs, rfl, rfl, h0, r0⟩ := trodAll_cons hA
  obtain ⟨rfl, rfl, rfl⟩ := trodAll_nil r0
  obtain rfl : args = #[v0] := by cases args; simp_all
  obtain ⟨rfl, rfl⟩ := trodVars_none hV
  have k0 := h0
  have lt0 : ∀ x ∈ p0, x.block < W.heap.size := by obtain ⟨m, hm⟩ := k0; exact DataW.trod_lt m _ _ _ hm
  obtain ⟨A0, c0, l0, rfl, hr0, hc0, hl0, hq0, _⟩ := Open.open_rows PFnExactMarkCounts.k24 (fun x : PFnExactMarkCounts.S24 => x.f2.length ≤ 140737488351232) Try.underlying42 (by rw [cells24]; rfl) rfl (of_decide_eq_true (by kernel_rfl)) (hval 0 42 v0 rfl rfl) h0 (Open.each hsz (j := 0) (t := 42) rfl rfl) (fun n_ cs_ y_ h_ hw_ => by
    obtain ⟨a_, b_, A_, c_, l_, rfl, _, _, hr_, hc_, hl_, _, _⟩ := Open.pic_el (B := 8) Try.underlying24 (by kernel_rfl) cells24 Try.underlying3 Try.underlying3 Try.underlying22 Try.underlying3 (by kernel_rfl) (by kernel_rfl) (by decide) h_ hw_
    exact ⟨⟨a_, b_, l_⟩, hl_, PFnExactMarkCounts.k24_mk W ⟨a_, b_, l_⟩ hc_ hr_⟩)
  clear hA0 hval0
  obtain ⟨k, hk⟩ := PFnExactMarkCounts.pure_FnExactMarkCounts l0 hl0 hq0
  refine (PFnExactMarkCounts.laws_FnExactMarkCounts.calls k A0 c0 l0 true W hr0 hc0 hk).mono fun e W' ⟨he, bel0⟩ => ?_
  have bel : Below W.heap.size W W' := by first | exact bel0 | exact bel0.below
  subst he
  exact ⟨_, rfl, _, _, _, [], _, [], hW', trodAll_mk1 (shut_bool Try.underlying4 _), (trodAll_cons_mk (Below.trod laidOut (by kernel_rfl) (of_decide_eq_true (by kernel_rfl)) k0 bel lt0) trodAll_mk0), rfl, bel.frame _, fun h => by cases h⟩
theorem over : Rows.fnExactMarkCountsRow.holds Try.pinned (OpenSpec.ofChange Rows.fnExactMarkCountsSpec) :=
  OpenClaim.holds_of_wide 5 Try.f5 rfl rfl rfl rfl rfl rfl rfl ⟨rfl, rfl, rfl, rfl, rfl⟩ rfl rfl rfl rfl rfl (by kernel_rfl) Try.func5 (by kernel_rfl)
    (of_decide_eq_true (by kernel_rfl)) (by unfold Func.isWrapper; first | (rw [if_pos (by decide +kernel)]; kernel_rfl) | (rw [if_neg (by decide +kernel)]; exact ⟨rfl, rfl⟩))
    (fun os started H enc _ => lifted os started H enc)
theorem proved : Rows.FnExactMarkCountsSaid := over
end Go.Proofs.Ytmahpennnnajcaa.fnExactMarkCounts
namespace Go.Proofs.Ytmahpennnnajcaa
theorem fnExactMarkCounts_holds : Rows.FnExactMarkCountsSaid := fnExactMarkCounts.proved
#print axioms fnExactMarkCounts_holds
end Go.Proofs.Ytmahpennnnajcaa
