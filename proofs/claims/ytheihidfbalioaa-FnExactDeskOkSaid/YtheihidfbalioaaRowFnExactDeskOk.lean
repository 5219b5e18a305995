/- The row of the law laws.FnExactDeskOk: whatever the arguments, the law returns true, and the arguments read as before. No further condition. -/
import Derived.Test.YtheihidfbalioaaRows
import Derived.Test.YtheihidfbalioaaFFnExactDeskOk
import Derived.Test.YtheihidfbalioaaOpenD
import Derived.WalkKit
import Derived.ProofKit
import Derived.OpenShut
import Derived.ShutString
import Derived.ChangeOld
import Derived.Below
import Derived.SizedLaws
import Derived.Lib.SmallJoins
namespace Go.Proofs.Ytheihidfbalioaa.fnExactDeskOk
open Go.ChangeShapes Go.WideShapes Go.ChangeAt Go.RowKit Go.Joins
set_option linter.unusedVariables false
theorem own : ownKnob Try.prog.godebug = none := by kernel_rfl
theorem laidOut : laidOutB Try.prog = true := by kernel_rfl
theorem cells60 : Try.prog.cellsOf 60 = 3 := by kernel_rfl
theorem cells61 : Try.prog.cellsOf 61 = 3 := by kernel_rfl
theorem cells64 : Try.prog.cellsOf 64 = 7 := by kernel_rfl
set_option maxRecDepth 100000 in
theorem lifted (os : Os) (started : os.Started) (H : Type) (enc : TypeId × Value → H) :
    ReturnsInHanded {} Try.checked os 13 .any (Rows.fnExactDeskOkSpec.pre6 enc Try.prog Try.f13 Rows.fnExactDeskOkRow.domain false) (Rows.fnExactDeskOkSpec.post enc Try.prog Try.f13 false true false false) := by
  refine returnsInHanded_of_change_sized (C := Try.checked) own started (by kernel_rfl) Try.func13
    (ChangeSpec.witness6 (enc := enc) (C := Try.checked) false ⟨#[], #[.agg #[.int .i64 0, .int .i64 0, .slice none 0 0, .int .i64 0, .int .i64 0, .slice none 0 0, .slice none 0 0]], []⟩ 8 (by kernel_rfl) (by kernel_rfl) (by kernel_rfl) (by kernel_rfl)) ?_
  intro W base args ds gs before hval0 hW _ hsz0 _
  have hsz : (DataW.weightsEach Try.prog (Try.f13.params.toList ++ Rows.fnExactDeskOkSpec.plain.varTypes Try.prog) (ds ++ gs)).all (· ≤ reachBytes) = true := hsz0
  have hval : ∀ (j : Nat) t v, Try.f13.params[j]? = some t → args[j]? = some v → Value.okWide Try.prog W .any base t v := hval0
  have hW' := hW
  obtain ⟨p, q, hA0, hV, rfl, _, _⟩ := hW
  have hA : DataW.TrodAll enc Try.prog W 0 (fun _ => true) true Try.f13.params.toList args.toList ds p := hA0
  rw [Try.params13] at hA hval hsz
  obtain ⟨v0, vs0, d0, ds0, p0, q0, hargs, rfl, rfl, h0, r0⟩ := trodAll_cons hA
  obtain ⟨rfl, rfl, rfl⟩ := trodAll_nil r0
  obtain rfl : args = #[v0] := by cases args; simp_all
  obtain ⟨rfl, rfl⟩ := trodVars_none hV
  have k0 := h0
  have lt0 : ∀ x ∈ p0, x.block < W.heap.size := by obtain ⟨m, hm⟩ := k0; exact DataW.trod_lt m _ _ _ hm
  obtain ⟨x0_0, x0_1, x0_2, x0_3, x0_4, x0_5, x0_6, y0_0, y0_1, y0_2, n0, rfl, ha0, hwa0, hb0, hwb0, hc0_, hwc0⟩ := Open.open_desk Try.underlying64 cells64 rfl cells60 rfl cells61 rfl (by kernel_rfl) (hval 0 64 v0 rfl rfl) h0 (Open.each hsz (j := 0) (t := 64) rfl rfl)
  obtain ⟨a0, b0, A0, c0, l0, ea0, _, _, hr0, hc0, hl0, _, _⟩ := Open.pic_el (B := 8) Try.underlying60 (by kernel_rfl) cells60 Try.underlying3 Try.underlying3 Try.underlying23 Try.underlying3 (by kernel_rfl) (by kernel_rfl) (by decide) ha0 hwa0
  obtain ⟨am0, bm0, Am0, cm0, lm0, eb0, _, _, hrm0, hcm0, hlm0, _, _⟩ := Open.pic_el (B := 8) Try.underlying61 (by kernel_rfl) cells61 Try.underlying3 Try.underlying3 Try.underlying23 Try.underlying3 (by kernel_rfl) (by kernel_rfl) (by decide) hb0 hwb0
  obtain ⟨As0, cs0, ls0, ec0, hrs0, hcs0, hls0, hqs0, _⟩ := Open.trod_rows PFnExactDeskOk.k60 (fun x : PFnExactDeskOk.S60 => x.f2.length ≤ 140737488351232) Try.underlying62 (by rw [cells60]; rfl) rfl (of_decide_eq_true (by kernel_rfl)) (fun n_ cs_ y_ h_ hw_ => by
    obtain ⟨a_, b_, A_, c_, l_, rfl, _, _, hr_, hc_, hl_, _, _⟩ := Open.pic_el (B := 8) Try.underlying60 (by kernel_rfl) cells60 Try.underlying3 Try.underlying3 Try.underlying23 Try.underlying3 (by kernel_rfl) (by kernel_rfl) (by decide) h_ hw_
    exact ⟨⟨a_, b_, l_⟩, hl_, PFnExactDeskOk.k60_mk W ⟨a_, b_, l_⟩ hc_ hr_⟩) hc0_ hwc0
  simp only [List.cons.injEq, and_true] at ea0 eb0
  obtain ⟨rfl, rfl, rfl⟩ := ea0
  obtain ⟨rfl, rfl, rfl⟩ := eb0
  subst ec0
  clear hA0 hval0
  obtain ⟨k, hk⟩ := PFnExactDeskOk.pure_FnExactDeskOk a0 b0 l0 am0 bm0 lm0 ls0 hl0 hlm0 hls0 hqs0
  refine (PFnExactDeskOk.laws_FnExactDeskOk.calls k a0 b0 A0 c0 l0 am0 bm0 Am0 cm0 lm0 As0 cs0 ls0 true W hr0 hc0 hrm0 hcm0 hrs0 hcs0 hk).mono fun e W' ⟨he, bel0⟩ => ?_
  have bel : Below W.heap.size W W' := by first | exact bel0 | exact bel0.below
  subst he
  exact ⟨_, rfl, _, _, _, [], _, [], hW', trodAll_mk1 (shut_bool Try.underlying4 _), (trodAll_cons_mk (Below.trod laidOut (by kernel_rfl) (of_decide_eq_true (by kernel_rfl)) k0 bel lt0) trodAll_mk0), rfl, bel.frame _, fun h => by cases h⟩
theorem over : Rows.fnExactDeskOkRow.holds Try.pinned (OpenSpec.ofChange Rows.fnExactDeskOkSpec) :=
  OpenClaim.holds_of_wide 13 Try.f13 rfl rfl rfl rfl rfl rfl rfl ⟨rfl, rfl, rfl, rfl, rfl⟩ rfl rfl rfl rfl rfl (by kernel_rfl) Try.func13 (by kernel_rfl)
    (of_decide_eq_true (by kernel_rfl)) (by unfold Func.isWrapper; first | (rw [if_pos (by decide +kernel)]; kernel_rfl) | (rw [if_neg (by decide +kernel)]; exact ⟨rfl, rfl⟩))
    (fun os started H enc _ => lifted os started H enc)
theorem proved : Rows.FnExactDeskOkSaid := over
end Go.Proofs.Ytheihidfbalioaa.fnExactDeskOk
namespace Go.Proofs.Ytheihidfbalioaa
theorem fnExactDeskOk_holds : Rows.FnExactDeskOkSaid := fnExactDeskOk.proved
#print axioms fnExactDeskOk_holds
end Go.Proofs.Ytheihidfbalioaa
