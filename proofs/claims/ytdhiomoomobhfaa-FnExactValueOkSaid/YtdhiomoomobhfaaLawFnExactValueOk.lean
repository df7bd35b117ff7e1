/- The row of the law FnExactValueOk: for every value that can be read the call returns true and the argument reads as it did. No condition. -/
import Derived.Test.YtdhiomoomobhfaaRows
import Derived.Test.YtdhiomoomobhfaaP2
import Derived.Test.YtdhiomoomobhfaaMTies
import Derived.Test.YtdhiomoomobhfaaPureFnExactValueOk
import Derived.WalkKit
import Derived.ProofKit
import Derived.OpenShut
import Derived.ShutString
import Derived.ChangeOld
import Derived.Below
import Derived.SizedLaws
namespace Go.Proofs.Ytdhiomoomobhfaa.fnExactValueOk
open Go.ChangeShapes Go.WideShapes Go.ChangeAt Go.RowKit Go.Proofs.Ytdhiomoomobhfaa.M Go.Proofs.YtdhiomoomobhfaaW.PrintWords
open Go.ChangeMaps (open_string shut_string)
set_option linter.unusedVariables false
theorem own : ownKnob Try.prog.godebug = none := by kernel_rfl
theorem laidOut : laidOutB Try.prog = true := by kernel_rfl

/-- a value, read -/
theorem tie26 : Tie Try.prog 26 (Kd.pair (Kd.int .i64) (Kd.pair (Kd.int .i64) Kd.string)) (fun x => (Lit.int .i64 x.1).wf = true ∧ (Lit.int .i64 x.2.1).wf = true ∧ x.2.2.size ≤ maxLen) :=
  tie_struct Try.underlying26 (by kernel_rfl) (tieF_cons (tie_int Try.underlying3) rfl (by kernel_rfl) (tieF_cons (tie_int Try.underlying3) rfl (by kernel_rfl) (tieF_one (tie_string Try.underlying9) rfl (by kernel_rfl))))

set_option maxRecDepth 100000 in
theorem lifted (os : Os) (started : os.Started) (H : Type) (enc : TypeId × Value → H) :
    ReturnsInHanded {} Try.checked os 5 .any (Rows.fnExactValueOkSpec.pre6 enc Try.prog Try.f5 Rows.fnExactValueOkRow.domain false) (Rows.fnExactValueOkSpec.post enc Try.prog Try.f5 false true false false) := by
  refine returnsInHanded_of_change_sized (C := Try.checked) own started (by kernel_rfl) Try.func5
    (ChangeSpec.witness6 (enc := enc) (C := Try.checked) false ⟨#[], #[.agg #[.int .i64 0, .int .i64 0, .string ByteArray.empty]], []⟩ 8 (by kernel_rfl) (by kernel_rfl) (by kernel_rfl) (by kernel_rfl)) ?_
  intro W base args ds gs before hval0 hW hcnd hsz0 _
  have hval : ∀ (j : Nat) t v, Try.f5.params[j]? = some t → args[j]? = some v → Value.okWide Try.prog W .any base t v := hval0
  have hW' := hW
  obtain ⟨p, q, hA0, hV, rfl, hfz, hnd⟩ := hW
  have hA : DataW.TrodAll enc Try.prog W 0 (fun _ => true) true Try.f5.params.toList args.toList ds p := hA0
  rw [Try.params5] at hA hval
  obtain ⟨v0, vs0, d0, ds0, p0, q0, hargs, rfl, rfl, h0, r0⟩ := trodAll_cons hA
  obtain ⟨rfl, rfl, rfl⟩ := trodAll_nil r0
  obtain rfl : args = #[v0] := by cases args; simp_all
  obtain ⟨rfl, rfl⟩ := trodVars_none hV
  have k0 := h0
  have lt0 : ∀ x ∈ p0, x.block < W.heap.size := by obtain ⟨m, hm⟩ := k0; exact DataW.trod_lt m _ _ _ hm
  obtain ⟨cs, rfl, hcs⟩ := okWide_struct Try.underlying26 (hval 0 26 v0 rfl rfl)
  obtain ⟨fuel, hf⟩ := h0
  obtain ⟨x, hK, w1, w2, w3⟩ := tie26 enc W 0 _ _ fuel _ _ hf
  obtain ⟨c0, c1, e0, rfl, c2, c3, rfl, rfl, rfl⟩ := hK
  obtain rfl : cs = #[.int .i64 x.1, .int .i64 x.2.1, .string x.2.2] := by
    obtain ⟨l⟩ := cs
    simpa [Value.cells] using e0
  clear hA0 hval0 hval hsz0 e0
  obtain ⟨k, hk⟩ := Pure.FnExactValueOk x.1 x.2.1 x.2.2 w3
  refine (P.laws_FnExactValueOk.calls k x.1 x.2.1 x.2.2 true W hk).mono fun e W' ⟨he, bel⟩ => ?_
  subst he
  exact ⟨_, rfl, _, _, _, [], _, [], hW', trodAll_mk1 (shut_bool Try.underlying4 _), (trodAll_cons_mk (Below.trod laidOut (by kernel_rfl) (of_decide_eq_true (by kernel_rfl)) k0 bel lt0) trodAll_mk0), rfl, bel.frame _, fun h => by cases h⟩
theorem over : Rows.fnExactValueOkRow.holds Try.pinned (OpenSpec.ofChange Rows.fnExactValueOkSpec) :=
  OpenClaim.holds_of_wide 5 Try.f5 rfl rfl rfl rfl rfl rfl rfl ⟨rfl, rfl, rfl, rfl, rfl⟩ rfl rfl rfl rfl rfl (by kernel_rfl) Try.func5 (by kernel_rfl)
    (of_decide_eq_true (by kernel_rfl)) (by unfold Func.isWrapper; first | (rw [if_pos (by decide +kernel)]; kernel_rfl) | (rw [if_neg (by decide +kernel)]; exact ⟨rfl, rfl⟩))
    (fun os started H enc _ => lifted os started H enc)
theorem proved : Rows.FnExactValueOkSaid := over
#print axioms proved
end Go.Proofs.Ytdhiomoomobhfaa.fnExactValueOk
namespace Go.Proofs.Ytdhiomoomobhfaa
/-- The row, under a short name, for the claim. -/
theorem fnExactValueOk_holds : Rows.FnExactValueOkSaid := fnExactValueOk.proved
end Go.Proofs.Ytdhiomoomobhfaa
