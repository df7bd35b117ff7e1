/- The row of the law FnExactCacheDrop: for every cache and every run that can be read the call returns true and the arguments read as they did. No condition. -/
import Derived.Test.YtccioimicdggkaaRows
import Derived.Test.YtccioimicdggkaaCLawWalk
import Derived.Test.YtccioimicdggkaaCTies
import Derived.WalkKit
import Derived.ProofKit
import Derived.OpenShut
import Derived.ShutString
import Derived.ChangeOld
import Derived.Below
import Derived.SizedLaws
namespace Go.Proofs.Ytccioimicdggkaa.fnExactCacheDrop
open Go.ChangeShapes Go.WideShapes Go.ChangeAt Go.RowKit Go.Proofs.Ytccioimicdggkaa.C
set_option linter.unusedVariables false
theorem own : ownKnob Try.prog.godebug = none := by kernel_rfl
theorem laidOut : laidOutB Try.prog = true := by kernel_rfl
theorem tieV : Tie Try.prog 49 vEl V.ok :=
  tie_imp (tie_iso (tie_struct Try.underlying49 (by kernel_rfl) (tieF_cons (tie_int Try.underlying3) rfl (by kernel_rfl) (tieF_cons (tie_int Try.underlying3) rfl (by kernel_rfl) (tieF_one (tie_string Try.underlying9) rfl (by kernel_rfl))))) _ (fun p => ⟨p.1, p.2.1, p.2.2⟩) (fun _ => rfl)) (fun v h => max_le h.2.2)
theorem tieCmd : Tie Try.prog 80 cmdEl Cmd.ok :=
  tie_imp (tie_iso (tie_struct Try.underlying80 (by kernel_rfl) (tieF_cons (tie_int Try.underlying3) rfl (by kernel_rfl) (tieF_cons (tie_string Try.underlying9) rfl (by kernel_rfl) (tieF_one tieV rfl (by kernel_rfl))))) _ (fun p => ⟨p.1, p.2.1, p.2.2⟩) (fun _ => rfl)) (fun v h => ⟨max_le h.2.1, h.2.2⟩)
theorem tiePair : Tie Try.prog 83 pairEl Pair_.ok :=
  tie_imp (tie_iso (tie_struct Try.underlying83 (by kernel_rfl) (tieF_cons (tie_string Try.underlying9) rfl (by kernel_rfl) (tieF_one tieV rfl (by kernel_rfl)))) _ (fun p => ⟨p.1, p.2⟩) (fun _ => rfl)) (fun v h => ⟨max_le h.1, h.2⟩)
theorem tieOut : Tie Try.prog 52 (outEl 65 68) Out.ok :=
  tie_imp (tie_iso (tie_struct Try.underlying52 (by kernel_rfl) (tieF_cons (tie_slice (te := 65) Try.underlying48 tieCmd (by kernel_rfl) (by decide) zCmd) rfl (by kernel_rfl) (tieF_cons (tie_int Try.underlying3) rfl (by kernel_rfl) (tieF_cons tieV rfl (by kernel_rfl)
    (tieF_cons (tie_string Try.underlying9) rfl (by kernel_rfl) (tieF_cons (tie_slice (te := 68) Try.underlying50 tiePair (by kernel_rfl) (by decide) zPair) rfl (by kernel_rfl) (tieF_one (tie_int Try.underlying3) rfl (by kernel_rfl))))))))
    _ (fun p => ⟨p.1, p.2.1, p.2.2.1, p.2.2.2.1, p.2.2.2.2.1, p.2.2.2.2.2⟩) (fun _ => rfl)) (fun v h => ⟨h.1.2, h.2.2.1, max_le h.2.2.2.1, h.2.2.2.2.1.2⟩)
theorem tieItem : Tie Try.prog 54 (itemEl 65 68) (fun x => x.out.ok) :=
  tie_imp (tie_iso (tie_struct Try.underlying54 (by kernel_rfl) (tieF_cons (tie_int Try.underlying3) rfl (by kernel_rfl) (tieF_cons (tie_int Try.underlying3) rfl (by kernel_rfl) (tieF_one tieOut rfl (by kernel_rfl))))) _ (fun p => ⟨p.1, p.2.1, p.2.2⟩) (fun _ => rfl)) (fun v h => h.2.2)
theorem tieCache : Tie Try.prog 24 (El.row 44 (itemEl 65 68)) (fun l => ∀ x ∈ l, x.out.ok) :=
  tie_imp (tie_struct Try.underlying24 (by kernel_rfl) (tieF_one (tie_slice (te := 44) Try.underlying22 tieItem (by kernel_rfl) (by decide) zItem) rfl (by kernel_rfl))) (fun l h => h.2)

set_option maxRecDepth 100000 in
theorem lifted (os : Os) (started : os.Started) (H : Type) (enc : TypeId × Value → H) :
    ReturnsInHanded {} Try.checked os 3 .any (Rows.fnExactCacheDropSpec.pre6 enc Try.prog Try.f3 Rows.fnExactCacheDropRow.domain false) (Rows.fnExactCacheDropSpec.post enc Try.prog Try.f3 false true false false) := by
  refine returnsInHanded_of_change_sized (C := Try.checked) own started (by kernel_rfl) Try.func3
    (ChangeSpec.witness6 (enc := enc) (C := Try.checked) false ⟨#[], #[.agg #[.slice none 0 0], .int .i64 0], []⟩ 8 (by kernel_rfl) (by kernel_rfl) (by kernel_rfl) (by kernel_rfl)) ?_
  intro W base args ds gs before hval0 hW hcnd hsz0 _
  have hval : ∀ (j : Nat) t v, Try.f3.params[j]? = some t → args[j]? = some v → Value.okWide Try.prog W .any base t v := hval0
  have hW' := hW
  obtain ⟨p, q, hA0, hV, rfl, hfz, hnd⟩ := hW
  have hA : DataW.TrodAll enc Try.prog W 0 (fun _ => true) true Try.f3.params.toList args.toList ds p := hA0
  rw [Try.params3] at hA hval
  obtain ⟨v0, vs0, d0, ds0, p0, q0, hargs, rfl, rfl, h0, r0⟩ := trodAll_cons hA
  obtain ⟨v1, vs1, d1, ds1, p1, q1, rfl, rfl, rfl, h1, r1⟩ := trodAll_cons r0
  obtain ⟨rfl, rfl, rfl⟩ := trodAll_nil r1
  obtain rfl : args = #[v0, v1] := by cases args; simp_all
  obtain ⟨rfl, rfl⟩ := trodVars_none hV
  have k0 := h0
  have lt0 : ∀ x ∈ p0, x.block < W.heap.size := by obtain ⟨m, hm⟩ := k0; exact DataW.trod_lt m _ _ _ hm
  obtain ⟨cs, rfl, hcs⟩ := okWide_struct Try.underlying24 (hval 0 24 v0 rfl rfl)
  obtain ⟨n, rfl, rfl, rfl, wn⟩ := open_int Try.underlying3 (hval 1 3 v1 rfl rfl) h1
  obtain ⟨fuel, hf⟩ := h0
  obtain ⟨x, ⟨u, e0, hK⟩, hok⟩ := tieCache enc W 0 _ _ fuel _ _ hf
  obtain rfl : cs = #[u] := by
    obtain ⟨l⟩ := cs
    simpa [Value.cells] using e0
  clear hA0 hval0 hval hsz0 e0
  refine (law_calls n hK hok W (Sub.of W)).mono fun e W' ⟨he, bel⟩ => ?_
  subst he
  exact ⟨_, rfl, _, _, _, [], _, [], hW', trodAll_mk1 (shut_bool Try.underlying4 _), (trodAll_cons_mk (Below.trod laidOut (by kernel_rfl) (of_decide_eq_true (by kernel_rfl)) k0 bel lt0) (trodAll_cons_mk (shut_int Try.underlying3 wn) trodAll_mk0)), rfl, bel.frame _, fun h => by cases h⟩
theorem over : Rows.fnExactCacheDropRow.holds Try.pinned (OpenSpec.ofChange Rows.fnExactCacheDropSpec) :=
  OpenClaim.holds_of_wide 3 Try.f3 rfl rfl rfl rfl rfl rfl rfl ⟨rfl, rfl, rfl, rfl, rfl⟩ rfl rfl rfl rfl rfl (by kernel_rfl) Try.func3 (by kernel_rfl)
    (of_decide_eq_true (by kernel_rfl)) (by unfold Func.isWrapper; first | (rw [if_pos (by decide +kernel)]; kernel_rfl) | (rw [if_neg (by decide +kernel)]; exact ⟨rfl, rfl⟩))
    (fun os started H enc _ => lifted os started H enc)
theorem proved : Rows.FnExactCacheDropSaid := over
#print axioms proved
end Go.Proofs.Ytccioimicdggkaa.fnExactCacheDrop
namespace Go.Proofs.Ytccioimicdggkaa
/-- The row, under a short name, for the claim. -/
theorem fnExactCacheDrop_holds : Rows.FnExactCacheDropSaid := fnExactCacheDrop.proved
end Go.Proofs.Ytccioimicdggkaa
