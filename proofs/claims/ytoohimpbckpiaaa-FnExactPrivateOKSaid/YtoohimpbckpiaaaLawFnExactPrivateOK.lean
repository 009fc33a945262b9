/- Laid by a program of this session (patch_print.py) out of the translation: plain functions and what the calls do. No condition. -/
import Derived.Test.YtoohimpbckpiaaaRows
import Derived.Test.YtoohimpbckpiaaaPFnExactPrivateOKx8
import Derived.Test.YtoohimpbckpiaaaPureFnExactPrivateOK
import Derived.WalkKit
import Derived.ProofKit
import Derived.OpenShut
import Derived.ShutString
import Derived.ChangeOld
import Derived.Below
import Derived.SizedLaws
import Derived.Test.YtoohimpbckpiaaaNOpen
namespace Go.Proofs.Ytoohimpbckpiaaa.fnExactPrivateOK
open Go.ChangeShapes Go.WideShapes Go.ChangeAt Go.RowKit
open Go.ChangeMaps (open_string shut_string)
set_option linter.unusedVariables false
theorem own : ownKnob Try.prog.godebug = none := by kernel_rfl
theorem laidOut : laidOutB Try.prog = true := by kernel_rfl
open Go.Proofs.Ytoohimpbckpiaaa.Open Go.Proofs.Ytoohimpbckpiaaa.PFnExactPrivateOK Go.Proofs.YtoohimpbckpiaaaW.PrintWords
theorem opens94 : Opens Try.prog 94 k94 ok94 :=
  opens_struct (l := [(0, 3), (1, 3), (2, 9)]) (fun x : S94 => (x.f0, x.f1, x.f2)) (fun p => ⟨p.1, p.2.1, p.2.2⟩) (fun _ => rfl) Try.underlying94 (by kernel_rfl) (opensF_cons (opens_int Try.underlying3 (by kernel_rfl)) rfl (opensF_cons (opens_int Try.underlying3 (by kernel_rfl)) rfl (opensF_last (opens_string Try.underlying9 (by kernel_rfl)) (by kernel_rfl))))
theorem opens45 : Opens Try.prog 45 k45 ok45 :=
  opens_struct (l := [(0, 43)]) (fun x : S45 => x.f0) (fun p => ⟨p⟩) (fun _ => rfl) Try.underlying45 (by kernel_rfl) (opensF_last (opens_slice Try.underlying43 (by kernel_rfl) opens94) (by kernel_rfl))
set_option maxRecDepth 100000 in
theorem lifted (os : Os) (started : os.Started) (H : Type) (enc : TypeId × Value → H) :
    ReturnsInHanded {} Try.checked os 13 .any (Rows.fnExactPrivateOKSpec.pre6 enc Try.prog Try.f13 Rows.fnExactPrivateOKRow.domain false) (Rows.fnExactPrivateOKSpec.post enc Try.prog Try.f13 false true false false) := by
  refine returnsInHanded_of_change_sized (C := Try.checked) own started (by kernel_rfl) Try.func13
    (ChangeSpec.witness6 (enc := enc) (C := Try.checked) false ⟨#[], #[.agg #[.slice none 0 0]], []⟩ 8 (by kernel_rfl) (by kernel_rfl) (by kernel_rfl) (by kernel_rfl)) ?_
  intro W base args ds gs before hval0 hW hcnd hsz0 _
  have hsz : (DataW.weightsEach Try.prog (Try.f13.params.toList ++ Rows.fnExactPrivateOKSpec.plain.varTypes Try.prog) (ds ++ gs)).all (· ≤ reachBytes) = true := hsz0
  have hval : ∀ (j : Nat) t v, Try.f13.params[j]? = some t → args[j]? = some v → Value.okWide Try.prog W .any base t v := hval0
  have hW' := hW
  obtain ⟨p, q, hA0, hV, rfl, hfz, hnd⟩ := hW
  have hA : DataW.TrodAll enc Try.prog W 0 (fun _ => true) true Try.f13.params.toList args.toList ds p := hA0
  rw [Try.params13] at hA hval hsz
  obtain ⟨v0, vs0, d0, ds0, p0, q0, hargs, rfl, rfl, h0, r0⟩ := trodAll_cons hA
  obtain ⟨rfl, rfl, rfl⟩ := trodAll_nil r0
  obtain rfl : args = #[v0] := by cases args; simp_all
  obtain ⟨rfl, rfl⟩ := trodVars_none hV
  have k0 := h0
  have lt0 : ∀ x ∈ p0, x.block < W.heap.size := by obtain ⟨m, hm⟩ := k0; exact DataW.trod_lt m _ _ _ hm
  obtain ⟨cs0, x0, rfl, hK0, okx0⟩ := opens_arg opens45 Try.underlying45 (hval 0 45 v0 rfl rfl) h0
  obtain ⟨A0_0, c0_0, he0, hc0_0, hr0_0⟩ := k45_open hK0
  obtain rfl : cs0 = #[.slice A0_0 x0.f0.length c0_0] := by have z := congrArg List.toArray he0; simpa using z
  clear hA0 hval0 hsz0 hsz
  refine (PFnExactPrivateOK.laws_FnExactPrivateOK.walk Pure.FnExactPrivateOK x0 A0_0 c0_0 W okx0 hr0_0 hc0_0).mono fun e W' ⟨he, bel⟩ => ?_
  subst he
  exact ⟨_, rfl, _, _, _, [], _, [], hW', trodAll_mk1 (shut_bool Try.underlying4 _), (trodAll_cons_mk (Below.trod laidOut (by kernel_rfl) (of_decide_eq_true (by kernel_rfl)) k0 bel lt0) trodAll_mk0), rfl, bel.frame _, fun h => by cases h⟩
theorem over : Rows.fnExactPrivateOKRow.holds Try.pinned (OpenSpec.ofChange Rows.fnExactPrivateOKSpec) :=
  OpenClaim.holds_of_wide 13 Try.f13 rfl rfl rfl rfl rfl rfl rfl ⟨rfl, rfl, rfl, rfl, rfl⟩ rfl rfl rfl rfl rfl (by kernel_rfl) Try.func13 (by kernel_rfl)
    (of_decide_eq_true (by kernel_rfl)) (by unfold Func.isWrapper; first | (rw [if_pos (by decide +kernel)]; kernel_rfl) | (rw [if_neg (by decide +kernel)]; exact ⟨rfl, rfl⟩))
    (fun os started H enc _ => lifted os started H enc)
theorem proved : Rows.FnExactPrivateOKSaid := over
#print axioms proved
end Go.Proofs.Ytoohimpbckpiaaa.fnExactPrivateOK
namespace Go.Proofs.Ytoohimpbckpiaaa
/-- The row, under a short name, for the claim. -/
theorem fnExactPrivateOK_holds : Rows.FnExactPrivateOKSaid := fnExactPrivateOK.proved
end Go.Proofs.Ytoohimpbckpiaaa
