/- Laid by a program of this session (patch_print.py) out of the translation: plain functions and what the calls do. No condition. -/
import Derived.Test.YtoohimpbckpiaaaRows
import Derived.Test.YtoohimpbckpiaaaPFnExactSpanOKx6
import Derived.Test.YtoohimpbckpiaaaPureFnExactSpanOK
import Derived.WalkKit
import Derived.ProofKit
import Derived.OpenShut
import Derived.ShutString
import Derived.ChangeOld
import Derived.Below
import Derived.SizedLaws
import Derived.Test.YtoohimpbckpiaaaNOpen
namespace Go.Proofs.Ytoohimpbckpiaaa.fnExactSpanOK
open Go.ChangeShapes Go.WideShapes Go.ChangeAt Go.RowKit
open Go.ChangeMaps (open_string shut_string)
set_option linter.unusedVariables false
theorem own : ownKnob Try.prog.godebug = none := by kernel_rfl
theorem laidOut : laidOutB Try.prog = true := by kernel_rfl
open Go.Proofs.Ytoohimpbckpiaaa.Open Go.Proofs.Ytoohimpbckpiaaa.PFnExactSpanOK Go.Proofs.YtoohimpbckpiaaaW.PrintWords
theorem opens94 : Opens Try.prog 94 k94 ok94 :=
  opens_struct (l := [(0, 3), (1, 3), (2, 9)]) (fun x : S94 => (x.f0, x.f1, x.f2)) (fun p => ⟨p.1, p.2.1, p.2.2⟩) (fun _ => rfl) Try.underlying94 (by kernel_rfl) (opensF_cons (opens_int Try.underlying3 (by kernel_rfl)) rfl (opensF_cons (opens_int Try.underlying3 (by kernel_rfl)) rfl (opensF_last (opens_string Try.underlying9 (by kernel_rfl)) (by kernel_rfl))))
theorem opens45 : Opens Try.prog 45 k45 ok45 :=
  opens_struct (l := [(0, 43)]) (fun x : S45 => x.f0) (fun p => ⟨p⟩) (fun _ => rfl) Try.underlying45 (by kernel_rfl) (opensF_last (opens_slice Try.underlying43 (by kernel_rfl) opens94) (by kernel_rfl))
set_option maxRecDepth 100000 in
theorem lifted (os : Os) (started : os.Started) (H : Type) (enc : TypeId × Value → H) :
    ReturnsInHanded {} Try.checked os 10 .any (Rows.fnExactSpanOKSpec.pre6 enc Try.prog Try.f10 Rows.fnExactSpanOKRow.domain false) (Rows.fnExactSpanOKSpec.post enc Try.prog Try.f10 false true false false) := by
  refine returnsInHanded_of_change_sized (C := Try.checked) own started (by kernel_rfl) Try.func10
    (ChangeSpec.witness6 (enc := enc) (C := Try.checked) false ⟨#[], #[.agg #[.slice none 0 0], .int .i64 0, .int .i64 0, .int .i64 0], []⟩ 8 (by kernel_rfl) (by kernel_rfl) (by kernel_rfl) (by kernel_rfl)) ?_
  intro W base args ds gs before hval0 hW hcnd hsz0 _
  have hsz : (DataW.weightsEach Try.prog (Try.f10.params.toList ++ Rows.fnExactSpanOKSpec.plain.varTypes Try.prog) (ds ++ gs)).all (· ≤ reachBytes) = true := hsz0
  have hval : ∀ (j : Nat) t v, Try.f10.params[j]? = some t → args[j]? = some v → Value.okWide Try.prog W .any base t v := hval0
  have hW' := hW
  obtain ⟨p, q, hA0, hV, rfl, hfz, hnd⟩ := hW
  have hA : DataW.TrodAll enc Try.prog W 0 (fun _ => true) true Try.f10.params.toList args.toList ds p := hA0
  rw [Try.params10] at hA hval hsz
  obtain ⟨v0, vs0, d0, ds0, p0, q0, hargs, rfl, rfl, h0, r0⟩ := trodAll_cons hA
  obtain ⟨v1, vs1, d1, ds1, p1, q1, rfl, rfl, rfl, h1, r1⟩ := trodAll_cons r0
  obtain ⟨v2, vs2, d2, ds2, p2, q2, rfl, rfl, rfl, h2, r2⟩ := trodAll_cons r1
  obtain ⟨v3, vs3, d3, ds3, p3, q3, rfl, rfl, rfl, h3, r3⟩ := trodAll_cons r2
  obtain ⟨rfl, rfl, rfl⟩ := trodAll_nil r3
  obtain rfl : args = #[v0, v1, v2, v3] := by cases args; simp_all
  obtain ⟨rfl, rfl⟩ := trodVars_none hV
  have k0 := h0
  have lt0 : ∀ x ∈ p0, x.block < W.heap.size := by obtain ⟨m, hm⟩ := k0; exact DataW.trod_lt m _ _ _ hm
  obtain ⟨cs0, x0, rfl, hK0, okx0⟩ := opens_arg opens45 Try.underlying45 (hval 0 45 v0 rfl rfl) h0
  obtain ⟨A0_0, c0_0, he0, hc0_0, hr0_0⟩ := k45_open hK0
  obtain rfl : cs0 = #[.slice A0_0 x0.f0.length c0_0] := by have z := congrArg List.toArray he0; simpa using z
  obtain ⟨a1, rfl, rfl, rfl, w1⟩ := open_int Try.underlying3 (hval 1 3 v1 rfl rfl) h1
  obtain ⟨a2, rfl, rfl, rfl, w2⟩ := open_int Try.underlying3 (hval 2 3 v2 rfl rfl) h2
  obtain ⟨a3, rfl, rfl, rfl, w3⟩ := open_int Try.underlying3 (hval 3 3 v3 rfl rfl) h3
  clear hA0 hval0 hsz0 hsz
  refine (PFnExactSpanOK.laws_FnExactSpanOK.walk Pure.FnExactSpanOK x0 A0_0 c0_0 a1 a2 a3 W okx0 hr0_0 hc0_0 w1 w2 w3).mono fun e W' ⟨he, bel⟩ => ?_
  subst he
  exact ⟨_, rfl, _, _, _, [], _, [], hW', trodAll_mk1 (shut_bool Try.underlying4 _), (trodAll_cons_mk (Below.trod laidOut (by kernel_rfl) (of_decide_eq_true (by kernel_rfl)) k0 bel lt0) (trodAll_cons_mk (shut_int Try.underlying3 w1) (trodAll_cons_mk (shut_int Try.underlying3 w2) (trodAll_cons_mk (shut_int Try.underlying3 w3) trodAll_mk0)))), rfl, bel.frame _, fun h => by cases h⟩
theorem over : Rows.fnExactSpanOKRow.holds Try.pinned (OpenSpec.ofChange Rows.fnExactSpanOKSpec) :=
  OpenClaim.holds_of_wide 10 Try.f10 rfl rfl rfl rfl rfl rfl rfl ⟨rfl, rfl, rfl, rfl, rfl⟩ rfl rfl rfl rfl rfl (by kernel_rfl) Try.func10 (by kernel_rfl)
    (of_decide_eq_true (by kernel_rfl)) (by unfold Func.isWrapper; first | (rw [if_pos (by decide +kernel)]; kernel_rfl) | (rw [if_neg (by decide +kernel)]; exact ⟨rfl, rfl⟩))
    (fun os started H enc _ => lifted os started H enc)
theorem proved : Rows.FnExactSpanOKSaid := over
#print axioms proved
end Go.Proofs.Ytoohimpbckpiaaa.fnExactSpanOK
namespace Go.Proofs.Ytoohimpbckpiaaa
/-- The row, under a short name, for the claim. -/
theorem fnExactSpanOK_holds : Rows.FnExactSpanOKSaid := fnExactSpanOK.proved
end Go.Proofs.Ytoohimpbckpiaaa
