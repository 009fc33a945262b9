/- Laid by a program of this session (patch_print.py) out of the translation: plain functions and what the calls do. No condition. -/
import Derived.Test.YtigoabhkdipdeaaRows
import Derived.Test.YtigoabhkdipdeaaPFnExactElfTextx12
import Derived.Test.YtigoabhkdipdeaaPureFnExactElfText
import Derived.WalkKit
import Derived.ProofKit
import Derived.OpenShut
import Derived.ShutString
import Derived.ChangeOld
import Derived.Below
import Derived.SizedLaws
import Derived.Test.YtigoabhkdipdeaaNOpenFnExactElfText
namespace Go.Proofs.Ytigoabhkdipdeaa.fnExactElfText
open Go.ChangeShapes Go.WideShapes Go.ChangeAt Go.RowKit
open Go.ChangeMaps (open_string shut_string)
set_option linter.unusedVariables false
theorem own : ownKnob Try.prog.godebug = none := by kernel_rfl
theorem laidOut : laidOutB Try.prog = true := by kernel_rfl
open Go.Proofs.Ytigoabhkdipdeaa.Open Go.Proofs.Ytigoabhkdipdeaa.PFnExactElfText Go.Proofs.YtigoabhkdipdeaaW.PrintWords
theorem opens149 : Opens Try.prog 149 k149 ok149 :=
  opens_struct (l := [(0, 3), (1, 3), (2, 3), (3, 9)]) (fun x : S149 => (x.f0, x.f1, x.f2, x.f3)) (fun p => ⟨p.1, p.2.1, p.2.2.1, p.2.2.2⟩) (fun _ => rfl) Try.underlying149 (by kernel_rfl) (opensF_cons (opens_int Try.underlying3 (by kernel_rfl)) rfl (opensF_cons (opens_int Try.underlying3 (by kernel_rfl)) rfl (opensF_cons (opens_int Try.underlying3 (by kernel_rfl)) rfl (opensF_last (opens_string Try.underlying9 (by kernel_rfl)) (by kernel_rfl)))))
theorem opens24 : Opens Try.prog 24 k24 ok24 :=
  opens_struct (l := [(0, 3), (1, 22)]) (fun x : S24 => (x.f0, x.f1)) (fun p => ⟨p.1, p.2⟩) (fun _ => rfl) Try.underlying24 (by kernel_rfl) (opensF_cons (opens_int Try.underlying3 (by kernel_rfl)) rfl (opensF_last (opens_slice Try.underlying22 (by kernel_rfl) opens149) (by kernel_rfl)))
set_option maxRecDepth 100000 in
theorem lifted (os : Os) (started : os.Started) (H : Type) (enc : TypeId × Value → H) :
    ReturnsInHanded {} Try.checked os 10 .any (Rows.fnExactElfTextSpec.pre6 enc Try.prog Try.f10 Rows.fnExactElfTextRow.domain false) (Rows.fnExactElfTextSpec.post enc Try.prog Try.f10 false true false false) := by
  refine returnsInHanded_of_change_sized (C := Try.checked) own started (by kernel_rfl) Try.func10
    (ChangeSpec.witness6 (enc := enc) (C := Try.checked) false ⟨#[], #[.agg #[.int .i64 0, .slice none 0 0]], []⟩ 8 (by kernel_rfl) (by kernel_rfl) (by kernel_rfl) (by kernel_rfl)) ?_
  intro W base args ds gs before hval0 hW hcnd hsz0 _
  have hsz : (DataW.weightsEach Try.prog (Try.f10.params.toList ++ Rows.fnExactElfTextSpec.plain.varTypes Try.prog) (ds ++ gs)).all (· ≤ reachBytes) = true := hsz0
  have hval : ∀ (j : Nat) t v, Try.f10.params[j]? = some t → args[j]? = some v → Value.okWide Try.prog W .any base t v := hval0
  have hW' := hW
  obtain ⟨p, q, hA0, hV, rfl, hfz, hnd⟩ := hW
  have hA : DataW.TrodAll enc Try.prog W 0 (fun _ => true) true Try.f10.params.toList args.toList ds p := hA0
  rw [Try.params10] at hA hval hsz
  obtain ⟨v0, vs0, d0, ds0, p0, q0, hargs, rfl, rfl, h0, r0⟩ := trodAll_cons hA
  obtain ⟨rfl, rfl, rfl⟩ := trodAll_nil r0
  obtain rfl : args = #[v0] := by cases args; simp_all
  obtain ⟨rfl, rfl⟩ := trodVars_none hV
  have k0 := h0
  have lt0 : ∀ x ∈ p0, x.block < W.heap.size := by obtain ⟨m, hm⟩ := k0; exact DataW.trod_lt m _ _ _ hm
  obtain ⟨cs0, x0, rfl, hK0, okx0⟩ := opens_arg opens24 Try.underlying24 (hval 0 24 v0 rfl rfl) h0
  obtain ⟨A0_1, c0_1, he0, hc0_1, hr0_1⟩ := k24_open hK0
  obtain rfl : cs0 = #[.int .i64 x0.f0, .slice A0_1 x0.f1.length c0_1] := by have z := congrArg List.toArray he0; simpa using z
  clear hA0 hval0 hsz0 hsz
  refine (PFnExactElfText.laws_FnExactElfText.walk Pure.FnExactElfText x0 A0_1 c0_1 W okx0 hr0_1 hc0_1).mono fun e W' ⟨he, bel⟩ => ?_
  subst he
  exact ⟨_, rfl, _, _, _, [], _, [], hW', trodAll_mk1 (shut_bool Try.underlying4 _), (trodAll_cons_mk (Below.trod laidOut (by kernel_rfl) (of_decide_eq_true (by kernel_rfl)) k0 bel lt0) trodAll_mk0), rfl, bel.frame _, fun h => by cases h⟩
theorem over : Rows.fnExactElfTextRow.holds Try.pinned (OpenSpec.ofChange Rows.fnExactElfTextSpec) :=
  OpenClaim.holds_of_wide 10 Try.f10 rfl rfl rfl rfl rfl rfl rfl ⟨rfl, rfl, rfl, rfl, rfl⟩ rfl rfl rfl rfl rfl (by kernel_rfl) Try.func10 (by kernel_rfl)
    (of_decide_eq_true (by kernel_rfl)) (by unfold Func.isWrapper; first | (rw [if_pos (by decide +kernel)]; kernel_rfl) | (rw [if_neg (by decide +kernel)]; exact ⟨rfl, rfl⟩))
    (fun os started H enc _ => lifted os started H enc)
theorem proved : Rows.FnExactElfTextSaid := over
#print axioms proved
end Go.Proofs.Ytigoabhkdipdeaa.fnExactElfText
namespace Go.Proofs.Ytigoabhkdipdeaa
/-- The row, under a short name, for the claim. -/
theorem fnExactElfText_holds : Rows.FnExactElfTextSaid := fnExactElfText.proved
end Go.Proofs.Ytigoabhkdipdeaa
