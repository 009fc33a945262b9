/- Laid by a program of this session (patch_print.py) out of the translation: plain functions and what the calls do. No condition. -/
import Derived.Test.YtonogadabgilfaaRows
import Derived.Test.YtonogadabgilfaaPFnExactMemoryOfx0
import Derived.Test.YtonogadabgilfaaPureFnExactMemoryOf
import Derived.WalkKit
import Derived.ProofKit
import Derived.OpenShut
import Derived.ShutString
import Derived.ChangeOld
import Derived.Below
import Derived.SizedLaws
import Derived.HandedShaped
import Derived.Shelf.Vars
import Derived.Test.YtonogadabgilfaaNOpenFnExactBaseAddOf
namespace Go.Proofs.Ytonogadabgilfaa.fnExactMemoryOf
open Go.ChangeShapes Go.WideShapes Go.ChangeAt Go.RowKit
open Go.ChangeMaps (open_string shut_string)
set_option linter.unusedVariables false
theorem own : ownKnob Try.prog.godebug = none := by kernel_rfl
theorem laidOut : laidOutB Try.prog = true := by kernel_rfl
open Go.Proofs.Ytonogadabgilfaa.Open Go.Proofs.Ytonogadabgilfaa.PFnExactBaseAddOf Go.Proofs.Ytonogadabgilfaa.PFnExactMemoryOf Go.Proofs.YtonogadabgilfaaW.PrintWords
theorem opens23 : Opens Try.prog 23 k23 ok23 :=
  opens_struct (l := [(0, 3), (1, 3), (2, 3), (3, 3), (4, 3), (5, 3), (6, 3)]) (fun x : S23 => (x.f0, x.f1, x.f2, x.f3, x.f4, x.f5, x.f6)) (fun p => ⟨p.1, p.2.1, p.2.2.1, p.2.2.2.1, p.2.2.2.2.1, p.2.2.2.2.2.1, p.2.2.2.2.2.2⟩) (fun _ => rfl) Try.underlying23 by4 (opensF_cons (opens_int Try.underlying3 by4) rfl (opensF_cons (opens_int Try.underlying3 by4) rfl (opensF_cons (opens_int Try.underlying3 by4) rfl (opensF_cons (opens_int Try.underlying3 by4) rfl (opensF_cons (opens_int Try.underlying3 by4) rfl (opensF_cons (opens_int Try.underlying3 by4) rfl (opensF_last (opens_int Try.underlying3 by4) by4)))))))
theorem opens25 : Opens Try.prog 25 k25 ok25 :=
  opens_struct (l := [(0, 3), (1, 3), (2, 3), (3, 3), (4, 23), (11, 23), (18, 3)]) (fun x : S25 => (x.f0, x.f1, x.f2, x.f3, x.f4, x.f5, x.f6)) (fun p => ⟨p.1, p.2.1, p.2.2.1, p.2.2.2.1, p.2.2.2.2.1, p.2.2.2.2.2.1, p.2.2.2.2.2.2⟩) (fun _ => rfl) Try.underlying25 by4 (opensF_cons (opens_int Try.underlying3 by4) rfl (opensF_cons (opens_int Try.underlying3 by4) rfl (opensF_cons (opens_int Try.underlying3 by4) rfl (opensF_cons (opens_int Try.underlying3 by4) rfl (opensF_cons opens23 rfl (opensF_cons opens23 rfl (opensF_last (opens_int Try.underlying3 by4) by4)))))))
set_option maxRecDepth 100000 in
theorem lifted (os : Os) (started : os.Started) (H : Type) (enc : TypeId × Value → H) :
    ReturnsInHanded {} Try.checked os 7 .any (Rows.fnExactMemoryOfSpec.pre6 enc Try.prog Try.f7 Rows.fnExactMemoryOfRow.domain false) (Rows.fnExactMemoryOfSpec.post enc Try.prog Try.f7 false true false false) := by
  refine returnsInHanded_of_change_shaped (C := Try.checked) own started by4 Try.func7
    (ChangeSpec.witness6 (enc := enc) (C := Try.checked) false ⟨#[], #[.agg #[.int .i64 0, .int .i64 0, .int .i64 0, .int .i64 0, .int .i64 0, .int .i64 0, .int .i64 0, .int .i64 0, .int .i64 0, .int .i64 0, .int .i64 0, .int .i64 0, .int .i64 0, .int .i64 0, .int .i64 0, .int .i64 0, .int .i64 0, .int .i64 0, .int .i64 0]], []⟩ 8 by4 by4 by4 by4) ?_
  intro W base args ds gs before hval0 hW hcnd hsz0 hsh _
  have hsz : (DataW.weightsEach Try.prog (Try.f7.params.toList ++ Rows.fnExactMemoryOfSpec.plain.varTypes Try.prog) (ds ++ gs)).all (· ≤ reachBytes) = true := hsz0
  have hval : ∀ (j : Nat) t v, Try.f7.params[j]? = some t → args[j]? = some v → Value.okWide Try.prog W .any base t v := hval0
  have hW' := hW
  obtain ⟨p, q, hA0, hV, rfl, hfz, hnd⟩ := hW
  have hA : DataW.TrodAll enc Try.prog W 0 (fun _ => true) true Try.f7.params.toList args.toList ds p := hA0
  rw [Try.params7] at hA hval hsz
  obtain ⟨v0, vs0, d0, ds0, p0, q0, hargs, rfl, rfl, h0, r0⟩ := trodAll_cons hA
  obtain ⟨rfl, rfl, rfl⟩ := trodAll_nil r0
  obtain rfl : args = #[v0] := by cases args; simp_all
  obtain ⟨rfl, rfl⟩ := trodVars_none hV
  have k0 := h0
  have lt0 : ∀ x ∈ p0, x.block < W.heap.size := by obtain ⟨m, hm⟩ := k0; exact DataW.trod_lt m _ _ _ hm
  obtain ⟨cs0, x0, rfl, hK0, okx0⟩ := opens_arg opens25 Try.underlying25 (hval 0 25 v0 rfl rfl) h0
  obtain he0 := k25_open hK0
  obtain rfl : cs0 = #[.int .i64 x0.f0, .int .i64 x0.f1, .int .i64 x0.f2, .int .i64 x0.f3, .int .i64 x0.f4.f0, .int .i64 x0.f4.f1, .int .i64 x0.f4.f2, .int .i64 x0.f4.f3, .int .i64 x0.f4.f4, .int .i64 x0.f4.f5, .int .i64 x0.f4.f6, .int .i64 x0.f5.f0, .int .i64 x0.f5.f1, .int .i64 x0.f5.f2, .int .i64 x0.f5.f3, .int .i64 x0.f5.f4, .int .i64 x0.f5.f5, .int .i64 x0.f5.f6, .int .i64 x0.f6] := by have z := congrArg List.toArray he0; simpa using z
  clear hA0 hval0 hsz0 hsz
  refine (PFnExactMemoryOf.laws_FnExactMemoryOf.walk (HGL0 := (show PFnExactBaseAddOf.PGlob W from Go.Proofs.cell_of_shapedOpen_int (g := 0) (zero := #[.int .i64 0]) (t := 3) hsh (of_decide_eq_true by4) by4 rfl by4 by4 Try.underlying3)) Pure.FnExactMemoryOf x0 W okx0).mono fun e W' ⟨he, bel⟩ => ?_
  subst he
  exact ⟨_, rfl, _, _, _, [], _, [], hW', trodAll_mk1 (shut_bool Try.underlying4 _), (trodAll_cons_mk (Below.trod laidOut by4 (of_decide_eq_true by4) k0 bel lt0) trodAll_mk0), rfl, bel.frame _, fun h => by cases h⟩
theorem over : Rows.fnExactMemoryOfRow.holds Try.pinned (OpenSpec.ofChange Rows.fnExactMemoryOfSpec) :=
  OpenClaim.holds_of_wide 7 Try.f7 rfl rfl rfl rfl rfl rfl rfl ⟨rfl, rfl, rfl, rfl, rfl⟩ rfl rfl rfl rfl rfl by4 Try.func7 by4
    (of_decide_eq_true by4) (by unfold Func.isWrapper; first | (rw [if_pos (by decide +kernel)]; kernel_rfl) | (rw [if_neg (by decide +kernel)]; exact ⟨rfl, rfl⟩))
    (fun os started H enc _ => lifted os started H enc)
theorem proved : Rows.FnExactMemoryOfSaid := over
#print axioms proved
end Go.Proofs.Ytonogadabgilfaa.fnExactMemoryOf
namespace Go.Proofs.Ytonogadabgilfaa
/-- The row, under a short name, for the claim. -/
theorem fnExactMemoryOf_holds : Rows.FnExactMemoryOfSaid := fnExactMemoryOf.proved
end Go.Proofs.Ytonogadabgilfaa
