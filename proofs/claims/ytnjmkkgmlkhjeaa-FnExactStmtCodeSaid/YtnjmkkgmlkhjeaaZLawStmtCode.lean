/- FnExactStmtCode holds: the walk is joined to its row. No condition. -/
import Derived.Test.YtnjmkkgmlkhjeaaRows
import Derived.Test.YtnjmkkgmlkhjeaaZB1
import Derived.Test.YtnjmkkgmlkhjeaaZA4
import Derived.Test.YtnjmkkgmlkhjeaaZA3
import Derived.WalkKit
import Derived.ProofKit
import Derived.OpenShut
import Derived.ShutString
import Derived.ChangeOld
import Derived.Below
import Derived.SizedLaws
namespace Go.Proofs.Ytnjmkkgmlkhjeaa.fnExactStmtCode
open Go.RowKit Go.ChangeShapes Go.WideShapes Go.Proofs.Ytnjmkkgmlkhjeaa.AM
open Go.ChangeMaps hiding rd
set_option linter.unusedVariables false
theorem own : ownKnob Try.prog.godebug = none := by kernel_rfl
theorem laidOut : laidOutB Try.prog = true := by kernel_rfl
def elB : Nat → Bool := fun _ => false
theorem elOk : ∀ e, elB e = true → ElOpens Try.prog UU e := fun e h => by cases h
abbrev bx0 : List S1 := [.int .i64, .int .i64, .int .i64, .int .i64]
set_option maxRecDepth 100000 in
theorem lifted (os : Os) (started : os.Started) (H : Type) (enc : TypeId × Value → H) :
    ReturnsInHanded {} Try.checked os 3 .any (Rows.fnExactStmtCodeSpec.pre6 enc Try.prog Try.f3 Rows.fnExactStmtCodeRow.domain false) (Rows.fnExactStmtCodeSpec.post enc Try.prog Try.f3 false true false false) := by
  refine returnsInHanded_of_change_sized (C := Try.checked) own started (by kernel_rfl) Try.func3
    (ChangeSpec.witness6 (enc := enc) (C := Try.checked) false ⟨#[], #[.agg #[.int .i64 0, .int .i64 0, .int .i64 0, .int .i64 0]], []⟩ 8 (by kernel_rfl) (by kernel_rfl) (by kernel_rfl) (by kernel_rfl)) ?_
  intro W base args ds gs before hval0 hW hcnd hsz0 _
  have hval : ∀ (j : Nat) t v, Try.f3.params[j]? = some t → args[j]? = some v → Value.okWide Try.prog W .any base t v := hval0
  have hW' := hW
  obtain ⟨p, q, hA0, hV, rfl, hfz, hnd⟩ := hW
  have hA : DataW.TrodAll enc Try.prog W 0 (fun _ => true) true Try.f3.params.toList args.toList ds p := hA0
  rw [Try.params3] at hA hval
  obtain ⟨v0, vs0, d0, ds0, p0, q0, hargs, rfl, rfl, h0, r0⟩ := trodAll_cons hA
  obtain ⟨rfl, rfl, rfl⟩ := trodAll_nil r0
  obtain rfl : args = #[v0] := by cases args; simp_all
  obtain ⟨rfl, rfl⟩ := trodVars_none hV
  have k0 := h0
  have lt0 : ∀ x ∈ p0, x.block < W.heap.size := by obtain ⟨m, hm⟩ := k0; exact DataW.trod_lt m _ _ _ hm
  obtain ⟨x0, ok0, hv0⟩ := arg_struct fits.U elOk Try.underlying23 (N := 9) (ls := bx0) (by kernel_rfl) (hval 0 23 v0 rfl rfl) h0 (B := fun k => W.heap.size ≤ k)
  have hpure : ∃ n, w_FnExactStmtCode n x0 = some true := by
    exact (FnExactStmtCode_ev x0 (wf64 ok0.2.2.1)).at
  obtain ⟨n, hn⟩ := hpure
  refine (law_of rfl k_w_FnExactStmtCode (x := (x0, ())) hn rfl rfl (cargs := [v0]) ⟨_, [], rfl, hv0, rfl⟩).mono fun e W' ⟨he, bel⟩ => ?_
  subst he
  exact ⟨_, rfl, _, _, _, [], _, [], hW', trodAll_mk1 (shut_bool Try.underlying4 _), (trodAll_cons_mk (Below.trod laidOut (by kernel_rfl) (of_decide_eq_true (by kernel_rfl)) k0 bel lt0) trodAll_mk0), rfl, bel.frame _, fun h => by cases h⟩
end Go.Proofs.Ytnjmkkgmlkhjeaa.fnExactStmtCode
