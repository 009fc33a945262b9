/- FnExactSameBox holds: the walk is joined to its row. No condition. -/
import Derived.Test.YtigoabhkdipdeaaRows
import Derived.Test.YtigoabhkdipdeaaZPuSame
import Derived.Test.YtigoabhkdipdeaaZBK
import Derived.Test.YtigoabhkdipdeaaZBI
import Derived.WalkKit
import Derived.ProofKit
import Derived.OpenShut
import Derived.ShutString
import Derived.ChangeOld
import Derived.Below
import Derived.SizedLaws
namespace Go.Proofs.Ytigoabhkdipdeaa.fnExactSameBox
open Go.RowKit Go.ChangeShapes Go.WideShapes Go.Proofs.Ytigoabhkdipdeaa.AM
open Go.ChangeMaps hiding rd
set_option linter.unusedVariables false
theorem own : ownKnob Try.prog.godebug = none := by kernel_rfl
theorem laidOut : laidOutB Try.prog = true := by kernel_rfl
def elB : Nat → Bool := fun e => Nat.beq e 3 || Nat.beq e 157
theorem elOk : ∀ e, elB e = true → ElOpens Try.prog UU e := fun e h => by
  rcases (Bool.or_eq_true _ _).mp h with h | h
  · skip
    cases Nat.eq_of_beq_eq_true h
    exact elOpens (ks := [.int .i64]) (N := 5) fits.U (by kernel_rfl) (by kernel_rfl) fun p => ⟨p, rfl⟩
  · skip
    cases Nat.eq_of_beq_eq_true h
    exact elOpens (ks := [.int .i64, .int .i64, .str]) (N := 5) fits.U (by kernel_rfl) (by kernel_rfl) fun p => ⟨⟨p.1, p.2.1, p.2.2⟩, rfl⟩
abbrev bx0 : List S1 := [.arr 3 16, .int .i64, .int .i64, .row 157, .int .i64, .int .i64, .str, .int .i64, .str, .int .i64, .int .i64, .int .i64, .int .i64, .int .i64, .int .i64]
abbrev bx1 : List S1 := [.arr 3 16, .int .i64, .int .i64, .row 157, .int .i64, .int .i64, .str, .int .i64, .str, .int .i64, .int .i64, .int .i64, .int .i64, .int .i64, .int .i64]
set_option maxRecDepth 100000 in
theorem lifted (os : Os) (started : os.Started) (H : Type) (enc : TypeId × Value → H) :
    ReturnsInHanded {} Try.checked os 6 .any (Rows.fnExactSameBoxSpec.pre6 enc Try.prog Try.f6 Rows.fnExactSameBoxRow.domain false) (Rows.fnExactSameBoxSpec.post enc Try.prog Try.f6 false true false false) := by
  refine returnsInHanded_of_change_sized (C := Try.checked) own started (by kernel_rfl) Try.func6
    (ChangeSpec.witness6 (enc := enc) (C := Try.checked) false ⟨#[], #[.agg #[.int .i64 0, .int .i64 0, .int .i64 0, .int .i64 0, .int .i64 0, .int .i64 0, .int .i64 0, .int .i64 0, .int .i64 0, .int .i64 0, .int .i64 0, .int .i64 0, .int .i64 0, .int .i64 0, .int .i64 0, .int .i64 0, .int .i64 0, .int .i64 0, .slice none 0 0, .int .i64 0, .int .i64 0, .string ⟨#[]⟩, .int .i64 0, .string ⟨#[]⟩, .int .i64 0, .int .i64 0, .int .i64 0, .int .i64 0, .int .i64 0, .int .i64 0], .agg #[.int .i64 0, .int .i64 0, .int .i64 0, .int .i64 0, .int .i64 0, .int .i64 0, .int .i64 0, .int .i64 0, .int .i64 0, .int .i64 0, .int .i64 0, .int .i64 0, .int .i64 0, .int .i64 0, .int .i64 0, .int .i64 0, .int .i64 0, .int .i64 0, .slice none 0 0, .int .i64 0, .int .i64 0, .string ⟨#[]⟩, .int .i64 0, .string ⟨#[]⟩, .int .i64 0, .int .i64 0, .int .i64 0, .int .i64 0, .int .i64 0, .int .i64 0]], []⟩ 8 (by kernel_rfl) (by kernel_rfl) (by kernel_rfl) (by kernel_rfl)) ?_
  intro W base args ds gs before hval0 hW hcnd hsz0 _
  have hval : ∀ (j : Nat) t v, Try.f6.params[j]? = some t → args[j]? = some v → Value.okWide Try.prog W .any base t v := hval0
  have hW' := hW
  obtain ⟨p, q, hA0, hV, rfl, hfz, hnd⟩ := hW
  have hA : DataW.TrodAll enc Try.prog W 0 (fun _ => true) true Try.f6.params.toList args.toList ds p := hA0
  rw [Try.params6] at hA hval
  obtain ⟨v0, vs0, d0, ds0, p0, q0, hargs, rfl, rfl, h0, r0⟩ := trodAll_cons hA
  obtain ⟨v1, vs1, d1, ds1, p1, q1, rfl, rfl, rfl, h1, r1⟩ := trodAll_cons r0
  obtain ⟨rfl, rfl, rfl⟩ := trodAll_nil r1
  obtain rfl : args = #[v0, v1] := by cases args; simp_all
  obtain ⟨rfl, rfl⟩ := trodVars_none hV
  have k0 := h0
  have lt0 : ∀ x ∈ p0, x.block < W.heap.size := by obtain ⟨m, hm⟩ := k0; exact DataW.trod_lt m _ _ _ hm
  obtain ⟨x0, ok0, hv0⟩ := arg_struct fits.U elOk Try.underlying39 (N := 9) (ls := bx0) (by kernel_rfl) (hval 0 39 v0 rfl rfl) h0 (B := fun k => W.heap.size ≤ k)
  have k1 := h1
  have lt1 : ∀ x ∈ p1, x.block < W.heap.size := by obtain ⟨m, hm⟩ := k1; exact DataW.trod_lt m _ _ _ hm
  obtain ⟨x1, ok1, hv1⟩ := arg_struct fits.U elOk Try.underlying39 (N := 9) (ls := bx1) (by kernel_rfl) (hval 1 39 v1 rfl rfl) h1 (B := fun k => W.heap.size ≤ k)
  have hpure : ∃ n, w_FnExactSameBox n x0 x1 = some true := by
    have key : ∀ (x : Ts UU.El bx0), okTs UU bx0 x → BoxD x := fun x h => ⟨h.1.1, wf64 h.2.2.1, h.2.2.2.1.1, fun y hy => h.2.2.2.1.2 y hy (.string y.f2) (by show _ ∈ [Value.int .i64 y.f0, Value.int .i64 y.f1, Value.string y.f2]; simp), h.2.2.2.2.2.2.1, h.2.2.2.2.2.2.2.2.1, wf64 h.2.2.2.2.2.2.2.2.2.2.2.2.1⟩
    exact (FnExactSameBox_ev x0 x1 (key x0 ok0) (key x1 ok1)).at
  obtain ⟨n, hn⟩ := hpure
  refine (law_of rfl k_w_FnExactSameBox (x := (x0, (x1, ()))) hn rfl rfl (cargs := [v0, v1]) ⟨_, [_], rfl, hv0, ⟨_, [], rfl, hv1, rfl⟩⟩).mono fun e W' ⟨he, bel⟩ => ?_
  subst he
  exact ⟨_, rfl, _, _, _, [], _, [], hW', trodAll_mk1 (shut_bool Try.underlying4 _), (trodAll_cons_mk (Below.trod laidOut (by kernel_rfl) (of_decide_eq_true (by kernel_rfl)) k0 bel lt0) (trodAll_cons_mk (Below.trod laidOut (by kernel_rfl) (of_decide_eq_true (by kernel_rfl)) k1 bel lt1) trodAll_mk0)), rfl, bel.frame _, fun h => by cases h⟩
end Go.Proofs.Ytigoabhkdipdeaa.fnExactSameBox
