/- FnExactMapImage holds: the walk is joined to its row. No condition. -/
import Derived.Test.YtigoabhkdipdeaaRows
import Derived.Test.YtigoabhkdipdeaaZB2
import Derived.Test.YtigoabhkdipdeaaZA4
import Derived.Test.YtigoabhkdipdeaaZA3
import Derived.WalkKit
import Derived.ProofKit
import Derived.OpenShut
import Derived.ShutString
import Derived.ChangeOld
import Derived.Below
import Derived.SizedLaws
namespace Go.Proofs.Ytigoabhkdipdeaa.fnExactMapImage
open Go.RowKit Go.ChangeShapes Go.WideShapes Go.Proofs.Ytigoabhkdipdeaa.AM
open Go.ChangeMaps hiding rd
set_option linter.unusedVariables false
theorem own : ownKnob Try.prog.godebug = none := by kernel_rfl
theorem laidOut : laidOutB Try.prog = true := by kernel_rfl
def elB : Nat → Bool := fun e => Nat.beq e 149
theorem elOk : ∀ e, elB e = true → ElOpens Try.prog UU e := fun e h => by
  cases Nat.eq_of_beq_eq_true h
  exact elOpens (ks := [.int .i64, .int .i64, .int .i64, .str]) (N := 5) fits.U (by kernel_rfl) (by kernel_rfl) fun p => ⟨⟨p.1, p.2.1, p.2.2.1, p.2.2.2⟩, rfl⟩
abbrev bx0 : List S1 := [.int .i64, .row 149]
set_option maxRecDepth 100000 in
theorem lifted (os : Os) (started : os.Started) (H : Type) (enc : TypeId × Value → H) :
    ReturnsInHanded {} Try.checked os 9 .any (Rows.fnExactMapImageSpec.pre6 enc Try.prog Try.f9 Rows.fnExactMapImageRow.domain false) (Rows.fnExactMapImageSpec.post enc Try.prog Try.f9 false true false false) := by
  refine returnsInHanded_of_change_sized (C := Try.checked) own started (by kernel_rfl) Try.func9
    (ChangeSpec.witness6 (enc := enc) (C := Try.checked) false ⟨#[], #[.agg #[.int .i64 0, .slice none 0 0]], []⟩ 8 (by kernel_rfl) (by kernel_rfl) (by kernel_rfl) (by kernel_rfl)) ?_
  intro W base args ds gs before hval0 hW hcnd hsz0 _
  have hval : ∀ (j : Nat) t v, Try.f9.params[j]? = some t → args[j]? = some v → Value.okWide Try.prog W .any base t v := hval0
  have hW' := hW
  obtain ⟨p, q, hA0, hV, rfl, hfz, hnd⟩ := hW
  have hA : DataW.TrodAll enc Try.prog W 0 (fun _ => true) true Try.f9.params.toList args.toList ds p := hA0
  rw [Try.params9] at hA hval
  obtain ⟨v0, vs0, d0, ds0, p0, q0, hargs, rfl, rfl, h0, r0⟩ := trodAll_cons hA
  obtain ⟨rfl, rfl, rfl⟩ := trodAll_nil r0
  obtain rfl : args = #[v0] := by cases args; simp_all
  obtain ⟨rfl, rfl⟩ := trodVars_none hV
  have k0 := h0
  have lt0 : ∀ x ∈ p0, x.block < W.heap.size := by obtain ⟨m, hm⟩ := k0; exact DataW.trod_lt m _ _ _ hm
  obtain ⟨x0, ok0, hv0⟩ := arg_struct fits.U elOk Try.underlying24 (N := 9) (ls := bx0) (by kernel_rfl) (hval 0 24 v0 rfl rfl) h0 (B := fun k => W.heap.size ≤ k)
  have hpure : ∃ n, w_FnExactMapImage n x0 = some true := by
    exact (FnExactMapImage_ev x0.1 x0.2.1 ok0.2.1.1 (fun y hy => ok0.2.1.2 y hy (.string y.f3) (by show _ ∈ [Value.int .i64 y.f0, Value.int .i64 y.f1, Value.int .i64 y.f2, Value.string y.f3]; simp))).at
  obtain ⟨n, hn⟩ := hpure
  refine (law_of rfl k_w_FnExactMapImage (x := (x0, ())) hn rfl rfl (cargs := [v0]) ⟨_, [], rfl, hv0, rfl⟩).mono fun e W' ⟨he, bel⟩ => ?_
  subst he
  exact ⟨_, rfl, _, _, _, [], _, [], hW', trodAll_mk1 (shut_bool Try.underlying4 _), (trodAll_cons_mk (Below.trod laidOut (by kernel_rfl) (of_decide_eq_true (by kernel_rfl)) k0 bel lt0) trodAll_mk0), rfl, bel.frame _, fun h => by cases h⟩
end Go.Proofs.Ytigoabhkdipdeaa.fnExactMapImage
