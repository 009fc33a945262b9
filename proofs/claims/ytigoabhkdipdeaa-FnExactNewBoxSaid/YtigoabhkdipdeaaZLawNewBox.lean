/- FnExactNewBox holds: the walk is joined to its row. No condition. -/
import Derived.Test.YtigoabhkdipdeaaRows
import Derived.Test.YtigoabhkdipdeaaZPuNew
import Derived.Test.YtigoabhkdipdeaaZBK
import Derived.Test.YtigoabhkdipdeaaZBI
import Derived.WalkKit
import Derived.ProofKit
import Derived.OpenShut
import Derived.ShutString
import Derived.ChangeOld
import Derived.Below
import Derived.SizedLaws
namespace Go.Proofs.Ytigoabhkdipdeaa.fnExactNewBox
open Go.RowKit Go.ChangeShapes Go.WideShapes Go.Proofs.Ytigoabhkdipdeaa.AM
open Go.ChangeMaps hiding rd
set_option linter.unusedVariables false
theorem own : ownKnob Try.prog.godebug = none := by kernel_rfl
theorem laidOut : laidOutB Try.prog = true := by kernel_rfl
def elB : Nat → Bool := fun e => Nat.beq e 157 || Nat.beq e 3
theorem elOk : ∀ e, elB e = true → ElOpens Try.prog UU e := fun e h => by
  rcases (Bool.or_eq_true _ _).mp h with h | h
  · skip
    cases Nat.eq_of_beq_eq_true h
    exact elOpens (ks := [.int .i64, .int .i64, .str]) (N := 5) fits.U (by kernel_rfl) (by kernel_rfl) fun p => ⟨⟨p.1, p.2.1, p.2.2⟩, rfl⟩
  · skip
    cases Nat.eq_of_beq_eq_true h
    exact elOpens (ks := [.int .i64]) (N := 5) fits.U (by kernel_rfl) (by kernel_rfl) fun p => ⟨p, rfl⟩
abbrev bx0 : List S1 := [.row 157, .int .i64, .int .i64, .int .i64, .int .i64, .row 3, .row 3, .row 3, .int .i64]
set_option maxRecDepth 100000 in
theorem lifted (os : Os) (started : os.Started) (H : Type) (enc : TypeId × Value → H) :
    ReturnsInHanded {} Try.checked os 7 .any (Rows.fnExactNewBoxSpec.pre6 enc Try.prog Try.f7 Rows.fnExactNewBoxRow.domain false) (Rows.fnExactNewBoxSpec.post enc Try.prog Try.f7 false true false false) := by
  refine returnsInHanded_of_change_sized (C := Try.checked) own started (by kernel_rfl) Try.func7
    (ChangeSpec.witness6 (enc := enc) (C := Try.checked) false ⟨#[], #[.agg #[.slice none 0 0, .int .i64 0, .int .i64 0, .int .i64 0, .int .i64 0, .slice none 0 0, .slice none 0 0, .slice none 0 0, .int .i64 0], .string ⟨#[]⟩, .int .i64 0], []⟩ 8 (by kernel_rfl) (by kernel_rfl) (by kernel_rfl) (by kernel_rfl)) ?_
  intro W base args ds gs before hval0 hW hcnd hsz0 _
  have hsz : (DataW.weightsEach Try.prog (Try.f7.params.toList ++ Rows.fnExactNewBoxSpec.plain.varTypes Try.prog) (ds ++ gs)).all (· ≤ reachBytes) = true := hsz0
  have hval : ∀ (j : Nat) t v, Try.f7.params[j]? = some t → args[j]? = some v → Value.okWide Try.prog W .any base t v := hval0
  have hW' := hW
  obtain ⟨p, q, hA0, hV, rfl, hfz, hnd⟩ := hW
  have hA : DataW.TrodAll enc Try.prog W 0 (fun _ => true) true Try.f7.params.toList args.toList ds p := hA0
  rw [Try.params7] at hA hval hsz
  obtain ⟨v0, vs0, d0, ds0, p0, q0, hargs, rfl, rfl, h0, r0⟩ := trodAll_cons hA
  obtain ⟨v1, vs1, d1, ds1, p1, q1, rfl, rfl, rfl, h1, r1⟩ := trodAll_cons r0
  obtain ⟨v2, vs2, d2, ds2, p2, q2, rfl, rfl, rfl, h2, r2⟩ := trodAll_cons r1
  obtain ⟨rfl, rfl, rfl⟩ := trodAll_nil r2
  obtain rfl : args = #[v0, v1, v2] := by cases args; simp_all
  obtain ⟨rfl, rfl⟩ := trodVars_none hV
  have k0 := h0
  have lt0 : ∀ x ∈ p0, x.block < W.heap.size := by obtain ⟨m, hm⟩ := k0; exact DataW.trod_lt m _ _ _ hm
  obtain ⟨x0, ok0, hv0⟩ := arg_struct fits.U elOk Try.underlying63 (N := 9) (ls := bx0) (by kernel_rfl) (hval 0 63 v0 rfl rfl) h0 (B := fun k => W.heap.size ≤ k)
  obtain ⟨a1, rfl, rfl, rfl, y1⟩ := Go.ChangeMaps.open_string Try.underlying9 (hval 1 9 v1 rfl rfl) h1
  have w1 : a1.size ≤ 140737488351232 := by
    have z := sized_string hsz (j := 1) (t := 9) rfl rfl
    rw [Array.length_toList] at z
    exact z
  obtain ⟨a2, rfl, rfl, rfl, w2⟩ := open_int Try.underlying3 (hval 2 3 v2 rfl rfl) h2
  have hpure : ∃ n, w_FnExactNewBox n x0 a1 a2 = some true := by
    exact (FnExactNewBox_ev x0 a1 a2 ⟨ok0.1.1, fun y hy => ok0.1.2 y hy (.string y.f2) (by show _ ∈ [Value.int .i64 y.f0, Value.int .i64 y.f1, Value.string y.f2]; simp), ⟨ok0.2.2.2.2.2.1.1, ok0.2.2.2.2.2.2.1.1, ok0.2.2.2.2.2.2.2.1.1⟩⟩).at
  obtain ⟨n, hn⟩ := hpure
  refine (law_of rfl k_w_FnExactNewBox (x := (x0, (a1, (a2, ())))) hn rfl rfl (cargs := [v0, .string a1, .int .i64 a2]) ⟨_, [_, _], rfl, hv0, ⟨_, [_], rfl, ⟨rfl, rfl⟩, ⟨_, [], rfl, ⟨rfl, rfl⟩, rfl⟩⟩⟩).mono fun e W' ⟨he, bel⟩ => ?_
  subst he
  exact ⟨_, rfl, _, _, _, [], _, [], hW', trodAll_mk1 (shut_bool Try.underlying4 _), (trodAll_cons_mk (Below.trod laidOut (by kernel_rfl) (of_decide_eq_true (by kernel_rfl)) k0 bel lt0) (trodAll_cons_mk (Go.ChangeMaps.shut_string Try.underlying9 y1) (trodAll_cons_mk (shut_int Try.underlying3 w2) trodAll_mk0))), rfl, bel.frame _, fun h => by cases h⟩
end Go.Proofs.Ytigoabhkdipdeaa.fnExactNewBox
