/- The program's Inside tells what the reference's tells, for every access. No condition. -/
import Derived.Test.YtoohimpbckpiaaaPFnExactInsidex1
import Derived.Test.YtoohimpbckpiaaaNNum
namespace Go.Proofs.Ytoohimpbckpiaaa.Pure
open Go.RowKit Go.Proofs.Ytoohimpbckpiaaa.PFnExactInside Go.Proofs.YtoohimpbckpiaaaW.PrintWords Go.Proofs.YtoohimpbckpiaaaW.PrintLast Go.Proofs.YtoohimpbckpiaaaW.PrintMore Go.Proofs.Ytoohimpbckpiaaa.Num

set_option linter.unusedSimpArgs false
set_option linter.unusedVariables false

theorem plus_val (a i : Int) : spec_l07Plus.f a i = some (wrap64 (a + i)) := by
  unfold spec_l07Plus.f
  rw [u64, u64, u64]
  congr 1
  unfold wrap64
  omega
theorem zone_same (a : Int) : spec_ZoneOf.f a = impl_ZoneOf.f a := rfl
theorem zone_loop (a0 a1 a2 a3 : Int) (hn : a2 ≤ 15) (d : Nat) : ∀ i : Int, 0 ≤ i → a2 - i = d → spec_l13Zone.l0 (d + 1) 1 2 i a0 a1 a2 a3 = some ((List.range d).all fun j => zoneIn (wrap64 (a1 + (i + j)))) := by
  induction d with
  | zero =>
    intro i h0 h1
    simp only [spec_l13Zone.l0]
    rw [if_neg (by omega)]
    rfl
  | succ d ih =>
    intro i h0 h1
    have hlt : i < a2 := by omega
    rw [show spec_l13Zone.l0 (d + 1 + 1) 1 2 i a0 a1 a2 a3 = (if i < a2 then ((spec_l07Plus.f a1 i).bind fun t106 => ((spec_ZoneOf.f t106).bind fun t107 => (if t107 = 1 then (spec_l13Zone.l0 (d + 1) 1 2 (wrap64 (i + 1)) a0 a1 a2 a3) else (if t107 = 2 then (spec_l13Zone.l0 (d + 1) 1 2 (wrap64 (i + 1)) a0 a1 a2 a3) else (some false))))) else (some true)) from rfl]
    rw [if_pos hlt, plus_val]
    simp only [Option.bind_some]
    rw [zone_same, w64 (n := i + 1) (by omega) (by omega), ih (i + 1) (by omega) (by omega)]
    rw [List.range_succ_eq_map]
    simp only [List.all_cons, List.all_map]
    have e : ((fun j : Nat => zoneIn (wrap64 (a1 + (i + j)))) ∘ Nat.succ) = fun j : Nat => zoneIn (wrap64 (a1 + (i + 1 + j))) := by
      funext j
      show zoneIn (wrap64 (a1 + (i + ((j + 1 : Nat) : Int)))) = _
      rw [show i + ((j + 1 : Nat) : Int) = i + 1 + j by omega]
    rw [e]
    have e0 : i + ((0 : Nat) : Int) = i := by omega
    rw [e0]
    cases hz : zoneIn (wrap64 (a1 + i)) with
    | true =>
      obtain ⟨z, hz1, hz2⟩ := zoneOf_in _ hz
      rw [hz1]
      rcases hz2 with rfl | rfl <;> simp
    | false =>
      obtain ⟨z, hz1, hz2, hz3⟩ := zoneOf_out _ hz
      rw [hz1]
      simp [hz2, hz3]
theorem FnExactInside : laws_FnExactInside.Pure := by
  intro x ok
  refine ⟨17, ?_⟩
  have key : spec_Inside.f 17 x.f0 x.f1 x.f2 x.f3 = impl_Inside.f x.f0 x.f1 x.f2 x.f3 := by
    unfold spec_Inside.f impl_Inside.f spec_l01In.f spec_l13Zone.f
    by_cases h1 : x.f2 ≥ 1
    · rw [if_pos h1]
      by_cases h2 : x.f2 ≤ 15
      · have hl := zone_loop x.f0 x.f1 x.f2 x.f3 h2 x.f2.toNat 0 (by omega) (by omega)
        have hl2 := at_rounds (fun k => spec_l13Zone.mono_l k 1 2 0 x.f0 x.f1 x.f2 x.f3) (show x.f2.toNat + 1 ≤ 17 by omega) hl
        simp only [h2, decide_true, Option.bind_some, if_true, show (1 : Int) ≤ x.f2 from h1, Bool.true_and]
        rw [hl2]
        simp only [Option.bind_some, Int.zero_add]
      · simp [h2]
    · rw [if_neg h1]
      have h3 : ¬ (1 : Int) ≤ x.f2 := h1
      simp [h3]
  unfold laws_FnExactInside.f laws_toAccess.f
  simp only [Option.bind_some, key]
  unfold impl_Inside.f
  simp

end Go.Proofs.Ytoohimpbckpiaaa.Pure
