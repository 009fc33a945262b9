/- The program's ZoneOf tells what the reference's tells, for every int. No condition. -/
import Derived.Test.YtoohimpbckpiaaaPFnExactZoneOfx1
namespace Go.Proofs.Ytoohimpbckpiaaa.Pure
open Go.RowKit Go.Proofs.Ytoohimpbckpiaaa.PFnExactZoneOf Go.Proofs.YtoohimpbckpiaaaW.PrintWords Go.Proofs.YtoohimpbckpiaaaW.PrintLast

theorem l01In_some (a b c : Int) : ∃ r, spec_l01In.f a b c = some r := by unfold spec_l01In.f; split <;> exact ⟨_, rfl⟩
theorem zone_some (a : Int) : ∃ r, spec_ZoneOf.f a = some r := by
  unfold spec_ZoneOf.f spec_l01In.f
  repeat' split
  all_goals (simp only [Option.bind_some]; repeat' split)
  all_goals first | exact ⟨_, rfl⟩ | simp

theorem FnExactZoneOf : laws_FnExactZoneOf.Pure := by
  intro a h
  have e : impl_ZoneOf.f a = spec_ZoneOf.f a := rfl
  obtain ⟨r, hr⟩ := zone_some a
  unfold laws_FnExactZoneOf.f
  rw [e, hr]
  simp

end Go.Proofs.Ytoohimpbckpiaaa.Pure
