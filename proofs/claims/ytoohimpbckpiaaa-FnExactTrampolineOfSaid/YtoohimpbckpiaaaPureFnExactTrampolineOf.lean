/- The program's TrampolineOf tells what the reference's tells, for every int. No condition. -/
import Derived.Test.YtoohimpbckpiaaaPFnExactTrampolineOfx1
import Derived.Test.YtoohimpbckpiaaaNNum
namespace Go.Proofs.Ytoohimpbckpiaaa.Pure
open Go.RowKit Go.Proofs.Ytoohimpbckpiaaa.PFnExactTrampolineOf Go.Proofs.YtoohimpbckpiaaaW.PrintWords Go.Proofs.YtoohimpbckpiaaaW.PrintLast Go.Proofs.Ytoohimpbckpiaaa.Num

theorem tramp_same (a : Int) (d : Nat) : ∀ i : Int, 0 ≤ i → i ≤ 8 → 8 - i = d → ∃ r, spec_TrampolineOf.l0 (d + 1) a i = some r ∧ impl_TrampolineOf.l0 (d + 1) a i = some r := by
  induction d with
  | zero =>
    intro i h0 h1 h2
    exact ⟨(0, false), by simp only [spec_TrampolineOf.l0]; rw [if_neg (by omega)], by simp only [impl_TrampolineOf.l0]; rw [if_neg (by omega)]⟩
  | succ d ih =>
    intro i h0 h1 h2
    obtain ⟨r, hs, hi⟩ := ih (i + 1) (by omega) (by omega) (by omega)
    have hw : wrap64 (i + 1) = i + 1 := w64 (by omega) (by omega)
    have hm : wrap64 (i * 32) = wrap64 (32 * i) := by rw [Int.mul_comm]
    rw [show spec_TrampolineOf.l0 (d + 1 + 1) a i = (if i < 8 then (if a = (wrap64 (16640 + (wrap64 (32 * i)))) then (some (i, true)) else (spec_TrampolineOf.l0 (d + 1) a (wrap64 (i + 1)))) else (some (0, false))) from rfl]
    rw [show impl_TrampolineOf.l0 (d + 1 + 1) a i = (if i < 8 then ((impl_trampoline.f i).bind fun t101 => (if t101 = a then (some (i, true)) else (impl_TrampolineOf.l0 (d + 1) a (wrap64 (i + 1))))) else (some (0, false))) from rfl]
    have hi8 : i < 8 := by omega
    simp only [if_pos hi8]
    unfold impl_trampoline.f
    simp only [Option.bind_some, hw, hm]
    by_cases c : a = wrap64 (16640 + wrap64 (32 * i))
    · rw [if_pos c, if_pos c.symm]; exact ⟨_, rfl, rfl⟩
    · rw [if_neg c, if_neg (fun h => c h.symm)]; exact ⟨r, hs, hi⟩

theorem FnExactTrampolineOf : laws_FnExactTrampolineOf.Pure := by
  intro a h
  obtain ⟨r, hs, hi⟩ := tramp_same a 8 0 (by omega) (by omega) (by omega)
  refine ⟨9, ?_⟩
  unfold laws_FnExactTrampolineOf.f spec_TrampolineOf.f impl_TrampolineOf.f
  rw [hs, hi]
  simp

end Go.Proofs.Ytoohimpbckpiaaa.Pure
