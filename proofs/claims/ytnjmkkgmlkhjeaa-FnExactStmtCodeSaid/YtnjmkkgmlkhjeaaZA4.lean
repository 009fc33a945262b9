/- A part of the plain reading of Go's code: what a function's code comes to, by a plain function. No condition. -/
import Derived.Test.YtnjmkkgmlkhjeaaZA3
namespace Go.Proofs.Ytnjmkkgmlkhjeaa.AM
open Go.RowKit

def LK.s1 : LK → S1
  | .int k => .int k
  | .bool => .bool
  | .str => .str
theorem vals_of {U : Univ} {w : World} {B : Nat → Prop} : ∀ {ks : List LK} {z : Ts U.El (ks.map LK.s1)} {cs : List Value}, okTs U (ks.map LK.s1) z → CsR U B ι0 [] w (encs (ks.map LK.s1) z false) cs → ∃ p : LTup ks, cs = LTup.vals ks p ∧ ∀ u ∈ cs, okV u := by
  have one : ∀ {k : LK} {z : (LK.s1 k).T U.El} {a : List Value}, okS1 U (LK.s1 k) z → CW U B ι0 [] w ((LK.s1 k).enc z false) a → ∃ p : k.T, a = [k.val p] ∧ okV (k.val p) := by
    intro k z a hz h
    cases k with
    | int k => obtain ⟨v, rfl, rfl, _⟩ := h; exact ⟨z, rfl, hz⟩
    | bool => obtain ⟨v, rfl, rfl, _⟩ := h; exact ⟨z, rfl, trivial⟩
    | str => obtain ⟨v, rfl, rfl, _⟩ := h; exact ⟨z, rfl, hz⟩
  intro ks
  induction ks with
  | nil => intro z cs _ h; exact ⟨(), h, by rw [show cs = [] from h]; simp⟩
  | cons k ks ih =>
    rintro ⟨z, z'⟩ cs ⟨hz, hz'⟩ ⟨a, r, rfl, h1, h2⟩
    obtain ⟨p, rfl, hp⟩ := one hz h1
    obtain ⟨q, rfl, hq⟩ := ih hz' h2
    cases ks with
    | nil => exact ⟨p, rfl, by simpa [LTup.vals] using hp⟩
    | cons k' ks => exact ⟨(p, q), rfl, by
        intro u hu
        rcases List.mem_append.1 hu with hu | hu
        · simp at hu; subst hu; exact hp
        · exact hq u hu⟩

/-- An element type of the seat opens. -/
theorem elOpens {P : Program} {U : Univ} (hU : UOk U) {e : Nat} {ks : List LK} {N : Nat} (hl : lvs P (fun _ => false) N e = some (ks.map LK.s1)) (hc : P.cellsOf e = U.sz e) (hs : ∀ p : LTup ks, ∃ y, U.cells e y = LTup.vals ks p) : ElOpens P U e := by
  refine ⟨hc, fun {H enc w base spare held fuel cs x} h => ?_⟩
  obtain ⟨z, hz, hcs⟩ := lvs_ok hU (fun _ h => by cases h) (B := fun _ => True) hl h
  obtain ⟨p, rfl, hp⟩ := vals_of hz hcs
  obtain ⟨y, hy⟩ := hs p
  exact ⟨y, hy.symm, fun u hu => hp u (hy ▸ hu)⟩
end Go.Proofs.Ytnjmkkgmlkhjeaa.AM
