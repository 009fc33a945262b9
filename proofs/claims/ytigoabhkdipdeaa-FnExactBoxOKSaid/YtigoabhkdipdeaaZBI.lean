/- A part of the plain reading of Go's code: what a function's code comes to, by a plain function. No condition. -/
import Derived.Test.YtigoabhkdipdeaaZBH
import Derived.Below
namespace Go.Proofs.Ytigoabhkdipdeaa.AM

/-- A law's function that answers true. -/
theorem law_of {P : Program} {U : Univ} {f : Nat} {ins : List AS} {plain : Nat → ASs U.El ins → Option (Os U.El [.c .bool])} (h : ConOk P U f ⟨ins, [.c .bool], plain⟩) {n : Nat} {x : ASs U.El ins} (hx : plain n x = some true) {cargs : List Value} {w : World}
    (hv : VsR U w.heap.size (fun _ => undef) [] w (ASenc ins x) cargs) : Calls P f cargs.toArray w fun e w' => e = .returned (.bool true) ∧ Go.RowKit.Below w.heap.size w w' := by
  refine (h.sound n x true hx cargs w hv).mono fun e w' he => ?_
  obtain ⟨u, rfl, hF, ι, hV, _⟩ := he
  refine ⟨?_, hF.os, hF.tape, hF.output, hF.size, fun k hk => hF.block k hk (by omega)⟩
  have : u = .bool true := And.left hV
  rw [this]
end Go.Proofs.Ytigoabhkdipdeaa.AM
