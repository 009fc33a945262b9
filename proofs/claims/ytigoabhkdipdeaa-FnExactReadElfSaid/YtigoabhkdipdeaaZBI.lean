/- A part of the plain reading of Go's code: what a function's code comes to, by a plain function. No condition. -/
import Derived.Test.YtigoabhkdipdeaaZBH
import Derived.Below
namespace Go.Proofs.Ytigoabhkdipdeaa.AM

/-- A law's function that answers true. -/
theorem law_of {P : Program} {U : Univ} {f : Nat} {ins : List AS} {plain : Nat → ASs U.El ins → Option (Os U.El ([.c .bool] ++ bkSs ins))} (hbk : bkSs ins = []) (h : ConOk P U f ⟨ins, [.c .bool], plain⟩) {n : Nat} {x : ASs U.El ins} {y : Os U.El ([.c .bool] ++ bkSs ins)} (hx : plain n x = some y) (hy : (encOs true true ([.c .bool] ++ bkSs ins) y []).1 = [bool true]) (hm : (encIs ins x []).2 = []) {cargs : List Value} {w : World}
    (hv : VsR U (fun k => w.heap.size ≤ k) (fun _ => undef) [] w (encIs ins x []).1 cargs) : Calls P (f % 65536) cargs.toArray w fun e w' => e = .returned (.bool true) ∧ Go.RowKit.Below w.heap.size w w' := by
  refine (h.sound n x y hx (fun k => w.heap.size ≤ k) (fun k => w.heap.size ≤ k) (fun _ => undef) cargs w (fun _ h => h) (fun _ h => h) (by rw [hm]; exact hv) ⟨fun id b h => by rw [hm] at h; simp at h, fun i j b b' k h => by rw [hm] at h; simp at h, fun id b k h => by rw [hm] at h; simp at h⟩).mono fun e w' he => ?_
  obtain ⟨u, rfl, hF, ι, hV, _⟩ := he
  refine ⟨?_, hF.os, hF.tape, hF.output, hF.size, fun k hk => hF.block k hk (by omega)⟩
  have hV' : VR U (fun k => w.heap.size ≤ k) ι (endMem ins [.c .bool] y) w' (resV [bool true]) u := by
    rw [hy] at hV
    exact hV
  have : u = .bool true := And.left hV'
  rw [this]
end Go.Proofs.Ytigoabhkdipdeaa.AM
