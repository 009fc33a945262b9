/- Laid by a program of this session (patch_print.py) out of the translation: plain functions and what the calls do. No condition. -/
import Derived.Test.YtigoabhkdipdeaaProg
import Derived.Below
import Derived.Deep.Draws
import Derived.Deep.AppendLies
import Derived.Maps.AppendAt
import Derived.OwnWalk
import Derived.Laws.BytesArg
import Derived.Laws.MakeOwn
import Derived.Laws.OwnMore
import Derived.Deep.OwnRows
import Derived.Tactics
import Derived.Lib.ConvBytes
import Derived.Laws.Slices
import Derived.WalkKit
import Derived.KernelRfl
import Derived.RowKit3
import Derived.Deep.LoopGhost
import Derived.Deep.QuietTactic
import Derived.BigQuiet
import Derived.WideLaws
import Derived.Deep.DeepCutAuto
import Derived.Deep.CutBlock
import Derived.Deep.RegionHeld3
import Derived.Laws.Rows
import Derived.Lib.AppendStr
import Derived.ArgAppend
import Derived.Laws.IdiomCopy
import Derived.OrdersHeld
import Derived.Laws.BitsLemmas
import Derived.RowKit
import Derived.Test.YtigoabhkdipdeaaWWords
import Derived.Test.YtigoabhkdipdeaaWLast
import Derived.Test.YtigoabhkdipdeaaWTab
import Derived.Test.YtigoabhkdipdeaaWFour
import Derived.Test.YtigoabhkdipdeaaWQPut
import Derived.Test.YtigoabhkdipdeaaWApart
import Derived.Test.YtigoabhkdipdeaaWArr
import Derived.Test.YtigoabhkdipdeaaWZeros
import Derived.Test.YtigoabhkdipdeaaWFoot
import Derived.Test.YtigoabhkdipdeaaWKept
import Derived.Test.YtigoabhkdipdeaaWShare
import Derived.Test.YtigoabhkdipdeaaWN
import Derived.Test.YtigoabhkdipdeaaWFootNe
import Derived.Test.YtigoabhkdipdeaaWAt
import Derived.Test.YtigoabhkdipdeaaWEqStruct
import Derived.Test.YtigoabhkdipdeaaWRepsOne
import Derived.Test.YtigoabhkdipdeaaWInv
import Derived.Test.YtigoabhkdipdeaaWInvWords
import Derived.Test.YtigoabhkdipdeaaWGuard
import Derived.Test.YtigoabhkdipdeaaWNEv
import Derived.Test.YtigoabhkdipdeaaWMore
namespace Go.Proofs.Ytigoabhkdipdeaa.PFnAdd
open Go.RowKit Go.Proofs.YtigoabhkdipdeaaW.PrintWords Go.Proofs.YtigoabhkdipdeaaW.PrintLast Go.Proofs.YtigoabhkdipdeaaW.PrintMore
attribute [local go_sem] max2_int min2_int max_two min_two max_three min_three max_four min_four   -- for this text's walks alone
set_option linter.unusedVariables false
set_option linter.unusedSimpArgs false



def errW : Option Int → Value
  | none => .nilIface
  | some c => .iface 0 (.int .i64 c)
theorem errW_none : errW none = .nilIface := rfl
theorem errW_some (c : Int) : errW (some c) = .iface 0 (.int .i64 c) := rfl

theorem info3 : (Try.prog.info? 3).map (fun i => (i.zero, i.size, i.bytes)) = some (some (.int .i64 0), 1, 8) := by kernel_rfl
-- the values' own types

/-- A cell of a block that is known whole. -/
theorem cz {w : World} {g : Nat} {cs : Array Value} {t : TypeId} (h : w.heap[g]? = some (.cells cs t (0, 0))) (i : Nat) (v : Value) (e : cs[i]? = some v := by rfl) : w.cell? ⟨g, i, none⟩ = some v := (blk_cell h i).trans e
/-- A whole struct is loaded out of its block. -/
theorem ldw {P : Program} {ops : Array Oper} {rest : List Oper} {o : Oper} {a : Act} {w : World} {Q : Exit → Act → World → Prop} (ty : TypeId) (x : Operand) (hgd : o.guard = none) (ho : o.op = .load ty x) {g : Nat} (hx : a.eval x = .pointer (some ⟨g, 0, none⟩)) {t : TypeId} {cs : Array Value} {fr : Nat × Nat} {d : TypeDesc} (hg : w.heap[g]? = some (.cells cs t fr))
    (hu : P.underlying ty = some d) (hd : (match d with | .struct _ | .array _ _ => true | _ => false) = true) (hi : (P.info? ty).map (·.size) = some cs.size) (h : wpList P ops Q rest (a.put o.dst (.agg cs)) w) : wpList P ops Q (o :: rest) a w :=
  wpList_load_row hgd ty x ho g hx t cs fr d hg hu hd hi h
/-- Structs of seven numbers compared: the walk's nested tests as one value. -/
theorem ifs7 (w : World) (a0 a1 a2 a3 a4 a5 a6 b0 b1 b2 b3 b4 b5 b6 : Int) : (if a0 = b0 then (if a1 = b1 then (if a2 = b2 then (if a3 = b3 then (if a4 = b4 then (if a5 = b5 then (if a6 = b6 then Result.ok (Next.value (Value.bool true)) w else Result.ok (Next.value (Value.bool false)) w) else Result.ok (Next.value (Value.bool false)) w) else Result.ok (Next.value (Value.bool false)) w) else Result.ok (Next.value (Value.bool false)) w) else Result.ok (Next.value (Value.bool false)) w) else Result.ok (Next.value (Value.bool false)) w) else Result.ok (Next.value (Value.bool false)) w) = Result.ok (Next.value (Value.bool (a0 == b0 && (a1 == b1 && (a2 == b2 && (a3 == b3 && (a4 == b4 && (a5 == b5 && a6 == b6)))))))) w := by
  by_cases c0 : a0 = b0 <;> by_cases c1 : a1 = b1 <;> by_cases c2 : a2 = b2 <;> by_cases c3 : a3 = b3 <;> by_cases c4 : a4 = b4 <;> by_cases c5 : a5 = b5 <;> by_cases c6 : a6 = b6 <;> simp [c0, c1, c2, c3, c4, c5, c6]
theorem ifs7n (w : World) (a0 a1 a2 a3 a4 a5 a6 b0 b1 b2 b3 b4 b5 b6 : Int) : (if a0 = b0 then (if a1 = b1 then (if a2 = b2 then (if a3 = b3 then (if a4 = b4 then (if a5 = b5 then (if a6 = b6 then Result.ok (Next.value (Value.bool false)) w else Result.ok (Next.value (Value.bool true)) w) else Result.ok (Next.value (Value.bool true)) w) else Result.ok (Next.value (Value.bool true)) w) else Result.ok (Next.value (Value.bool true)) w) else Result.ok (Next.value (Value.bool true)) w) else Result.ok (Next.value (Value.bool true)) w) else Result.ok (Next.value (Value.bool true)) w) = Result.ok (Next.value (Value.bool (!(a0 == b0) || (!(a1 == b1) || (!(a2 == b2) || (!(a3 == b3) || (!(a4 == b4) || (!(a5 == b5) || (!(a6 == b6)))))))))) w := by
  by_cases c0 : a0 = b0 <;> by_cases c1 : a1 = b1 <;> by_cases c2 : a2 = b2 <;> by_cases c3 : a3 = b3 <;> by_cases c4 : a4 = b4 <;> by_cases c5 : a5 = b5 <;> by_cases c6 : a6 = b6 <;> simp [c0, c1, c2, c3, c4, c5, c6]
/-- A whole struct is loaded out of its cells, in a region of open order. -/
theorem ldx {P : Program} {ev : Operand → Value} {o : Oper} {w : World} (ty : TypeId) (x : Operand) (ho : o.op = .load ty x) {g : Nat} (hx : ev x = .pointer (some ⟨g, 0, none⟩)) {cs : List Value} {d : TypeDesc}
    (hc : ∀ j v, cs[j]? = some v → w.cell? ⟨g, 0 + j, none⟩ = some v) (hu : P.underlying ty = some d) (hd : (match d with | .struct _ | .array _ _ => true | _ => false) = true) (hi : (P.info? ty).map (·.size) = some cs.length) : (execOp ev o).run P w = .ok (.value (.agg cs.toArray)) w := by
  have hl : (loadCells ⟨g, 0, none⟩ cs.length).run P w = .ok cs.toArray w :=
    run_loadCells_list (P := P) w ⟨g, 0, none⟩ cs (fun j v hv => by rw [show (⟨g, 0, none⟩ : Addr).add j = ⟨g, 0 + j, none⟩ by unfold Addr.add; split <;> simp_all]; exact hc j v hv)
  have hv : (loadVar ty ⟨g, 0, none⟩).run P w = .ok (.agg cs.toArray) w := by
    cases hq : P.info? ty with
    | none => simp [hq] at hi
    | some i =>
      have hs : i.size = cs.length := by simpa [hq] using hi
      have hagg : (isAgg ty).run P w = .ok true w := by
        unfold isAgg
        rw [Sem.run_bind, run_underlying hu w]
        cases d <;> simp_all
      simp [loadVar, Sem.run_bind, hagg, sizeOf, typeInfo, hq, hs, hl]
  unfold execOp
  simp only [ho, hx, Instr.loadAt, Instr.sureAddr, Sem.run_bind, Sem.run_pure, Result.andThen_ok, hv]
theorem rc_nil {w : World} {g o : Nat} : ∀ j v, ([] : List Value)[j]? = some v → w.cell? ⟨g, o + j, none⟩ = some v := fun j v h => by simp at h
theorem rc_cons {w : World} {g o : Nat} {v : Value} {cs : List Value} (h : w.cell? ⟨g, o, none⟩ = some v) (k : ∀ j v, cs[j]? = some v → w.cell? ⟨g, (o + 1) + j, none⟩ = some v) : ∀ j u, (v :: cs)[j]? = some u → w.cell? ⟨g, o + j, none⟩ = some u := fun j u e => by
  cases j with
  | zero => simp only [List.getElem?_cons_zero, Option.some.injEq] at e; subst e; exact h
  | succ j => rw [List.getElem?_cons_succ] at e; have := k j u e; rwa [show o + (j + 1) = o + 1 + j by omega]

end Go.Proofs.Ytigoabhkdipdeaa.PFnAdd
