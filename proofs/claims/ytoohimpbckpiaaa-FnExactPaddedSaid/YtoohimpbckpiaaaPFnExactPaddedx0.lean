/- Laid by a program of this session (patch_print.py) out of the translation: plain functions and what the calls do. No condition. -/
import Derived.Test.YtoohimpbckpiaaaProg
import Derived.Below
import Derived.Deep.Draws
import Derived.Deep.AppendLies
import Derived.Maps.AppendAt
import Derived.OwnWalk
import Derived.Laws.BytesArg
import Derived.Laws.MakeOwn
import Derived.Laws.OwnMore
import Derived.Deep.OwnRows
import Derived.Tactics
import Derived.Lib.ConvBytes
import Derived.Laws.Slices
import Derived.WalkKit
import Derived.KernelRfl
import Derived.RowKit3
import Derived.Deep.LoopGhost
import Derived.Deep.QuietTactic
import Derived.BigQuiet
import Derived.WideLaws
import Derived.Deep.DeepCutAuto
import Derived.Deep.CutBlock
import Derived.Deep.RegionHeld3
import Derived.Laws.Rows
import Derived.Lib.AppendStr
import Derived.ArgAppend
import Derived.Laws.IdiomCopy
import Derived.OrdersHeld
import Derived.Laws.BitsLemmas
import Derived.RowKit
import Derived.Test.YtoohimpbckpiaaaWWords
import Derived.Test.YtoohimpbckpiaaaWLast
import Derived.Test.YtoohimpbckpiaaaWTab
import Derived.Test.YtoohimpbckpiaaaWFour
import Derived.Test.YtoohimpbckpiaaaWQPut
import Derived.Test.YtoohimpbckpiaaaWApart
import Derived.Test.YtoohimpbckpiaaaWArr
import Derived.Test.YtoohimpbckpiaaaWZeros
import Derived.Test.YtoohimpbckpiaaaWFoot
import Derived.Test.YtoohimpbckpiaaaWKept
import Derived.Test.YtoohimpbckpiaaaWShare
import Derived.Test.YtoohimpbckpiaaaWN
import Derived.Test.YtoohimpbckpiaaaWFootNe
import Derived.Test.YtoohimpbckpiaaaWAt
import Derived.Test.YtoohimpbckpiaaaWEqStruct
import Derived.Test.YtoohimpbckpiaaaWRepsOne
import Derived.Test.YtoohimpbckpiaaaWInv
import Derived.Test.YtoohimpbckpiaaaWInvWords
import Derived.Test.YtoohimpbckpiaaaWGuard
import Derived.Test.YtoohimpbckpiaaaWNEv
import Derived.Test.YtoohimpbckpiaaaWMore
namespace Go.Proofs.Ytoohimpbckpiaaa.PFnExactPadded
open Go.RowKit Go.Proofs.YtoohimpbckpiaaaW.PrintWords Go.Proofs.YtoohimpbckpiaaaW.PrintLast Go.Proofs.YtoohimpbckpiaaaW.PrintMore
attribute [local go_sem] max2_int min2_int max_two min_two max_three min_three max_four min_four   -- for this text's walks alone
set_option linter.unusedVariables false
set_option linter.unusedSimpArgs false



def errW : Option Int → Value
  | none => .nilIface
  | some c => .iface 0 (.int .i64 c)
theorem errW_none : errW none = .nilIface := rfl
theorem errW_some (c : Int) : errW (some c) = .iface 0 (.int .i64 c) := rfl

-- the values' own types

end Go.Proofs.Ytoohimpbckpiaaa.PFnExactPadded
