/-
  No cell of these rows narrows 'for every input' (looked for: loops, veiled, ifaces, maps, wideKeys, modest, calm, conditions, laid).
  DERIVED. THE GIVEN ROWS OF THIS SEAT. 12 by the template 'for every input the law returns true; each argument reads behind the call as it read before'; 0 by the template 'total and deterministic' (their statements: YtonogadabgilfaaTotals.lean).
  GIVEN WITH THE SEED: the statements are not yours to turn. If you find one false, say at which input.
  Laid BY PROGRAM, IN A SANDBOX (cutbox-rows.mjs): the forced cells as the released guide's own fill.sh prints them over the translation b020b564d4a3eb92… (all of the seat's roots in one cut). By AI agents, Wed Nov 11 2026. No macro, syntax, notation, axiom, sorry.
-/
import Derived.Test.YtonogadabgilfaaChecked
import GoSem.Claim
import GoSem.ClaimJoined
import GoSem.ClaimMapViews
import Derived.JoinedTies
import Derived.KernelRfl
namespace Go.Proofs.Ytonogadabgilfaa
/- THE CELL 'sum', in the pinned program and in every row, IS THE sha256 OF THE DUMP (.gsa) THAT YtonogadabgilfaaProg.lean LOADS. Nothing in Lean hashes anything: it is a label: what it is worth is what the hold of that sum in a sandbox is worth. -/
noncomputable def Try.pinned : Pinned := { name := "ytonogadabgilfaa", sum := "b020b564d4a3eb92627da54bb49717e02dc1c267cc09d2b21e2aa5b86eaef818", checked := Try.checked }
namespace Rows
def none {H : Type} : Left H := { results := [], args := [] }

/-- 'laws.FnExactBaseAddOf': WHATEVER THE INPUT: true; the input reads as it did. -/
def fnExactBaseAddOfSpec : ChangeSpec := { name := "fnExactBaseAddOf", fn := fun _ => fun
  | [d] => { results := [.lit (.bool true)], args := [d] }
  | _ => none }
def fnExactBaseAddOfRow : OpenClaim := { program := "ytonogadabgilfaa", sum := "b020b564d4a3eb92627da54bb49717e02dc1c267cc09d2b21e2aa5b86eaef818", func := "loop.example/g00664/laws.FnExactBaseAddOf", spec := "fnExactBaseAddOf", inPlace := ["internal/bytealg.IndexByteString", "internal/bytealg.IndexString"], unfollowed := true, recurses := true, named := ["internal/bytealg.MaxLen"], apart := false }
def FnExactBaseAddOfSaid : Prop := fnExactBaseAddOfRow.holds Try.pinned (OpenSpec.ofChange fnExactBaseAddOfSpec)

/-- ITS FALSE NEIGHBOUR: 'it returns false'. Refute it at one input. -/
def fnExactBaseAddOfWrong : ChangeSpec := { name := "fnExactBaseAddOf", fn := fun _ => fun
  | [d] => { results := [.lit (.bool false)], args := [d] }
  | _ => none }
def FnExactBaseAddOfWrongFalsely : Prop := fnExactBaseAddOfRow.holds Try.pinned (OpenSpec.ofChange fnExactBaseAddOfWrong)

/-- 'laws.FnExactMaskOf': WHATEVER THE INPUT: true; the input reads as it did. -/
def fnExactMaskOfSpec : ChangeSpec := { name := "fnExactMaskOf", fn := fun _ => fun
  | [d] => { results := [.lit (.bool true)], args := [d] }
  | _ => none }
def fnExactMaskOfRow : OpenClaim := { program := "ytonogadabgilfaa", sum := "b020b564d4a3eb92627da54bb49717e02dc1c267cc09d2b21e2aa5b86eaef818", func := "loop.example/g00664/laws.FnExactMaskOf", spec := "fnExactMaskOf", inPlace := ["internal/bytealg.IndexByteString", "internal/bytealg.IndexString"], unfollowed := true, recurses := true, named := ["internal/bytealg.MaxLen"], apart := false }
def FnExactMaskOfSaid : Prop := fnExactMaskOfRow.holds Try.pinned (OpenSpec.ofChange fnExactMaskOfSpec)

/-- ITS FALSE NEIGHBOUR: 'it returns false'. Refute it at one input. -/
def fnExactMaskOfWrong : ChangeSpec := { name := "fnExactMaskOf", fn := fun _ => fun
  | [d] => { results := [.lit (.bool false)], args := [d] }
  | _ => none }
def FnExactMaskOfWrongFalsely : Prop := fnExactMaskOfRow.holds Try.pinned (OpenSpec.ofChange fnExactMaskOfWrong)

/-- 'laws.FnExactGoalOf': WHATEVER THE INPUT: true; the input reads as it did. -/
def fnExactGoalOfSpec : ChangeSpec := { name := "fnExactGoalOf", fn := fun _ => fun
  | [d1, d2] => { results := [.lit (.bool true)], args := [d1, d2] }
  | _ => none }
def fnExactGoalOfRow : OpenClaim := { program := "ytonogadabgilfaa", sum := "b020b564d4a3eb92627da54bb49717e02dc1c267cc09d2b21e2aa5b86eaef818", func := "loop.example/g00664/laws.FnExactGoalOf", spec := "fnExactGoalOf", inPlace := ["internal/bytealg.IndexByteString", "internal/bytealg.IndexString"], unfollowed := true, recurses := true, named := ["internal/bytealg.MaxLen"], apart := false }
def FnExactGoalOfSaid : Prop := fnExactGoalOfRow.holds Try.pinned (OpenSpec.ofChange fnExactGoalOfSpec)

/-- ITS FALSE NEIGHBOUR: 'it returns false'. Refute it at one input. -/
def fnExactGoalOfWrong : ChangeSpec := { name := "fnExactGoalOf", fn := fun _ => fun
  | [d1, d2] => { results := [.lit (.bool false)], args := [d1, d2] }
  | _ => none }
def FnExactGoalOfWrongFalsely : Prop := fnExactGoalOfRow.holds Try.pinned (OpenSpec.ofChange fnExactGoalOfWrong)

/-- 'laws.FnExactThroughOf': WHATEVER THE INPUT: true; the input reads as it did. -/
def fnExactThroughOfSpec : ChangeSpec := { name := "fnExactThroughOf", fn := fun _ => fun
  | [d] => { results := [.lit (.bool true)], args := [d] }
  | _ => none }
def fnExactThroughOfRow : OpenClaim := { program := "ytonogadabgilfaa", sum := "b020b564d4a3eb92627da54bb49717e02dc1c267cc09d2b21e2aa5b86eaef818", func := "loop.example/g00664/laws.FnExactThroughOf", spec := "fnExactThroughOf", inPlace := ["internal/bytealg.IndexByteString", "internal/bytealg.IndexString"], unfollowed := true, recurses := true, named := ["internal/bytealg.MaxLen"], apart := false }
def FnExactThroughOfSaid : Prop := fnExactThroughOfRow.holds Try.pinned (OpenSpec.ofChange fnExactThroughOfSpec)

/-- ITS FALSE NEIGHBOUR: 'it returns false'. Refute it at one input. -/
def fnExactThroughOfWrong : ChangeSpec := { name := "fnExactThroughOf", fn := fun _ => fun
  | [d] => { results := [.lit (.bool false)], args := [d] }
  | _ => none }
def FnExactThroughOfWrongFalsely : Prop := fnExactThroughOfRow.holds Try.pinned (OpenSpec.ofChange fnExactThroughOfWrong)

/-- 'laws.FnExactMemoryOf': WHATEVER THE INPUT: true; the input reads as it did. -/
def fnExactMemoryOfSpec : ChangeSpec := { name := "fnExactMemoryOf", fn := fun _ => fun
  | [d] => { results := [.lit (.bool true)], args := [d] }
  | _ => none }
def fnExactMemoryOfRow : OpenClaim := { program := "ytonogadabgilfaa", sum := "b020b564d4a3eb92627da54bb49717e02dc1c267cc09d2b21e2aa5b86eaef818", func := "loop.example/g00664/laws.FnExactMemoryOf", spec := "fnExactMemoryOf", inPlace := ["internal/bytealg.IndexByteString", "internal/bytealg.IndexString"], unfollowed := true, recurses := true, named := ["internal/bytealg.MaxLen"], apart := false }
def FnExactMemoryOfSaid : Prop := fnExactMemoryOfRow.holds Try.pinned (OpenSpec.ofChange fnExactMemoryOfSpec)

/-- ITS FALSE NEIGHBOUR: 'it returns false'. Refute it at one input. -/
def fnExactMemoryOfWrong : ChangeSpec := { name := "fnExactMemoryOf", fn := fun _ => fun
  | [d] => { results := [.lit (.bool false)], args := [d] }
  | _ => none }
def FnExactMemoryOfWrongFalsely : Prop := fnExactMemoryOfRow.holds Try.pinned (OpenSpec.ofChange fnExactMemoryOfWrong)

/-- 'laws.FnExactWritesReg': WHATEVER THE INPUT: true; the input reads as it did. -/
def fnExactWritesRegSpec : ChangeSpec := { name := "fnExactWritesReg", fn := fun _ => fun
  | [d1, d2] => { results := [.lit (.bool true)], args := [d1, d2] }
  | _ => none }
def fnExactWritesRegRow : OpenClaim := { program := "ytonogadabgilfaa", sum := "b020b564d4a3eb92627da54bb49717e02dc1c267cc09d2b21e2aa5b86eaef818", func := "loop.example/g00664/laws.FnExactWritesReg", spec := "fnExactWritesReg", inPlace := ["internal/bytealg.IndexByteString", "internal/bytealg.IndexString"], unfollowed := true, recurses := true, named := ["internal/bytealg.MaxLen"], apart := false }
def FnExactWritesRegSaid : Prop := fnExactWritesRegRow.holds Try.pinned (OpenSpec.ofChange fnExactWritesRegSpec)

/-- ITS FALSE NEIGHBOUR: 'it returns false'. Refute it at one input. -/
def fnExactWritesRegWrong : ChangeSpec := { name := "fnExactWritesReg", fn := fun _ => fun
  | [d1, d2] => { results := [.lit (.bool false)], args := [d1, d2] }
  | _ => none }
def FnExactWritesRegWrongFalsely : Prop := fnExactWritesRegRow.holds Try.pinned (OpenSpec.ofChange fnExactWritesRegWrong)

/-- 'laws.FnExactTouchOf': WHATEVER THE INPUT: true; the input reads as it did. -/
def fnExactTouchOfSpec : ChangeSpec := { name := "fnExactTouchOf", fn := fun _ => fun
  | [d] => { results := [.lit (.bool true)], args := [d] }
  | _ => none }
def fnExactTouchOfRow : OpenClaim := { program := "ytonogadabgilfaa", sum := "b020b564d4a3eb92627da54bb49717e02dc1c267cc09d2b21e2aa5b86eaef818", func := "loop.example/g00664/laws.FnExactTouchOf", spec := "fnExactTouchOf", inPlace := ["internal/bytealg.IndexByteString", "internal/bytealg.IndexString"], unfollowed := true, recurses := true, named := ["internal/bytealg.MaxLen"], apart := false }
def FnExactTouchOfSaid : Prop := fnExactTouchOfRow.holds Try.pinned (OpenSpec.ofChange fnExactTouchOfSpec)

/-- ITS FALSE NEIGHBOUR: 'it returns false'. Refute it at one input. -/
def fnExactTouchOfWrong : ChangeSpec := { name := "fnExactTouchOf", fn := fun _ => fun
  | [d] => { results := [.lit (.bool false)], args := [d] }
  | _ => none }
def FnExactTouchOfWrongFalsely : Prop := fnExactTouchOfRow.holds Try.pinned (OpenSpec.ofChange fnExactTouchOfWrong)

/-- 'laws.FnExactStmtCode': WHATEVER THE INPUT: true; the input reads as it did. -/
def fnExactStmtCodeSpec : ChangeSpec := { name := "fnExactStmtCode", fn := fun _ => fun
  | [d] => { results := [.lit (.bool true)], args := [d] }
  | _ => none }
def fnExactStmtCodeRow : OpenClaim := { program := "ytonogadabgilfaa", sum := "b020b564d4a3eb92627da54bb49717e02dc1c267cc09d2b21e2aa5b86eaef818", func := "loop.example/g00664/laws.FnExactStmtCode", spec := "fnExactStmtCode", apart := false }
def FnExactStmtCodeSaid : Prop := fnExactStmtCodeRow.holds Try.pinned (OpenSpec.ofChange fnExactStmtCodeSpec)

/-- ITS FALSE NEIGHBOUR: 'it returns false'. Refute it at one input. -/
def fnExactStmtCodeWrong : ChangeSpec := { name := "fnExactStmtCode", fn := fun _ => fun
  | [d] => { results := [.lit (.bool false)], args := [d] }
  | _ => none }
def FnExactStmtCodeWrongFalsely : Prop := fnExactStmtCodeRow.holds Try.pinned (OpenSpec.ofChange fnExactStmtCodeWrong)

/-- 'laws.FnStmtCode': WHATEVER THE INPUT: true; the input reads as it did. -/
def fnStmtCodeSpec : ChangeSpec := { name := "fnStmtCode", fn := fun _ => fun
  | [d] => { results := [.lit (.bool true)], args := [d] }
  | _ => none }
def fnStmtCodeRow : OpenClaim := { program := "ytonogadabgilfaa", sum := "b020b564d4a3eb92627da54bb49717e02dc1c267cc09d2b21e2aa5b86eaef818", func := "loop.example/g00664/laws.FnStmtCode", spec := "fnStmtCode", inPlace := ["internal/bytealg.IndexByteString", "internal/bytealg.IndexString", "internal/abi.NoEscape"], unfollowed := true, recurses := true, named := ["internal/bytealg.MaxLen"], apart := false }
def FnStmtCodeSaid : Prop := fnStmtCodeRow.holds Try.pinned (OpenSpec.ofChange fnStmtCodeSpec)

/-- ITS FALSE NEIGHBOUR: 'it returns false'. Refute it at one input. -/
def fnStmtCodeWrong : ChangeSpec := { name := "fnStmtCode", fn := fun _ => fun
  | [d] => { results := [.lit (.bool false)], args := [d] }
  | _ => none }
def FnStmtCodeWrongFalsely : Prop := fnStmtCodeRow.holds Try.pinned (OpenSpec.ofChange fnStmtCodeWrong)

/-- 'laws.FnExactDecode': WHATEVER THE INPUT: true; the input reads as it did. -/
def fnExactDecodeSpec : ChangeSpec := { name := "fnExactDecode", fn := fun _ => fun
  | [d1, d2] => { results := [.lit (.bool true)], args := [d1, d2] }
  | _ => none }
def fnExactDecodeRow : OpenClaim := { program := "ytonogadabgilfaa", sum := "b020b564d4a3eb92627da54bb49717e02dc1c267cc09d2b21e2aa5b86eaef818", func := "loop.example/g00664/laws.FnExactDecode", spec := "fnExactDecode", unfollowed := true, recurses := true, apart := false }
def FnExactDecodeSaid : Prop := fnExactDecodeRow.holds Try.pinned (OpenSpec.ofChange fnExactDecodeSpec)

/-- ITS FALSE NEIGHBOUR: 'it returns false'. Refute it at one input. -/
def fnExactDecodeWrong : ChangeSpec := { name := "fnExactDecode", fn := fun _ => fun
  | [d1, d2] => { results := [.lit (.bool false)], args := [d1, d2] }
  | _ => none }
def FnExactDecodeWrongFalsely : Prop := fnExactDecodeRow.holds Try.pinned (OpenSpec.ofChange fnExactDecodeWrong)

/-- 'laws.FnExactLengthAt': WHATEVER THE INPUT: true; the input reads as it did. -/
def fnExactLengthAtSpec : ChangeSpec := { name := "fnExactLengthAt", fn := fun _ => fun
  | [d1, d2] => { results := [.lit (.bool true)], args := [d1, d2] }
  | _ => none }
def fnExactLengthAtRow : OpenClaim := { program := "ytonogadabgilfaa", sum := "b020b564d4a3eb92627da54bb49717e02dc1c267cc09d2b21e2aa5b86eaef818", func := "loop.example/g00664/laws.FnExactLengthAt", spec := "fnExactLengthAt", unfollowed := true, recurses := true, apart := false }
def FnExactLengthAtSaid : Prop := fnExactLengthAtRow.holds Try.pinned (OpenSpec.ofChange fnExactLengthAtSpec)

/-- ITS FALSE NEIGHBOUR: 'it returns false'. Refute it at one input. -/
def fnExactLengthAtWrong : ChangeSpec := { name := "fnExactLengthAt", fn := fun _ => fun
  | [d1, d2] => { results := [.lit (.bool false)], args := [d1, d2] }
  | _ => none }
def FnExactLengthAtWrongFalsely : Prop := fnExactLengthAtRow.holds Try.pinned (OpenSpec.ofChange fnExactLengthAtWrong)

/-- 'laws.FnExactDecodeAll': WHATEVER THE INPUT: true; the input reads as it did. -/
def fnExactDecodeAllSpec : ChangeSpec := { name := "fnExactDecodeAll", fn := fun _ => fun
  | [d] => { results := [.lit (.bool true)], args := [d] }
  | _ => none }
def fnExactDecodeAllRow : OpenClaim := { program := "ytonogadabgilfaa", sum := "b020b564d4a3eb92627da54bb49717e02dc1c267cc09d2b21e2aa5b86eaef818", func := "loop.example/g00664/laws.FnExactDecodeAll", spec := "fnExactDecodeAll", unfollowed := true, recurses := true, apart := false }
def FnExactDecodeAllSaid : Prop := fnExactDecodeAllRow.holds Try.pinned (OpenSpec.ofChange fnExactDecodeAllSpec)

/-- ITS FALSE NEIGHBOUR: 'it returns false'. Refute it at one input. -/
def fnExactDecodeAllWrong : ChangeSpec := { name := "fnExactDecodeAll", fn := fun _ => fun
  | [d] => { results := [.lit (.bool false)], args := [d] }
  | _ => none }
def FnExactDecodeAllWrongFalsely : Prop := fnExactDecodeAllRow.holds Try.pinned (OpenSpec.ofChange fnExactDecodeAllWrong)

/- THE SECOND FORM. 'bulk': how many values and letters a reading holds, each counted each time it is reached (what is shared counts as often as it is met; a slice's spare places count too). A statement '..UptoSaid' is the law's where the arguments, and the package variables that the reading takes, are together of bulk at most 1048576: NARROWER than '..Said'. Prove '..Said' where nothing that the law and all that it calls make is longer than what came in: it says more and counts as full. Else prove '..UptoSaid'. A law counts once. -/
mutual
def uptoBulk {H : Type} : DataW H → Nat
  | .lit (.string bytes) => bytes.length + 1
  | .lit _ => 1
  | .nil => 1
  | .ptr d => uptoBulk d + 1
  | .slice elems spare => uptoBulkAll elems + uptoBulkAll spare + 1
  | .agg parts => uptoBulkAll parts + 1
  | .iface _ d => uptoBulk d + 1
  | .map entries => uptoBulkEntries entries + 1
  | .held _ => 1
def uptoBulkAll {H : Type} : List (DataW H) → Nat
  | [] => 0
  | d :: r => uptoBulk d + uptoBulkAll r
def uptoBulkEntries {H : Type} : List (Lit × DataW H) → Nat
  | [] => 0
  | x :: r => uptoBulkEntry x + uptoBulkEntries r
def uptoBulkEntry {H : Type} : Lit × DataW H → Nat
  | (.string bytes, d) => bytes.length + uptoBulk d + 1
  | (_, d) => uptoBulk d + 1
 end
def uptoSmall : (H : Type) → List (DataW H) → Bool := fun _ ds => decide (uptoBulkAll ds ≤ 1048576)
def OpenSpec.upto (s : _root_.Go.ChangeSpec) : _root_.Go.OpenSpec := { _root_.Go.OpenSpec.ofChange s with cond := some uptoSmall }

/-- 'laws.FnExactBaseAddOf', WHERE WHAT IT READS IS OF BULK AT MOST 1048576: true; the input reads as it did. -/
def fnExactBaseAddOfUptoRow : OpenClaim := { program := "ytonogadabgilfaa", sum := "b020b564d4a3eb92627da54bb49717e02dc1c267cc09d2b21e2aa5b86eaef818", func := "loop.example/g00664/laws.FnExactBaseAddOf", spec := "fnExactBaseAddOf", inPlace := ["internal/bytealg.IndexByteString", "internal/bytealg.IndexString"], unfollowed := true, recurses := true, named := ["internal/bytealg.MaxLen"], apart := false, narrowed := true }
def FnExactBaseAddOfUptoSaid : Prop := fnExactBaseAddOfUptoRow.holds Try.pinned (OpenSpec.upto fnExactBaseAddOfSpec)

/-- 'laws.FnExactMaskOf', WHERE WHAT IT READS IS OF BULK AT MOST 1048576: true; the input reads as it did. -/
def fnExactMaskOfUptoRow : OpenClaim := { program := "ytonogadabgilfaa", sum := "b020b564d4a3eb92627da54bb49717e02dc1c267cc09d2b21e2aa5b86eaef818", func := "loop.example/g00664/laws.FnExactMaskOf", spec := "fnExactMaskOf", inPlace := ["internal/bytealg.IndexByteString", "internal/bytealg.IndexString"], unfollowed := true, recurses := true, named := ["internal/bytealg.MaxLen"], apart := false, narrowed := true }
def FnExactMaskOfUptoSaid : Prop := fnExactMaskOfUptoRow.holds Try.pinned (OpenSpec.upto fnExactMaskOfSpec)

/-- 'laws.FnExactGoalOf', WHERE WHAT IT READS IS OF BULK AT MOST 1048576: true; the input reads as it did. -/
def fnExactGoalOfUptoRow : OpenClaim := { program := "ytonogadabgilfaa", sum := "b020b564d4a3eb92627da54bb49717e02dc1c267cc09d2b21e2aa5b86eaef818", func := "loop.example/g00664/laws.FnExactGoalOf", spec := "fnExactGoalOf", inPlace := ["internal/bytealg.IndexByteString", "internal/bytealg.IndexString"], unfollowed := true, recurses := true, named := ["internal/bytealg.MaxLen"], apart := false, narrowed := true }
def FnExactGoalOfUptoSaid : Prop := fnExactGoalOfUptoRow.holds Try.pinned (OpenSpec.upto fnExactGoalOfSpec)

/-- 'laws.FnExactThroughOf', WHERE WHAT IT READS IS OF BULK AT MOST 1048576: true; the input reads as it did. -/
def fnExactThroughOfUptoRow : OpenClaim := { program := "ytonogadabgilfaa", sum := "b020b564d4a3eb92627da54bb49717e02dc1c267cc09d2b21e2aa5b86eaef818", func := "loop.example/g00664/laws.FnExactThroughOf", spec := "fnExactThroughOf", inPlace := ["internal/bytealg.IndexByteString", "internal/bytealg.IndexString"], unfollowed := true, recurses := true, named := ["internal/bytealg.MaxLen"], apart := false, narrowed := true }
def FnExactThroughOfUptoSaid : Prop := fnExactThroughOfUptoRow.holds Try.pinned (OpenSpec.upto fnExactThroughOfSpec)

/-- 'laws.FnExactMemoryOf', WHERE WHAT IT READS IS OF BULK AT MOST 1048576: true; the input reads as it did. -/
def fnExactMemoryOfUptoRow : OpenClaim := { program := "ytonogadabgilfaa", sum := "b020b564d4a3eb92627da54bb49717e02dc1c267cc09d2b21e2aa5b86eaef818", func := "loop.example/g00664/laws.FnExactMemoryOf", spec := "fnExactMemoryOf", inPlace := ["internal/bytealg.IndexByteString", "internal/bytealg.IndexString"], unfollowed := true, recurses := true, named := ["internal/bytealg.MaxLen"], apart := false, narrowed := true }
def FnExactMemoryOfUptoSaid : Prop := fnExactMemoryOfUptoRow.holds Try.pinned (OpenSpec.upto fnExactMemoryOfSpec)

/-- 'laws.FnExactWritesReg', WHERE WHAT IT READS IS OF BULK AT MOST 1048576: true; the input reads as it did. -/
def fnExactWritesRegUptoRow : OpenClaim := { program := "ytonogadabgilfaa", sum := "b020b564d4a3eb92627da54bb49717e02dc1c267cc09d2b21e2aa5b86eaef818", func := "loop.example/g00664/laws.FnExactWritesReg", spec := "fnExactWritesReg", inPlace := ["internal/bytealg.IndexByteString", "internal/bytealg.IndexString"], unfollowed := true, recurses := true, named := ["internal/bytealg.MaxLen"], apart := false, narrowed := true }
def FnExactWritesRegUptoSaid : Prop := fnExactWritesRegUptoRow.holds Try.pinned (OpenSpec.upto fnExactWritesRegSpec)

/-- 'laws.FnExactTouchOf', WHERE WHAT IT READS IS OF BULK AT MOST 1048576: true; the input reads as it did. -/
def fnExactTouchOfUptoRow : OpenClaim := { program := "ytonogadabgilfaa", sum := "b020b564d4a3eb92627da54bb49717e02dc1c267cc09d2b21e2aa5b86eaef818", func := "loop.example/g00664/laws.FnExactTouchOf", spec := "fnExactTouchOf", inPlace := ["internal/bytealg.IndexByteString", "internal/bytealg.IndexString"], unfollowed := true, recurses := true, named := ["internal/bytealg.MaxLen"], apart := false, narrowed := true }
def FnExactTouchOfUptoSaid : Prop := fnExactTouchOfUptoRow.holds Try.pinned (OpenSpec.upto fnExactTouchOfSpec)

/-- 'laws.FnExactStmtCode', WHERE WHAT IT READS IS OF BULK AT MOST 1048576: true; the input reads as it did. -/
def fnExactStmtCodeUptoRow : OpenClaim := { program := "ytonogadabgilfaa", sum := "b020b564d4a3eb92627da54bb49717e02dc1c267cc09d2b21e2aa5b86eaef818", func := "loop.example/g00664/laws.FnExactStmtCode", spec := "fnExactStmtCode", apart := false, narrowed := true }
def FnExactStmtCodeUptoSaid : Prop := fnExactStmtCodeUptoRow.holds Try.pinned (OpenSpec.upto fnExactStmtCodeSpec)

/-- 'laws.FnStmtCode', WHERE WHAT IT READS IS OF BULK AT MOST 1048576: true; the input reads as it did. -/
def fnStmtCodeUptoRow : OpenClaim := { program := "ytonogadabgilfaa", sum := "b020b564d4a3eb92627da54bb49717e02dc1c267cc09d2b21e2aa5b86eaef818", func := "loop.example/g00664/laws.FnStmtCode", spec := "fnStmtCode", inPlace := ["internal/bytealg.IndexByteString", "internal/bytealg.IndexString", "internal/abi.NoEscape"], unfollowed := true, recurses := true, named := ["internal/bytealg.MaxLen"], apart := false, narrowed := true }
def FnStmtCodeUptoSaid : Prop := fnStmtCodeUptoRow.holds Try.pinned (OpenSpec.upto fnStmtCodeSpec)

/-- 'laws.FnExactDecode', WHERE WHAT IT READS IS OF BULK AT MOST 1048576: true; the input reads as it did. -/
def fnExactDecodeUptoRow : OpenClaim := { program := "ytonogadabgilfaa", sum := "b020b564d4a3eb92627da54bb49717e02dc1c267cc09d2b21e2aa5b86eaef818", func := "loop.example/g00664/laws.FnExactDecode", spec := "fnExactDecode", unfollowed := true, recurses := true, apart := false, narrowed := true }
def FnExactDecodeUptoSaid : Prop := fnExactDecodeUptoRow.holds Try.pinned (OpenSpec.upto fnExactDecodeSpec)

/-- 'laws.FnExactLengthAt', WHERE WHAT IT READS IS OF BULK AT MOST 1048576: true; the input reads as it did. -/
def fnExactLengthAtUptoRow : OpenClaim := { program := "ytonogadabgilfaa", sum := "b020b564d4a3eb92627da54bb49717e02dc1c267cc09d2b21e2aa5b86eaef818", func := "loop.example/g00664/laws.FnExactLengthAt", spec := "fnExactLengthAt", unfollowed := true, recurses := true, apart := false, narrowed := true }
def FnExactLengthAtUptoSaid : Prop := fnExactLengthAtUptoRow.holds Try.pinned (OpenSpec.upto fnExactLengthAtSpec)

/-- 'laws.FnExactDecodeAll', WHERE WHAT IT READS IS OF BULK AT MOST 1048576: true; the input reads as it did. -/
def fnExactDecodeAllUptoRow : OpenClaim := { program := "ytonogadabgilfaa", sum := "b020b564d4a3eb92627da54bb49717e02dc1c267cc09d2b21e2aa5b86eaef818", func := "loop.example/g00664/laws.FnExactDecodeAll", spec := "fnExactDecodeAll", unfollowed := true, recurses := true, apart := false, narrowed := true }
def FnExactDecodeAllUptoSaid : Prop := fnExactDecodeAllUptoRow.holds Try.pinned (OpenSpec.upto fnExactDecodeAllSpec)

end Rows
end Go.Proofs.Ytonogadabgilfaa
