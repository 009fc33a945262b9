/-
  No cell of these rows narrows 'for every input' (looked for: loops, veiled, ifaces, maps, wideKeys, modest, calm, conditions, laid).
  DERIVED. THE GIVEN ROWS OF THIS SEAT. 6 by the template 'for every input the law returns true; each argument reads behind the call as it read before'; 0 by the template 'total and deterministic' (their statements: YtnjmkkgmlkhjeaaTotals.lean).
  GIVEN WITH THE SEED: the statements are not yours to turn. If you find one false, say at which input.
  Laid BY PROGRAM, IN A SANDBOX (cutbox-rows.mjs): the forced cells as the released guide's own fill.sh prints them over the translation 06125d7b6118ee3c… (all of the seat's roots in one cut). By AI agents, Wed Nov 11 2026. No macro, syntax, notation, axiom, sorry.
-/
import Derived.Test.YtnjmkkgmlkhjeaaChecked
import GoSem.Claim
import GoSem.ClaimJoined
import GoSem.ClaimMapViews
import Derived.JoinedTies
import Derived.KernelRfl
namespace Go.Proofs.Ytnjmkkgmlkhjeaa
/- THE CELL 'sum', in the pinned program and in every row, IS THE sha256 OF THE DUMP (.gsa) THAT YtnjmkkgmlkhjeaaProg.lean LOADS. Nothing in Lean hashes anything: it is a label: what it is worth is what the hold of that sum in a sandbox is worth. -/
noncomputable def Try.pinned : Pinned := { name := "ytnjmkkgmlkhjeaa", sum := "06125d7b6118ee3cfe06bed48376da2e1ea89a7cd3edb72702efdaecd5ccf018", checked := Try.checked }
namespace Rows
def none {H : Type} : Left H := { results := [], args := [] }

/-- 'laws.FnExactStmtCode': WHATEVER THE INPUT: true; the input reads as it did. -/
def fnExactStmtCodeSpec : ChangeSpec := { name := "fnExactStmtCode", fn := fun _ => fun
  | [d] => { results := [.lit (.bool true)], args := [d] }
  | _ => none }
def fnExactStmtCodeRow : OpenClaim := { program := "ytnjmkkgmlkhjeaa", sum := "06125d7b6118ee3cfe06bed48376da2e1ea89a7cd3edb72702efdaecd5ccf018", func := "loop.example/g00664/laws.FnExactStmtCode", spec := "fnExactStmtCode", apart := false }
def FnExactStmtCodeSaid : Prop := fnExactStmtCodeRow.holds Try.pinned (OpenSpec.ofChange fnExactStmtCodeSpec)

/-- ITS FALSE NEIGHBOUR: 'it returns false'. Refute it at one input. -/
def fnExactStmtCodeWrong : ChangeSpec := { name := "fnExactStmtCode", fn := fun _ => fun
  | [d] => { results := [.lit (.bool false)], args := [d] }
  | _ => none }
def FnExactStmtCodeWrongFalsely : Prop := fnExactStmtCodeRow.holds Try.pinned (OpenSpec.ofChange fnExactStmtCodeWrong)

/-- 'laws.FnExactLengthAt': WHATEVER THE INPUT: true; the input reads as it did. -/
def fnExactLengthAtSpec : ChangeSpec := { name := "fnExactLengthAt", fn := fun _ => fun
  | [d1, d2] => { results := [.lit (.bool true)], args := [d1, d2] }
  | _ => none }
def fnExactLengthAtRow : OpenClaim := { program := "ytnjmkkgmlkhjeaa", sum := "06125d7b6118ee3cfe06bed48376da2e1ea89a7cd3edb72702efdaecd5ccf018", func := "loop.example/g00664/laws.FnExactLengthAt", spec := "fnExactLengthAt", unfollowed := true, recurses := true, apart := false }
def FnExactLengthAtSaid : Prop := fnExactLengthAtRow.holds Try.pinned (OpenSpec.ofChange fnExactLengthAtSpec)

/-- ITS FALSE NEIGHBOUR: 'it returns false'. Refute it at one input. -/
def fnExactLengthAtWrong : ChangeSpec := { name := "fnExactLengthAt", fn := fun _ => fun
  | [d1, d2] => { results := [.lit (.bool false)], args := [d1, d2] }
  | _ => none }
def FnExactLengthAtWrongFalsely : Prop := fnExactLengthAtRow.holds Try.pinned (OpenSpec.ofChange fnExactLengthAtWrong)

/-- 'laws.FnExactDecode': WHATEVER THE INPUT: true; the input reads as it did. -/
def fnExactDecodeSpec : ChangeSpec := { name := "fnExactDecode", fn := fun _ => fun
  | [d1, d2] => { results := [.lit (.bool true)], args := [d1, d2] }
  | _ => none }
def fnExactDecodeRow : OpenClaim := { program := "ytnjmkkgmlkhjeaa", sum := "06125d7b6118ee3cfe06bed48376da2e1ea89a7cd3edb72702efdaecd5ccf018", func := "loop.example/g00664/laws.FnExactDecode", spec := "fnExactDecode", unfollowed := true, recurses := true, apart := false }
def FnExactDecodeSaid : Prop := fnExactDecodeRow.holds Try.pinned (OpenSpec.ofChange fnExactDecodeSpec)

/-- ITS FALSE NEIGHBOUR: 'it returns false'. Refute it at one input. -/
def fnExactDecodeWrong : ChangeSpec := { name := "fnExactDecode", fn := fun _ => fun
  | [d1, d2] => { results := [.lit (.bool false)], args := [d1, d2] }
  | _ => none }
def FnExactDecodeWrongFalsely : Prop := fnExactDecodeRow.holds Try.pinned (OpenSpec.ofChange fnExactDecodeWrong)

/-- 'laws.FnExactDecodeAll': WHATEVER THE INPUT: true; the input reads as it did. -/
def fnExactDecodeAllSpec : ChangeSpec := { name := "fnExactDecodeAll", fn := fun _ => fun
  | [d] => { results := [.lit (.bool true)], args := [d] }
  | _ => none }
def fnExactDecodeAllRow : OpenClaim := { program := "ytnjmkkgmlkhjeaa", sum := "06125d7b6118ee3cfe06bed48376da2e1ea89a7cd3edb72702efdaecd5ccf018", func := "loop.example/g00664/laws.FnExactDecodeAll", spec := "fnExactDecodeAll", unfollowed := true, recurses := true, apart := false }
def FnExactDecodeAllSaid : Prop := fnExactDecodeAllRow.holds Try.pinned (OpenSpec.ofChange fnExactDecodeAllSpec)

/-- ITS FALSE NEIGHBOUR: 'it returns false'. Refute it at one input. -/
def fnExactDecodeAllWrong : ChangeSpec := { name := "fnExactDecodeAll", fn := fun _ => fun
  | [d] => { results := [.lit (.bool false)], args := [d] }
  | _ => none }
def FnExactDecodeAllWrongFalsely : Prop := fnExactDecodeAllRow.holds Try.pinned (OpenSpec.ofChange fnExactDecodeAllWrong)

/-- 'laws.FnExactWritesReg': WHATEVER THE INPUT: true; the input reads as it did. -/
def fnExactWritesRegSpec : ChangeSpec := { name := "fnExactWritesReg", fn := fun _ => fun
  | [d1, d2] => { results := [.lit (.bool true)], args := [d1, d2] }
  | _ => none }
def fnExactWritesRegRow : OpenClaim := { program := "ytnjmkkgmlkhjeaa", sum := "06125d7b6118ee3cfe06bed48376da2e1ea89a7cd3edb72702efdaecd5ccf018", func := "loop.example/g00664/laws.FnExactWritesReg", spec := "fnExactWritesReg", inPlace := ["internal/bytealg.IndexByteString", "internal/bytealg.IndexString"], unfollowed := true, recurses := true, named := ["internal/bytealg.MaxLen"], apart := false }
def FnExactWritesRegSaid : Prop := fnExactWritesRegRow.holds Try.pinned (OpenSpec.ofChange fnExactWritesRegSpec)

/-- ITS FALSE NEIGHBOUR: 'it returns false'. Refute it at one input. -/
def fnExactWritesRegWrong : ChangeSpec := { name := "fnExactWritesReg", fn := fun _ => fun
  | [d1, d2] => { results := [.lit (.bool false)], args := [d1, d2] }
  | _ => none }
def FnExactWritesRegWrongFalsely : Prop := fnExactWritesRegRow.holds Try.pinned (OpenSpec.ofChange fnExactWritesRegWrong)

/-- 'laws.FnExactTouchOf': WHATEVER THE INPUT: true; the input reads as it did. -/
def fnExactTouchOfSpec : ChangeSpec := { name := "fnExactTouchOf", fn := fun _ => fun
  | [d] => { results := [.lit (.bool true)], args := [d] }
  | _ => none }
def fnExactTouchOfRow : OpenClaim := { program := "ytnjmkkgmlkhjeaa", sum := "06125d7b6118ee3cfe06bed48376da2e1ea89a7cd3edb72702efdaecd5ccf018", func := "loop.example/g00664/laws.FnExactTouchOf", spec := "fnExactTouchOf", inPlace := ["internal/bytealg.IndexByteString", "internal/bytealg.IndexString"], unfollowed := true, recurses := true, named := ["internal/bytealg.MaxLen"], apart := false }
def FnExactTouchOfSaid : Prop := fnExactTouchOfRow.holds Try.pinned (OpenSpec.ofChange fnExactTouchOfSpec)

/-- ITS FALSE NEIGHBOUR: 'it returns false'. Refute it at one input. -/
def fnExactTouchOfWrong : ChangeSpec := { name := "fnExactTouchOf", fn := fun _ => fun
  | [d] => { results := [.lit (.bool false)], args := [d] }
  | _ => none }
def FnExactTouchOfWrongFalsely : Prop := fnExactTouchOfRow.holds Try.pinned (OpenSpec.ofChange fnExactTouchOfWrong)

/- THE SECOND FORM. 'bulk': how many values and letters a reading holds, each counted each time it is reached (what is shared counts as often as it is met; a slice's spare places count too). A statement '..UptoSaid' is the law's where the arguments, and the package variables that the reading takes, are together of bulk at most 1048576: NARROWER than '..Said'. Prove '..Said' where nothing that the law and all that it calls make is longer than what came in: it says more and counts as full. Else prove '..UptoSaid'. A law counts once. -/
mutual
def uptoBulk {H : Type} : DataW H → Nat
  | .lit (.string bytes) => bytes.length + 1
  | .lit _ => 1
  | .nil => 1
  | .ptr d => uptoBulk d + 1
  | .slice elems spare => uptoBulkAll elems + uptoBulkAll spare + 1
  | .agg parts => uptoBulkAll parts + 1
  | .iface _ d => uptoBulk d + 1
  | .map entries => uptoBulkEntries entries + 1
  | .held _ => 1
def uptoBulkAll {H : Type} : List (DataW H) → Nat
  | [] => 0
  | d :: r => uptoBulk d + uptoBulkAll r
def uptoBulkEntries {H : Type} : List (Lit × DataW H) → Nat
  | [] => 0
  | x :: r => uptoBulkEntry x + uptoBulkEntries r
def uptoBulkEntry {H : Type} : Lit × DataW H → Nat
  | (.string bytes, d) => bytes.length + uptoBulk d + 1
  | (_, d) => uptoBulk d + 1
 end
def uptoSmall : (H : Type) → List (DataW H) → Bool := fun _ ds => decide (uptoBulkAll ds ≤ 1048576)
def OpenSpec.upto (s : _root_.Go.ChangeSpec) : _root_.Go.OpenSpec := { _root_.Go.OpenSpec.ofChange s with cond := some uptoSmall }

/-- 'laws.FnExactStmtCode', WHERE WHAT IT READS IS OF BULK AT MOST 1048576: true; the input reads as it did. -/
def fnExactStmtCodeUptoRow : OpenClaim := { program := "ytnjmkkgmlkhjeaa", sum := "06125d7b6118ee3cfe06bed48376da2e1ea89a7cd3edb72702efdaecd5ccf018", func := "loop.example/g00664/laws.FnExactStmtCode", spec := "fnExactStmtCode", apart := false, narrowed := true }
def FnExactStmtCodeUptoSaid : Prop := fnExactStmtCodeUptoRow.holds Try.pinned (OpenSpec.upto fnExactStmtCodeSpec)

/-- 'laws.FnExactLengthAt', WHERE WHAT IT READS IS OF BULK AT MOST 1048576: true; the input reads as it did. -/
def fnExactLengthAtUptoRow : OpenClaim := { program := "ytnjmkkgmlkhjeaa", sum := "06125d7b6118ee3cfe06bed48376da2e1ea89a7cd3edb72702efdaecd5ccf018", func := "loop.example/g00664/laws.FnExactLengthAt", spec := "fnExactLengthAt", unfollowed := true, recurses := true, apart := false, narrowed := true }
def FnExactLengthAtUptoSaid : Prop := fnExactLengthAtUptoRow.holds Try.pinned (OpenSpec.upto fnExactLengthAtSpec)

/-- 'laws.FnExactDecode', WHERE WHAT IT READS IS OF BULK AT MOST 1048576: true; the input reads as it did. -/
def fnExactDecodeUptoRow : OpenClaim := { program := "ytnjmkkgmlkhjeaa", sum := "06125d7b6118ee3cfe06bed48376da2e1ea89a7cd3edb72702efdaecd5ccf018", func := "loop.example/g00664/laws.FnExactDecode", spec := "fnExactDecode", unfollowed := true, recurses := true, apart := false, narrowed := true }
def FnExactDecodeUptoSaid : Prop := fnExactDecodeUptoRow.holds Try.pinned (OpenSpec.upto fnExactDecodeSpec)

/-- 'laws.FnExactDecodeAll', WHERE WHAT IT READS IS OF BULK AT MOST 1048576: true; the input reads as it did. -/
def fnExactDecodeAllUptoRow : OpenClaim := { program := "ytnjmkkgmlkhjeaa", sum := "06125d7b6118ee3cfe06bed48376da2e1ea89a7cd3edb72702efdaecd5ccf018", func := "loop.example/g00664/laws.FnExactDecodeAll", spec := "fnExactDecodeAll", unfollowed := true, recurses := true, apart := false, narrowed := true }
def FnExactDecodeAllUptoSaid : Prop := fnExactDecodeAllUptoRow.holds Try.pinned (OpenSpec.upto fnExactDecodeAllSpec)

/-- 'laws.FnExactWritesReg', WHERE WHAT IT READS IS OF BULK AT MOST 1048576: true; the input reads as it did. -/
def fnExactWritesRegUptoRow : OpenClaim := { program := "ytnjmkkgmlkhjeaa", sum := "06125d7b6118ee3cfe06bed48376da2e1ea89a7cd3edb72702efdaecd5ccf018", func := "loop.example/g00664/laws.FnExactWritesReg", spec := "fnExactWritesReg", inPlace := ["internal/bytealg.IndexByteString", "internal/bytealg.IndexString"], unfollowed := true, recurses := true, named := ["internal/bytealg.MaxLen"], apart := false, narrowed := true }
def FnExactWritesRegUptoSaid : Prop := fnExactWritesRegUptoRow.holds Try.pinned (OpenSpec.upto fnExactWritesRegSpec)

/-- 'laws.FnExactTouchOf', WHERE WHAT IT READS IS OF BULK AT MOST 1048576: true; the input reads as it did. -/
def fnExactTouchOfUptoRow : OpenClaim := { program := "ytnjmkkgmlkhjeaa", sum := "06125d7b6118ee3cfe06bed48376da2e1ea89a7cd3edb72702efdaecd5ccf018", func := "loop.example/g00664/laws.FnExactTouchOf", spec := "fnExactTouchOf", inPlace := ["internal/bytealg.IndexByteString", "internal/bytealg.IndexString"], unfollowed := true, recurses := true, named := ["internal/bytealg.MaxLen"], apart := false, narrowed := true }
def FnExactTouchOfUptoSaid : Prop := fnExactTouchOfUptoRow.holds Try.pinned (OpenSpec.upto fnExactTouchOfSpec)

end Rows
end Go.Proofs.Ytnjmkkgmlkhjeaa
