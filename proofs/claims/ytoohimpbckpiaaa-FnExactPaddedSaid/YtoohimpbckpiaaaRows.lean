/-
  No cell of these rows narrows 'for every input' (looked for: loops, veiled, ifaces, maps, wideKeys, modest, calm, conditions, laid).
  DERIVED. THE GIVEN ROWS OF THIS SEAT. 12 by the template 'for every input the law returns true; each argument reads behind the call as it read before'; 0 by the template 'total and deterministic' (their statements: YtoohimpbckpiaaaTotals.lean).
  GIVEN WITH THE SEED: the statements are not yours to turn. If you find one false, say at which input.
  Laid BY PROGRAM, IN A SANDBOX (cutbox-rows.mjs): the forced cells as the released guide's own fill.sh prints them over the translation 7bbbad8c4f1bcdef… (all of the seat's roots in one cut). By AI agents, Wed Nov 11 2026. No macro, syntax, notation, axiom, sorry.
-/
import Derived.Test.YtoohimpbckpiaaaChecked
import GoSem.Claim
import GoSem.ClaimJoined
import GoSem.ClaimMapViews
import Derived.JoinedTies
import Derived.KernelRfl
namespace Go.Proofs.Ytoohimpbckpiaaa
/- THE CELL 'sum', in the pinned program and in every row, IS THE sha256 OF THE DUMP (.gsa) THAT YtoohimpbckpiaaaProg.lean LOADS. Nothing in Lean hashes anything: it is a label: what it is worth is what the hold of that sum in a sandbox is worth. -/
noncomputable def Try.pinned : Pinned := { name := "ytoohimpbckpiaaa", sum := "7bbbad8c4f1bcdef4dc2941adcf52473694b6bd635479b54266a09c111726274", checked := Try.checked }
namespace Rows
def none {H : Type} : Left H := { results := [], args := [] }

/-- 'laws.FnExactPrivateByte': WHATEVER THE INPUT: true; the input reads as it did. -/
def fnExactPrivateByteSpec : ChangeSpec := { name := "fnExactPrivateByte", fn := fun _ => fun
  | [d] => { results := [.lit (.bool true)], args := [d] }
  | _ => none }
def fnExactPrivateByteRow : OpenClaim := { program := "ytoohimpbckpiaaa", sum := "7bbbad8c4f1bcdef4dc2941adcf52473694b6bd635479b54266a09c111726274", func := "loop.example/g00664/laws.FnExactPrivateByte", spec := "fnExactPrivateByte", apart := false }
def FnExactPrivateByteSaid : Prop := fnExactPrivateByteRow.holds Try.pinned (OpenSpec.ofChange fnExactPrivateByteSpec)

/-- ITS FALSE NEIGHBOUR: 'it returns false'. Refute it at one input. -/
def fnExactPrivateByteWrong : ChangeSpec := { name := "fnExactPrivateByte", fn := fun _ => fun
  | [d] => { results := [.lit (.bool false)], args := [d] }
  | _ => none }
def FnExactPrivateByteWrongFalsely : Prop := fnExactPrivateByteRow.holds Try.pinned (OpenSpec.ofChange fnExactPrivateByteWrong)

/-- 'laws.FnExactTrampolineOf': WHATEVER THE INPUT: true; the input reads as it did. -/
def fnExactTrampolineOfSpec : ChangeSpec := { name := "fnExactTrampolineOf", fn := fun _ => fun
  | [d] => { results := [.lit (.bool true)], args := [d] }
  | _ => none }
def fnExactTrampolineOfRow : OpenClaim := { program := "ytoohimpbckpiaaa", sum := "7bbbad8c4f1bcdef4dc2941adcf52473694b6bd635479b54266a09c111726274", func := "loop.example/g00664/laws.FnExactTrampolineOf", spec := "fnExactTrampolineOf", apart := false }
def FnExactTrampolineOfSaid : Prop := fnExactTrampolineOfRow.holds Try.pinned (OpenSpec.ofChange fnExactTrampolineOfSpec)

/-- ITS FALSE NEIGHBOUR: 'it returns false'. Refute it at one input. -/
def fnExactTrampolineOfWrong : ChangeSpec := { name := "fnExactTrampolineOf", fn := fun _ => fun
  | [d] => { results := [.lit (.bool false)], args := [d] }
  | _ => none }
def FnExactTrampolineOfWrongFalsely : Prop := fnExactTrampolineOfRow.holds Try.pinned (OpenSpec.ofChange fnExactTrampolineOfWrong)

/-- 'laws.FnExactZoneOf': WHATEVER THE INPUT: true; the input reads as it did. -/
def fnExactZoneOfSpec : ChangeSpec := { name := "fnExactZoneOf", fn := fun _ => fun
  | [d] => { results := [.lit (.bool true)], args := [d] }
  | _ => none }
def fnExactZoneOfRow : OpenClaim := { program := "ytoohimpbckpiaaa", sum := "7bbbad8c4f1bcdef4dc2941adcf52473694b6bd635479b54266a09c111726274", func := "loop.example/g00664/laws.FnExactZoneOf", spec := "fnExactZoneOf", apart := false }
def FnExactZoneOfSaid : Prop := fnExactZoneOfRow.holds Try.pinned (OpenSpec.ofChange fnExactZoneOfSpec)

/-- ITS FALSE NEIGHBOUR: 'it returns false'. Refute it at one input. -/
def fnExactZoneOfWrong : ChangeSpec := { name := "fnExactZoneOf", fn := fun _ => fun
  | [d] => { results := [.lit (.bool false)], args := [d] }
  | _ => none }
def FnExactZoneOfWrongFalsely : Prop := fnExactZoneOfRow.holds Try.pinned (OpenSpec.ofChange fnExactZoneOfWrong)

/-- 'laws.FnExactMasked': WHATEVER THE INPUT: true; the input reads as it did. -/
def fnExactMaskedSpec : ChangeSpec := { name := "fnExactMasked", fn := fun _ => fun
  | [d1, d2] => { results := [.lit (.bool true)], args := [d1, d2] }
  | _ => none }
def fnExactMaskedRow : OpenClaim := { program := "ytoohimpbckpiaaa", sum := "7bbbad8c4f1bcdef4dc2941adcf52473694b6bd635479b54266a09c111726274", func := "loop.example/g00664/laws.FnExactMasked", spec := "fnExactMasked", apart := false }
def FnExactMaskedSaid : Prop := fnExactMaskedRow.holds Try.pinned (OpenSpec.ofChange fnExactMaskedSpec)

/-- ITS FALSE NEIGHBOUR: 'it returns false'. Refute it at one input. -/
def fnExactMaskedWrong : ChangeSpec := { name := "fnExactMasked", fn := fun _ => fun
  | [d1, d2] => { results := [.lit (.bool false)], args := [d1, d2] }
  | _ => none }
def FnExactMaskedWrongFalsely : Prop := fnExactMaskedRow.holds Try.pinned (OpenSpec.ofChange fnExactMaskedWrong)

/-- 'laws.FnExactInside': WHATEVER THE INPUT: true; the input reads as it did. -/
def fnExactInsideSpec : ChangeSpec := { name := "fnExactInside", fn := fun _ => fun
  | [d] => { results := [.lit (.bool true)], args := [d] }
  | _ => none }
def fnExactInsideRow : OpenClaim := { program := "ytoohimpbckpiaaa", sum := "7bbbad8c4f1bcdef4dc2941adcf52473694b6bd635479b54266a09c111726274", func := "loop.example/g00664/laws.FnExactInside", spec := "fnExactInside", unfollowed := true, recurses := true, apart := false }
def FnExactInsideSaid : Prop := fnExactInsideRow.holds Try.pinned (OpenSpec.ofChange fnExactInsideSpec)

/-- ITS FALSE NEIGHBOUR: 'it returns false'. Refute it at one input. -/
def fnExactInsideWrong : ChangeSpec := { name := "fnExactInside", fn := fun _ => fun
  | [d] => { results := [.lit (.bool false)], args := [d] }
  | _ => none }
def FnExactInsideWrongFalsely : Prop := fnExactInsideRow.holds Try.pinned (OpenSpec.ofChange fnExactInsideWrong)

/-- 'laws.FnExactStmtOK': WHATEVER THE INPUT: true; the input reads as it did. -/
def fnExactStmtOKSpec : ChangeSpec := { name := "fnExactStmtOK", fn := fun _ => fun
  | [d] => { results := [.lit (.bool true)], args := [d] }
  | _ => none }
def fnExactStmtOKRow : OpenClaim := { program := "ytoohimpbckpiaaa", sum := "7bbbad8c4f1bcdef4dc2941adcf52473694b6bd635479b54266a09c111726274", func := "loop.example/g00664/laws.FnExactStmtOK", spec := "fnExactStmtOK", apart := false }
def FnExactStmtOKSaid : Prop := fnExactStmtOKRow.holds Try.pinned (OpenSpec.ofChange fnExactStmtOKSpec)

/-- ITS FALSE NEIGHBOUR: 'it returns false'. Refute it at one input. -/
def fnExactStmtOKWrong : ChangeSpec := { name := "fnExactStmtOK", fn := fun _ => fun
  | [d] => { results := [.lit (.bool false)], args := [d] }
  | _ => none }
def FnExactStmtOKWrongFalsely : Prop := fnExactStmtOKRow.holds Try.pinned (OpenSpec.ofChange fnExactStmtOKWrong)

/-- 'laws.FnExactPadded': WHATEVER THE INPUT: true; the input reads as it did. -/
def fnExactPaddedSpec : ChangeSpec := { name := "fnExactPadded", fn := fun _ => fun
  | [d] => { results := [.lit (.bool true)], args := [d] }
  | _ => none }
def fnExactPaddedRow : OpenClaim := { program := "ytoohimpbckpiaaa", sum := "7bbbad8c4f1bcdef4dc2941adcf52473694b6bd635479b54266a09c111726274", func := "loop.example/g00664/laws.FnExactPadded", spec := "fnExactPadded", inPlace := ["internal/abi.NoEscape", "internal/bytealg.MakeNoZero"], apart := false }
def FnExactPaddedSaid : Prop := fnExactPaddedRow.holds Try.pinned (OpenSpec.ofChange fnExactPaddedSpec)

/-- ITS FALSE NEIGHBOUR: 'it returns false'. Refute it at one input. -/
def fnExactPaddedWrong : ChangeSpec := { name := "fnExactPadded", fn := fun _ => fun
  | [d] => { results := [.lit (.bool false)], args := [d] }
  | _ => none }
def FnExactPaddedWrongFalsely : Prop := fnExactPaddedRow.holds Try.pinned (OpenSpec.ofChange fnExactPaddedWrong)

/-- 'laws.FnExactSpanOK': WHATEVER THE INPUT: true; the input reads as it did. -/
def fnExactSpanOKSpec : ChangeSpec := { name := "fnExactSpanOK", fn := fun _ => fun
  | [d1, d2, d3, d4] => { results := [.lit (.bool true)], args := [d1, d2, d3, d4] }
  | _ => none }
def fnExactSpanOKRow : OpenClaim := { program := "ytoohimpbckpiaaa", sum := "7bbbad8c4f1bcdef4dc2941adcf52473694b6bd635479b54266a09c111726274", func := "loop.example/g00664/laws.FnExactSpanOK", spec := "fnExactSpanOK", unfollowed := true, recurses := true, apart := false }
def FnExactSpanOKSaid : Prop := fnExactSpanOKRow.holds Try.pinned (OpenSpec.ofChange fnExactSpanOKSpec)

/-- ITS FALSE NEIGHBOUR: 'it returns false'. Refute it at one input. -/
def fnExactSpanOKWrong : ChangeSpec := { name := "fnExactSpanOK", fn := fun _ => fun
  | [d1, d2, d3, d4] => { results := [.lit (.bool false)], args := [d1, d2, d3, d4] }
  | _ => none }
def FnExactSpanOKWrongFalsely : Prop := fnExactSpanOKRow.holds Try.pinned (OpenSpec.ofChange fnExactSpanOKWrong)

/-- 'laws.FnExactCheckImage': WHATEVER THE INPUT: true; the input reads as it did. -/
def fnExactCheckImageSpec : ChangeSpec := { name := "fnExactCheckImage", fn := fun _ => fun
  | [d] => { results := [.lit (.bool true)], args := [d] }
  | _ => none }
def fnExactCheckImageRow : OpenClaim := { program := "ytoohimpbckpiaaa", sum := "7bbbad8c4f1bcdef4dc2941adcf52473694b6bd635479b54266a09c111726274", func := "loop.example/g00664/laws.FnExactCheckImage", spec := "fnExactCheckImage", unfollowed := true, recurses := true, apart := false }
def FnExactCheckImageSaid : Prop := fnExactCheckImageRow.holds Try.pinned (OpenSpec.ofChange fnExactCheckImageSpec)

/-- ITS FALSE NEIGHBOUR: 'it returns false'. Refute it at one input. -/
def fnExactCheckImageWrong : ChangeSpec := { name := "fnExactCheckImage", fn := fun _ => fun
  | [d] => { results := [.lit (.bool false)], args := [d] }
  | _ => none }
def FnExactCheckImageWrongFalsely : Prop := fnExactCheckImageRow.holds Try.pinned (OpenSpec.ofChange fnExactCheckImageWrong)

/-- 'laws.FnExactImageOK': WHATEVER THE INPUT: true; the input reads as it did. -/
def fnExactImageOKSpec : ChangeSpec := { name := "fnExactImageOK", fn := fun _ => fun
  | [d] => { results := [.lit (.bool true)], args := [d] }
  | _ => none }
def fnExactImageOKRow : OpenClaim := { program := "ytoohimpbckpiaaa", sum := "7bbbad8c4f1bcdef4dc2941adcf52473694b6bd635479b54266a09c111726274", func := "loop.example/g00664/laws.FnExactImageOK", spec := "fnExactImageOK", unfollowed := true, recurses := true, apart := false }
def FnExactImageOKSaid : Prop := fnExactImageOKRow.holds Try.pinned (OpenSpec.ofChange fnExactImageOKSpec)

/-- ITS FALSE NEIGHBOUR: 'it returns false'. Refute it at one input. -/
def fnExactImageOKWrong : ChangeSpec := { name := "fnExactImageOK", fn := fun _ => fun
  | [d] => { results := [.lit (.bool false)], args := [d] }
  | _ => none }
def FnExactImageOKWrongFalsely : Prop := fnExactImageOKRow.holds Try.pinned (OpenSpec.ofChange fnExactImageOKWrong)

/-- 'laws.FnExactPrivateOK': WHATEVER THE INPUT: true; the input reads as it did. -/
def fnExactPrivateOKSpec : ChangeSpec := { name := "fnExactPrivateOK", fn := fun _ => fun
  | [d] => { results := [.lit (.bool true)], args := [d] }
  | _ => none }
def fnExactPrivateOKRow : OpenClaim := { program := "ytoohimpbckpiaaa", sum := "7bbbad8c4f1bcdef4dc2941adcf52473694b6bd635479b54266a09c111726274", func := "loop.example/g00664/laws.FnExactPrivateOK", spec := "fnExactPrivateOK", unfollowed := true, recurses := true, apart := false }
def FnExactPrivateOKSaid : Prop := fnExactPrivateOKRow.holds Try.pinned (OpenSpec.ofChange fnExactPrivateOKSpec)

/-- ITS FALSE NEIGHBOUR: 'it returns false'. Refute it at one input. -/
def fnExactPrivateOKWrong : ChangeSpec := { name := "fnExactPrivateOK", fn := fun _ => fun
  | [d] => { results := [.lit (.bool false)], args := [d] }
  | _ => none }
def FnExactPrivateOKWrongFalsely : Prop := fnExactPrivateOKRow.holds Try.pinned (OpenSpec.ofChange fnExactPrivateOKWrong)

/-- 'laws.FnExactTextOf': WHATEVER THE INPUT: true; the input reads as it did. -/
def fnExactTextOfSpec : ChangeSpec := { name := "fnExactTextOf", fn := fun _ => fun
  | [d] => { results := [.lit (.bool true)], args := [d] }
  | _ => none }
def fnExactTextOfRow : OpenClaim := { program := "ytoohimpbckpiaaa", sum := "7bbbad8c4f1bcdef4dc2941adcf52473694b6bd635479b54266a09c111726274", func := "loop.example/g00664/laws.FnExactTextOf", spec := "fnExactTextOf", unfollowed := true, recurses := true, apart := false }
def FnExactTextOfSaid : Prop := fnExactTextOfRow.holds Try.pinned (OpenSpec.ofChange fnExactTextOfSpec)

/-- ITS FALSE NEIGHBOUR: 'it returns false'. Refute it at one input. -/
def fnExactTextOfWrong : ChangeSpec := { name := "fnExactTextOf", fn := fun _ => fun
  | [d] => { results := [.lit (.bool false)], args := [d] }
  | _ => none }
def FnExactTextOfWrongFalsely : Prop := fnExactTextOfRow.holds Try.pinned (OpenSpec.ofChange fnExactTextOfWrong)

/- THE SECOND FORM. 'bulk': how many values and letters a reading holds, each counted each time it is reached (what is shared counts as often as it is met; a slice's spare places count too). A statement '..UptoSaid' is the law's where the arguments, and the package variables that the reading takes, are together of bulk at most 1048576: NARROWER than '..Said'. Prove '..Said' where nothing that the law and all that it calls make is longer than what came in: it says more and counts as full. Else prove '..UptoSaid'. A law counts once. -/
mutual
def uptoBulk {H : Type} : DataW H → Nat
  | .lit (.string bytes) => bytes.length + 1
  | .lit _ => 1
  | .nil => 1
  | .ptr d => uptoBulk d + 1
  | .slice elems spare => uptoBulkAll elems + uptoBulkAll spare + 1
  | .agg parts => uptoBulkAll parts + 1
  | .iface _ d => uptoBulk d + 1
  | .map entries => uptoBulkEntries entries + 1
  | .held _ => 1
def uptoBulkAll {H : Type} : List (DataW H) → Nat
  | [] => 0
  | d :: r => uptoBulk d + uptoBulkAll r
def uptoBulkEntries {H : Type} : List (Lit × DataW H) → Nat
  | [] => 0
  | x :: r => uptoBulkEntry x + uptoBulkEntries r
def uptoBulkEntry {H : Type} : Lit × DataW H → Nat
  | (.string bytes, d) => bytes.length + uptoBulk d + 1
  | (_, d) => uptoBulk d + 1
 end
def uptoSmall : (H : Type) → List (DataW H) → Bool := fun _ ds => decide (uptoBulkAll ds ≤ 1048576)
def OpenSpec.upto (s : _root_.Go.ChangeSpec) : _root_.Go.OpenSpec := { _root_.Go.OpenSpec.ofChange s with cond := some uptoSmall }

/-- 'laws.FnExactPrivateByte', WHERE WHAT IT READS IS OF BULK AT MOST 1048576: true; the input reads as it did. -/
def fnExactPrivateByteUptoRow : OpenClaim := { program := "ytoohimpbckpiaaa", sum := "7bbbad8c4f1bcdef4dc2941adcf52473694b6bd635479b54266a09c111726274", func := "loop.example/g00664/laws.FnExactPrivateByte", spec := "fnExactPrivateByte", apart := false, narrowed := true }
def FnExactPrivateByteUptoSaid : Prop := fnExactPrivateByteUptoRow.holds Try.pinned (OpenSpec.upto fnExactPrivateByteSpec)

/-- 'laws.FnExactTrampolineOf', WHERE WHAT IT READS IS OF BULK AT MOST 1048576: true; the input reads as it did. -/
def fnExactTrampolineOfUptoRow : OpenClaim := { program := "ytoohimpbckpiaaa", sum := "7bbbad8c4f1bcdef4dc2941adcf52473694b6bd635479b54266a09c111726274", func := "loop.example/g00664/laws.FnExactTrampolineOf", spec := "fnExactTrampolineOf", apart := false, narrowed := true }
def FnExactTrampolineOfUptoSaid : Prop := fnExactTrampolineOfUptoRow.holds Try.pinned (OpenSpec.upto fnExactTrampolineOfSpec)

/-- 'laws.FnExactZoneOf', WHERE WHAT IT READS IS OF BULK AT MOST 1048576: true; the input reads as it did. -/
def fnExactZoneOfUptoRow : OpenClaim := { program := "ytoohimpbckpiaaa", sum := "7bbbad8c4f1bcdef4dc2941adcf52473694b6bd635479b54266a09c111726274", func := "loop.example/g00664/laws.FnExactZoneOf", spec := "fnExactZoneOf", apart := false, narrowed := true }
def FnExactZoneOfUptoSaid : Prop := fnExactZoneOfUptoRow.holds Try.pinned (OpenSpec.upto fnExactZoneOfSpec)

/-- 'laws.FnExactMasked', WHERE WHAT IT READS IS OF BULK AT MOST 1048576: true; the input reads as it did. -/
def fnExactMaskedUptoRow : OpenClaim := { program := "ytoohimpbckpiaaa", sum := "7bbbad8c4f1bcdef4dc2941adcf52473694b6bd635479b54266a09c111726274", func := "loop.example/g00664/laws.FnExactMasked", spec := "fnExactMasked", apart := false, narrowed := true }
def FnExactMaskedUptoSaid : Prop := fnExactMaskedUptoRow.holds Try.pinned (OpenSpec.upto fnExactMaskedSpec)

/-- 'laws.FnExactInside', WHERE WHAT IT READS IS OF BULK AT MOST 1048576: true; the input reads as it did. -/
def fnExactInsideUptoRow : OpenClaim := { program := "ytoohimpbckpiaaa", sum := "7bbbad8c4f1bcdef4dc2941adcf52473694b6bd635479b54266a09c111726274", func := "loop.example/g00664/laws.FnExactInside", spec := "fnExactInside", unfollowed := true, recurses := true, apart := false, narrowed := true }
def FnExactInsideUptoSaid : Prop := fnExactInsideUptoRow.holds Try.pinned (OpenSpec.upto fnExactInsideSpec)

/-- 'laws.FnExactStmtOK', WHERE WHAT IT READS IS OF BULK AT MOST 1048576: true; the input reads as it did. -/
def fnExactStmtOKUptoRow : OpenClaim := { program := "ytoohimpbckpiaaa", sum := "7bbbad8c4f1bcdef4dc2941adcf52473694b6bd635479b54266a09c111726274", func := "loop.example/g00664/laws.FnExactStmtOK", spec := "fnExactStmtOK", apart := false, narrowed := true }
def FnExactStmtOKUptoSaid : Prop := fnExactStmtOKUptoRow.holds Try.pinned (OpenSpec.upto fnExactStmtOKSpec)

/-- 'laws.FnExactPadded', WHERE WHAT IT READS IS OF BULK AT MOST 1048576: true; the input reads as it did. -/
def fnExactPaddedUptoRow : OpenClaim := { program := "ytoohimpbckpiaaa", sum := "7bbbad8c4f1bcdef4dc2941adcf52473694b6bd635479b54266a09c111726274", func := "loop.example/g00664/laws.FnExactPadded", spec := "fnExactPadded", inPlace := ["internal/abi.NoEscape", "internal/bytealg.MakeNoZero"], apart := false, narrowed := true }
def FnExactPaddedUptoSaid : Prop := fnExactPaddedUptoRow.holds Try.pinned (OpenSpec.upto fnExactPaddedSpec)

/-- 'laws.FnExactSpanOK', WHERE WHAT IT READS IS OF BULK AT MOST 1048576: true; the input reads as it did. -/
def fnExactSpanOKUptoRow : OpenClaim := { program := "ytoohimpbckpiaaa", sum := "7bbbad8c4f1bcdef4dc2941adcf52473694b6bd635479b54266a09c111726274", func := "loop.example/g00664/laws.FnExactSpanOK", spec := "fnExactSpanOK", unfollowed := true, recurses := true, apart := false, narrowed := true }
def FnExactSpanOKUptoSaid : Prop := fnExactSpanOKUptoRow.holds Try.pinned (OpenSpec.upto fnExactSpanOKSpec)

/-- 'laws.FnExactCheckImage', WHERE WHAT IT READS IS OF BULK AT MOST 1048576: true; the input reads as it did. -/
def fnExactCheckImageUptoRow : OpenClaim := { program := "ytoohimpbckpiaaa", sum := "7bbbad8c4f1bcdef4dc2941adcf52473694b6bd635479b54266a09c111726274", func := "loop.example/g00664/laws.FnExactCheckImage", spec := "fnExactCheckImage", unfollowed := true, recurses := true, apart := false, narrowed := true }
def FnExactCheckImageUptoSaid : Prop := fnExactCheckImageUptoRow.holds Try.pinned (OpenSpec.upto fnExactCheckImageSpec)

/-- 'laws.FnExactImageOK', WHERE WHAT IT READS IS OF BULK AT MOST 1048576: true; the input reads as it did. -/
def fnExactImageOKUptoRow : OpenClaim := { program := "ytoohimpbckpiaaa", sum := "7bbbad8c4f1bcdef4dc2941adcf52473694b6bd635479b54266a09c111726274", func := "loop.example/g00664/laws.FnExactImageOK", spec := "fnExactImageOK", unfollowed := true, recurses := true, apart := false, narrowed := true }
def FnExactImageOKUptoSaid : Prop := fnExactImageOKUptoRow.holds Try.pinned (OpenSpec.upto fnExactImageOKSpec)

/-- 'laws.FnExactPrivateOK', WHERE WHAT IT READS IS OF BULK AT MOST 1048576: true; the input reads as it did. -/
def fnExactPrivateOKUptoRow : OpenClaim := { program := "ytoohimpbckpiaaa", sum := "7bbbad8c4f1bcdef4dc2941adcf52473694b6bd635479b54266a09c111726274", func := "loop.example/g00664/laws.FnExactPrivateOK", spec := "fnExactPrivateOK", unfollowed := true, recurses := true, apart := false, narrowed := true }
def FnExactPrivateOKUptoSaid : Prop := fnExactPrivateOKUptoRow.holds Try.pinned (OpenSpec.upto fnExactPrivateOKSpec)

/-- 'laws.FnExactTextOf', WHERE WHAT IT READS IS OF BULK AT MOST 1048576: true; the input reads as it did. -/
def fnExactTextOfUptoRow : OpenClaim := { program := "ytoohimpbckpiaaa", sum := "7bbbad8c4f1bcdef4dc2941adcf52473694b6bd635479b54266a09c111726274", func := "loop.example/g00664/laws.FnExactTextOf", spec := "fnExactTextOf", unfollowed := true, recurses := true, apart := false, narrowed := true }
def FnExactTextOfUptoSaid : Prop := fnExactTextOfUptoRow.holds Try.pinned (OpenSpec.upto fnExactTextOfSpec)

end Rows
end Go.Proofs.Ytoohimpbckpiaaa
