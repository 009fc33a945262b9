/-
  No cell of these rows narrows 'for every input' (looked for: loops, veiled, ifaces, maps, wideKeys, modest, calm, conditions, laid).
  DERIVED. THE GIVEN ROWS OF THIS SEAT. 12 by the template 'for every input the law returns true; each argument reads behind the call as it read before'; 0 by the template 'total and deterministic' (their statements: YtigoabhkdipdeaaTotals.lean).
  GIVEN WITH THE SEED: the statements are not yours to turn. If you find one false, say at which input.
  Laid BY PROGRAM, IN A SANDBOX (cutbox-rows.mjs): the forced cells as the released guide's own fill.sh prints them over the translation bcc3d9dac30ee152… (all of the seat's roots in one cut). By AI agents, Wed Nov 11 2026. No macro, syntax, notation, axiom, sorry.
-/
import Derived.Test.YtigoabhkdipdeaaChecked
import GoSem.Claim
import GoSem.ClaimJoined
import GoSem.ClaimMapViews
import Derived.JoinedTies
import Derived.KernelRfl
namespace Go.Proofs.Ytigoabhkdipdeaa
/- THE CELL 'sum', in the pinned program and in every row, IS THE sha256 OF THE DUMP (.gsa) THAT YtigoabhkdipdeaaProg.lean LOADS. Nothing in Lean hashes anything: it is a label: what it is worth is what the hold of that sum in a sandbox is worth. -/
noncomputable def Try.pinned : Pinned := { name := "ytigoabhkdipdeaa", sum := "bcc3d9dac30ee152bc06abae164aef0fb3bb57a0764a4fee2865bdd5f87494b5", checked := Try.checked }
namespace Rows
def none {H : Type} : Left H := { results := [], args := [] }

/-- 'laws.FnExactSameImage': WHATEVER THE INPUT: true; the input reads as it did. -/
def fnExactSameImageSpec : ChangeSpec := { name := "fnExactSameImage", fn := fun _ => fun
  | [d1, d2] => { results := [.lit (.bool true)], args := [d1, d2] }
  | _ => none }
def fnExactSameImageRow : OpenClaim := { program := "ytigoabhkdipdeaa", sum := "bcc3d9dac30ee152bc06abae164aef0fb3bb57a0764a4fee2865bdd5f87494b5", func := "loop.example/g00664/laws.FnExactSameImage", spec := "fnExactSameImage", unfollowed := true, recurses := true, apart := false }
def FnExactSameImageSaid : Prop := fnExactSameImageRow.holds Try.pinned (OpenSpec.ofChange fnExactSameImageSpec)

/-- ITS FALSE NEIGHBOUR: 'it returns false'. Refute it at one input. -/
def fnExactSameImageWrong : ChangeSpec := { name := "fnExactSameImage", fn := fun _ => fun
  | [d1, d2] => { results := [.lit (.bool false)], args := [d1, d2] }
  | _ => none }
def FnExactSameImageWrongFalsely : Prop := fnExactSameImageRow.holds Try.pinned (OpenSpec.ofChange fnExactSameImageWrong)

/-- 'laws.FnExactBoxOK': WHATEVER THE INPUT: true; the input reads as it did. -/
def fnExactBoxOKSpec : ChangeSpec := { name := "fnExactBoxOK", fn := fun _ => fun
  | [d] => { results := [.lit (.bool true)], args := [d] }
  | _ => none }
def fnExactBoxOKRow : OpenClaim := { program := "ytigoabhkdipdeaa", sum := "bcc3d9dac30ee152bc06abae164aef0fb3bb57a0764a4fee2865bdd5f87494b5", func := "loop.example/g00664/laws.FnExactBoxOK", spec := "fnExactBoxOK", apart := false }
def FnExactBoxOKSaid : Prop := fnExactBoxOKRow.holds Try.pinned (OpenSpec.ofChange fnExactBoxOKSpec)

/-- ITS FALSE NEIGHBOUR: 'it returns false'. Refute it at one input. -/
def fnExactBoxOKWrong : ChangeSpec := { name := "fnExactBoxOK", fn := fun _ => fun
  | [d] => { results := [.lit (.bool false)], args := [d] }
  | _ => none }
def FnExactBoxOKWrongFalsely : Prop := fnExactBoxOKRow.holds Try.pinned (OpenSpec.ofChange fnExactBoxOKWrong)

/-- 'laws.FnExactStoreAt': WHATEVER THE INPUT: true; the input reads as it did. -/
def fnExactStoreAtSpec : ChangeSpec := { name := "fnExactStoreAt", fn := fun _ => fun
  | [d1, d2, d3, d4] => { results := [.lit (.bool true)], args := [d1, d2, d3, d4] }
  | _ => none }
def fnExactStoreAtRow : OpenClaim := { program := "ytigoabhkdipdeaa", sum := "bcc3d9dac30ee152bc06abae164aef0fb3bb57a0764a4fee2865bdd5f87494b5", func := "loop.example/g00664/laws.FnExactStoreAt", spec := "fnExactStoreAt", unfollowed := true, recurses := true, apart := false }
def FnExactStoreAtSaid : Prop := fnExactStoreAtRow.holds Try.pinned (OpenSpec.ofChange fnExactStoreAtSpec)

/-- ITS FALSE NEIGHBOUR: 'it returns false'. Refute it at one input. -/
def fnExactStoreAtWrong : ChangeSpec := { name := "fnExactStoreAt", fn := fun _ => fun
  | [d1, d2, d3, d4] => { results := [.lit (.bool false)], args := [d1, d2, d3, d4] }
  | _ => none }
def FnExactStoreAtWrongFalsely : Prop := fnExactStoreAtRow.holds Try.pinned (OpenSpec.ofChange fnExactStoreAtWrong)

/-- 'laws.FnExactSameBox': WHATEVER THE INPUT: true; the input reads as it did. -/
def fnExactSameBoxSpec : ChangeSpec := { name := "fnExactSameBox", fn := fun _ => fun
  | [d1, d2] => { results := [.lit (.bool true)], args := [d1, d2] }
  | _ => none }
def fnExactSameBoxRow : OpenClaim := { program := "ytigoabhkdipdeaa", sum := "bcc3d9dac30ee152bc06abae164aef0fb3bb57a0764a4fee2865bdd5f87494b5", func := "loop.example/g00664/laws.FnExactSameBox", spec := "fnExactSameBox", apart := false }
def FnExactSameBoxSaid : Prop := fnExactSameBoxRow.holds Try.pinned (OpenSpec.ofChange fnExactSameBoxSpec)

/-- ITS FALSE NEIGHBOUR: 'it returns false'. Refute it at one input. -/
def fnExactSameBoxWrong : ChangeSpec := { name := "fnExactSameBox", fn := fun _ => fun
  | [d1, d2] => { results := [.lit (.bool false)], args := [d1, d2] }
  | _ => none }
def FnExactSameBoxWrongFalsely : Prop := fnExactSameBoxRow.holds Try.pinned (OpenSpec.ofChange fnExactSameBoxWrong)

/-- 'laws.FnExactNewBox': WHATEVER THE INPUT: true; the input reads as it did. -/
def fnExactNewBoxSpec : ChangeSpec := { name := "fnExactNewBox", fn := fun _ => fun
  | [d1, d2, d3] => { results := [.lit (.bool true)], args := [d1, d2, d3] }
  | _ => none }
def fnExactNewBoxRow : OpenClaim := { program := "ytigoabhkdipdeaa", sum := "bcc3d9dac30ee152bc06abae164aef0fb3bb57a0764a4fee2865bdd5f87494b5", func := "loop.example/g00664/laws.FnExactNewBox", spec := "fnExactNewBox", apart := false }
def FnExactNewBoxSaid : Prop := fnExactNewBoxRow.holds Try.pinned (OpenSpec.ofChange fnExactNewBoxSpec)

/-- ITS FALSE NEIGHBOUR: 'it returns false'. Refute it at one input. -/
def fnExactNewBoxWrong : ChangeSpec := { name := "fnExactNewBox", fn := fun _ => fun
  | [d1, d2, d3] => { results := [.lit (.bool false)], args := [d1, d2, d3] }
  | _ => none }
def FnExactNewBoxWrongFalsely : Prop := fnExactNewBoxRow.holds Try.pinned (OpenSpec.ofChange fnExactNewBoxWrong)

/-- 'laws.FnExactAnswer': WHATEVER THE INPUT: true; the input reads as it did. -/
def fnExactAnswerSpec : ChangeSpec := { name := "fnExactAnswer", fn := fun _ => fun
  | [d1, d2] => { results := [.lit (.bool true)], args := [d1, d2] }
  | _ => none }
def fnExactAnswerRow : OpenClaim := { program := "ytigoabhkdipdeaa", sum := "bcc3d9dac30ee152bc06abae164aef0fb3bb57a0764a4fee2865bdd5f87494b5", func := "loop.example/g00664/laws.FnExactAnswer", spec := "fnExactAnswer", inPlace := ["internal/abi.NoEscape", "internal/bytealg.MakeNoZero", "slices.overlaps[loop.example/g00664/impl.Page]"], unfollowed := true, recurses := true, apart := false }
def FnExactAnswerSaid : Prop := fnExactAnswerRow.holds Try.pinned (OpenSpec.ofChange fnExactAnswerSpec)

/-- ITS FALSE NEIGHBOUR: 'it returns false'. Refute it at one input. -/
def fnExactAnswerWrong : ChangeSpec := { name := "fnExactAnswer", fn := fun _ => fun
  | [d1, d2] => { results := [.lit (.bool false)], args := [d1, d2] }
  | _ => none }
def FnExactAnswerWrongFalsely : Prop := fnExactAnswerRow.holds Try.pinned (OpenSpec.ofChange fnExactAnswerWrong)

/-- 'laws.FnExactMapImage': WHATEVER THE INPUT: true; the input reads as it did. -/
def fnExactMapImageSpec : ChangeSpec := { name := "fnExactMapImage", fn := fun _ => fun
  | [d] => { results := [.lit (.bool true)], args := [d] }
  | _ => none }
def fnExactMapImageRow : OpenClaim := { program := "ytigoabhkdipdeaa", sum := "bcc3d9dac30ee152bc06abae164aef0fb3bb57a0764a4fee2865bdd5f87494b5", func := "loop.example/g00664/laws.FnExactMapImage", spec := "fnExactMapImage", inPlace := ["slices.overlaps[loop.example/g00664/impl.Page]", "internal/abi.NoEscape", "internal/bytealg.MakeNoZero"], unfollowed := true, recurses := true, apart := false }
def FnExactMapImageSaid : Prop := fnExactMapImageRow.holds Try.pinned (OpenSpec.ofChange fnExactMapImageSpec)

/-- ITS FALSE NEIGHBOUR: 'it returns false'. Refute it at one input. -/
def fnExactMapImageWrong : ChangeSpec := { name := "fnExactMapImage", fn := fun _ => fun
  | [d] => { results := [.lit (.bool false)], args := [d] }
  | _ => none }
def FnExactMapImageWrongFalsely : Prop := fnExactMapImageRow.holds Try.pinned (OpenSpec.ofChange fnExactMapImageWrong)

/-- 'laws.FnExactElfText': WHATEVER THE INPUT: true; the input reads as it did. -/
def fnExactElfTextSpec : ChangeSpec := { name := "fnExactElfText", fn := fun _ => fun
  | [d] => { results := [.lit (.bool true)], args := [d] }
  | _ => none }
def fnExactElfTextRow : OpenClaim := { program := "ytigoabhkdipdeaa", sum := "bcc3d9dac30ee152bc06abae164aef0fb3bb57a0764a4fee2865bdd5f87494b5", func := "loop.example/g00664/laws.FnExactElfText", spec := "fnExactElfText", inPlace := ["internal/abi.NoEscape", "internal/bytealg.MakeNoZero"], unfollowed := true, recurses := true, apart := false }
def FnExactElfTextSaid : Prop := fnExactElfTextRow.holds Try.pinned (OpenSpec.ofChange fnExactElfTextSpec)

/-- ITS FALSE NEIGHBOUR: 'it returns false'. Refute it at one input. -/
def fnExactElfTextWrong : ChangeSpec := { name := "fnExactElfText", fn := fun _ => fun
  | [d] => { results := [.lit (.bool false)], args := [d] }
  | _ => none }
def FnExactElfTextWrongFalsely : Prop := fnExactElfTextRow.holds Try.pinned (OpenSpec.ofChange fnExactElfTextWrong)

/-- 'laws.FnExactReadElf': WHATEVER THE INPUT: true; the input reads as it did. -/
def fnExactReadElfSpec : ChangeSpec := { name := "fnExactReadElf", fn := fun _ => fun
  | [d] => { results := [.lit (.bool true)], args := [d] }
  | _ => none }
def fnExactReadElfRow : OpenClaim := { program := "ytigoabhkdipdeaa", sum := "bcc3d9dac30ee152bc06abae164aef0fb3bb57a0764a4fee2865bdd5f87494b5", func := "loop.example/g00664/laws.FnExactReadElf", spec := "fnExactReadElf", inPlace := ["internal/abi.NoEscape", "internal/bytealg.MakeNoZero"], unfollowed := true, recurses := true, apart := false }
def FnExactReadElfSaid : Prop := fnExactReadElfRow.holds Try.pinned (OpenSpec.ofChange fnExactReadElfSpec)

/-- ITS FALSE NEIGHBOUR: 'it returns false'. Refute it at one input. -/
def fnExactReadElfWrong : ChangeSpec := { name := "fnExactReadElf", fn := fun _ => fun
  | [d] => { results := [.lit (.bool false)], args := [d] }
  | _ => none }
def FnExactReadElfWrongFalsely : Prop := fnExactReadElfRow.holds Try.pinned (OpenSpec.ofChange fnExactReadElfWrong)

/-- 'laws.FnLogic': WHATEVER THE INPUT: true; the input reads as it did. -/
def fnLogicSpec : ChangeSpec := { name := "fnLogic", fn := fun _ => fun
  | [d1, d2] => { results := [.lit (.bool true)], args := [d1, d2] }
  | _ => none }
def fnLogicRow : OpenClaim := { program := "ytigoabhkdipdeaa", sum := "bcc3d9dac30ee152bc06abae164aef0fb3bb57a0764a4fee2865bdd5f87494b5", func := "loop.example/g00664/laws.FnLogic", spec := "fnLogic", inPlace := ["math/bits.Add64", "math/bits.Sub64"], apart := false }
def FnLogicSaid : Prop := fnLogicRow.holds Try.pinned (OpenSpec.ofChange fnLogicSpec)

/-- ITS FALSE NEIGHBOUR: 'it returns false'. Refute it at one input. -/
def fnLogicWrong : ChangeSpec := { name := "fnLogic", fn := fun _ => fun
  | [d1, d2] => { results := [.lit (.bool false)], args := [d1, d2] }
  | _ => none }
def FnLogicWrongFalsely : Prop := fnLogicRow.holds Try.pinned (OpenSpec.ofChange fnLogicWrong)

/-- 'laws.FnAdd': WHATEVER THE INPUT: true; the input reads as it did. -/
def fnAddSpec : ChangeSpec := { name := "fnAdd", fn := fun _ => fun
  | [d1, d2] => { results := [.lit (.bool true)], args := [d1, d2] }
  | _ => none }
def fnAddRow : OpenClaim := { program := "ytigoabhkdipdeaa", sum := "bcc3d9dac30ee152bc06abae164aef0fb3bb57a0764a4fee2865bdd5f87494b5", func := "loop.example/g00664/laws.FnAdd", spec := "fnAdd", inPlace := ["math/bits.Add64", "math/bits.Sub64"], unfollowed := true, recurses := true, apart := false }
def FnAddSaid : Prop := fnAddRow.holds Try.pinned (OpenSpec.ofChange fnAddSpec)

/-- ITS FALSE NEIGHBOUR: 'it returns false'. Refute it at one input. -/
def fnAddWrong : ChangeSpec := { name := "fnAdd", fn := fun _ => fun
  | [d1, d2] => { results := [.lit (.bool false)], args := [d1, d2] }
  | _ => none }
def FnAddWrongFalsely : Prop := fnAddRow.holds Try.pinned (OpenSpec.ofChange fnAddWrong)

/-- 'laws.FnProducts': WHATEVER THE INPUT: true; the input reads as it did. -/
def fnProductsSpec : ChangeSpec := { name := "fnProducts", fn := fun _ => fun
  | [d1, d2] => { results := [.lit (.bool true)], args := [d1, d2] }
  | _ => none }
def fnProductsRow : OpenClaim := { program := "ytigoabhkdipdeaa", sum := "bcc3d9dac30ee152bc06abae164aef0fb3bb57a0764a4fee2865bdd5f87494b5", func := "loop.example/g00664/laws.FnProducts", spec := "fnProducts", inPlace := ["math/bits.Sub64"], named := ["math/bits.divideError", "math/bits.overflowError"], apart := false }
def FnProductsSaid : Prop := fnProductsRow.holds Try.pinned (OpenSpec.ofChange fnProductsSpec)

/-- ITS FALSE NEIGHBOUR: 'it returns false'. Refute it at one input. -/
def fnProductsWrong : ChangeSpec := { name := "fnProducts", fn := fun _ => fun
  | [d1, d2] => { results := [.lit (.bool false)], args := [d1, d2] }
  | _ => none }
def FnProductsWrongFalsely : Prop := fnProductsRow.holds Try.pinned (OpenSpec.ofChange fnProductsWrong)

/- THE SECOND FORM. 'bulk': how many values and letters a reading holds, each counted each time it is reached (what is shared counts as often as it is met; a slice's spare places count too). A statement '..UptoSaid' is the law's where the arguments, and the package variables that the reading takes, are together of bulk at most 1048576: NARROWER than '..Said'. Prove '..Said' where nothing that the law and all that it calls make is longer than what came in: it says more and counts as full. Else prove '..UptoSaid'. A law counts once. -/
mutual
def uptoBulk {H : Type} : DataW H → Nat
  | .lit (.string bytes) => bytes.length + 1
  | .lit _ => 1
  | .nil => 1
  | .ptr d => uptoBulk d + 1
  | .slice elems spare => uptoBulkAll elems + uptoBulkAll spare + 1
  | .agg parts => uptoBulkAll parts + 1
  | .iface _ d => uptoBulk d + 1
  | .map entries => uptoBulkEntries entries + 1
  | .held _ => 1
def uptoBulkAll {H : Type} : List (DataW H) → Nat
  | [] => 0
  | d :: r => uptoBulk d + uptoBulkAll r
def uptoBulkEntries {H : Type} : List (Lit × DataW H) → Nat
  | [] => 0
  | x :: r => uptoBulkEntry x + uptoBulkEntries r
def uptoBulkEntry {H : Type} : Lit × DataW H → Nat
  | (.string bytes, d) => bytes.length + uptoBulk d + 1
  | (_, d) => uptoBulk d + 1
 end
def uptoSmall : (H : Type) → List (DataW H) → Bool := fun _ ds => decide (uptoBulkAll ds ≤ 1048576)
def OpenSpec.upto (s : _root_.Go.ChangeSpec) : _root_.Go.OpenSpec := { _root_.Go.OpenSpec.ofChange s with cond := some uptoSmall }

/-- 'laws.FnExactSameImage', WHERE WHAT IT READS IS OF BULK AT MOST 1048576: true; the input reads as it did. -/
def fnExactSameImageUptoRow : OpenClaim := { program := "ytigoabhkdipdeaa", sum := "bcc3d9dac30ee152bc06abae164aef0fb3bb57a0764a4fee2865bdd5f87494b5", func := "loop.example/g00664/laws.FnExactSameImage", spec := "fnExactSameImage", unfollowed := true, recurses := true, apart := false, narrowed := true }
def FnExactSameImageUptoSaid : Prop := fnExactSameImageUptoRow.holds Try.pinned (OpenSpec.upto fnExactSameImageSpec)

/-- 'laws.FnExactBoxOK', WHERE WHAT IT READS IS OF BULK AT MOST 1048576: true; the input reads as it did. -/
def fnExactBoxOKUptoRow : OpenClaim := { program := "ytigoabhkdipdeaa", sum := "bcc3d9dac30ee152bc06abae164aef0fb3bb57a0764a4fee2865bdd5f87494b5", func := "loop.example/g00664/laws.FnExactBoxOK", spec := "fnExactBoxOK", apart := false, narrowed := true }
def FnExactBoxOKUptoSaid : Prop := fnExactBoxOKUptoRow.holds Try.pinned (OpenSpec.upto fnExactBoxOKSpec)

/-- 'laws.FnExactStoreAt', WHERE WHAT IT READS IS OF BULK AT MOST 1048576: true; the input reads as it did. -/
def fnExactStoreAtUptoRow : OpenClaim := { program := "ytigoabhkdipdeaa", sum := "bcc3d9dac30ee152bc06abae164aef0fb3bb57a0764a4fee2865bdd5f87494b5", func := "loop.example/g00664/laws.FnExactStoreAt", spec := "fnExactStoreAt", unfollowed := true, recurses := true, apart := false, narrowed := true }
def FnExactStoreAtUptoSaid : Prop := fnExactStoreAtUptoRow.holds Try.pinned (OpenSpec.upto fnExactStoreAtSpec)

/-- 'laws.FnExactSameBox', WHERE WHAT IT READS IS OF BULK AT MOST 1048576: true; the input reads as it did. -/
def fnExactSameBoxUptoRow : OpenClaim := { program := "ytigoabhkdipdeaa", sum := "bcc3d9dac30ee152bc06abae164aef0fb3bb57a0764a4fee2865bdd5f87494b5", func := "loop.example/g00664/laws.FnExactSameBox", spec := "fnExactSameBox", apart := false, narrowed := true }
def FnExactSameBoxUptoSaid : Prop := fnExactSameBoxUptoRow.holds Try.pinned (OpenSpec.upto fnExactSameBoxSpec)

/-- 'laws.FnExactNewBox', WHERE WHAT IT READS IS OF BULK AT MOST 1048576: true; the input reads as it did. -/
def fnExactNewBoxUptoRow : OpenClaim := { program := "ytigoabhkdipdeaa", sum := "bcc3d9dac30ee152bc06abae164aef0fb3bb57a0764a4fee2865bdd5f87494b5", func := "loop.example/g00664/laws.FnExactNewBox", spec := "fnExactNewBox", apart := false, narrowed := true }
def FnExactNewBoxUptoSaid : Prop := fnExactNewBoxUptoRow.holds Try.pinned (OpenSpec.upto fnExactNewBoxSpec)

/-- 'laws.FnExactAnswer', WHERE WHAT IT READS IS OF BULK AT MOST 1048576: true; the input reads as it did. -/
def fnExactAnswerUptoRow : OpenClaim := { program := "ytigoabhkdipdeaa", sum := "bcc3d9dac30ee152bc06abae164aef0fb3bb57a0764a4fee2865bdd5f87494b5", func := "loop.example/g00664/laws.FnExactAnswer", spec := "fnExactAnswer", inPlace := ["internal/abi.NoEscape", "internal/bytealg.MakeNoZero", "slices.overlaps[loop.example/g00664/impl.Page]"], unfollowed := true, recurses := true, apart := false, narrowed := true }
def FnExactAnswerUptoSaid : Prop := fnExactAnswerUptoRow.holds Try.pinned (OpenSpec.upto fnExactAnswerSpec)

/-- 'laws.FnExactMapImage', WHERE WHAT IT READS IS OF BULK AT MOST 1048576: true; the input reads as it did. -/
def fnExactMapImageUptoRow : OpenClaim := { program := "ytigoabhkdipdeaa", sum := "bcc3d9dac30ee152bc06abae164aef0fb3bb57a0764a4fee2865bdd5f87494b5", func := "loop.example/g00664/laws.FnExactMapImage", spec := "fnExactMapImage", inPlace := ["slices.overlaps[loop.example/g00664/impl.Page]", "internal/abi.NoEscape", "internal/bytealg.MakeNoZero"], unfollowed := true, recurses := true, apart := false, narrowed := true }
def FnExactMapImageUptoSaid : Prop := fnExactMapImageUptoRow.holds Try.pinned (OpenSpec.upto fnExactMapImageSpec)

/-- 'laws.FnExactElfText', WHERE WHAT IT READS IS OF BULK AT MOST 1048576: true; the input reads as it did. -/
def fnExactElfTextUptoRow : OpenClaim := { program := "ytigoabhkdipdeaa", sum := "bcc3d9dac30ee152bc06abae164aef0fb3bb57a0764a4fee2865bdd5f87494b5", func := "loop.example/g00664/laws.FnExactElfText", spec := "fnExactElfText", inPlace := ["internal/abi.NoEscape", "internal/bytealg.MakeNoZero"], unfollowed := true, recurses := true, apart := false, narrowed := true }
def FnExactElfTextUptoSaid : Prop := fnExactElfTextUptoRow.holds Try.pinned (OpenSpec.upto fnExactElfTextSpec)

/-- 'laws.FnExactReadElf', WHERE WHAT IT READS IS OF BULK AT MOST 1048576: true; the input reads as it did. -/
def fnExactReadElfUptoRow : OpenClaim := { program := "ytigoabhkdipdeaa", sum := "bcc3d9dac30ee152bc06abae164aef0fb3bb57a0764a4fee2865bdd5f87494b5", func := "loop.example/g00664/laws.FnExactReadElf", spec := "fnExactReadElf", inPlace := ["internal/abi.NoEscape", "internal/bytealg.MakeNoZero"], unfollowed := true, recurses := true, apart := false, narrowed := true }
def FnExactReadElfUptoSaid : Prop := fnExactReadElfUptoRow.holds Try.pinned (OpenSpec.upto fnExactReadElfSpec)

/-- 'laws.FnLogic', WHERE WHAT IT READS IS OF BULK AT MOST 1048576: true; the input reads as it did. -/
def fnLogicUptoRow : OpenClaim := { program := "ytigoabhkdipdeaa", sum := "bcc3d9dac30ee152bc06abae164aef0fb3bb57a0764a4fee2865bdd5f87494b5", func := "loop.example/g00664/laws.FnLogic", spec := "fnLogic", inPlace := ["math/bits.Add64", "math/bits.Sub64"], apart := false, narrowed := true }
def FnLogicUptoSaid : Prop := fnLogicUptoRow.holds Try.pinned (OpenSpec.upto fnLogicSpec)

/-- 'laws.FnAdd', WHERE WHAT IT READS IS OF BULK AT MOST 1048576: true; the input reads as it did. -/
def fnAddUptoRow : OpenClaim := { program := "ytigoabhkdipdeaa", sum := "bcc3d9dac30ee152bc06abae164aef0fb3bb57a0764a4fee2865bdd5f87494b5", func := "loop.example/g00664/laws.FnAdd", spec := "fnAdd", inPlace := ["math/bits.Add64", "math/bits.Sub64"], unfollowed := true, recurses := true, apart := false, narrowed := true }
def FnAddUptoSaid : Prop := fnAddUptoRow.holds Try.pinned (OpenSpec.upto fnAddSpec)

/-- 'laws.FnProducts', WHERE WHAT IT READS IS OF BULK AT MOST 1048576: true; the input reads as it did. -/
def fnProductsUptoRow : OpenClaim := { program := "ytigoabhkdipdeaa", sum := "bcc3d9dac30ee152bc06abae164aef0fb3bb57a0764a4fee2865bdd5f87494b5", func := "loop.example/g00664/laws.FnProducts", spec := "fnProducts", inPlace := ["math/bits.Sub64"], named := ["math/bits.divideError", "math/bits.overflowError"], apart := false, narrowed := true }
def FnProductsUptoSaid : Prop := fnProductsUptoRow.holds Try.pinned (OpenSpec.upto fnProductsSpec)

end Rows
end Go.Proofs.Ytigoabhkdipdeaa
