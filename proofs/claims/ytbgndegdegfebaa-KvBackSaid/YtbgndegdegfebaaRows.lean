/-
  No cell of these rows narrows 'for every input' (looked for: loops, veiled, ifaces, maps, wideKeys, modest, calm, conditions, laid).
  DERIVED. THE GIVEN ROWS OF THIS SEAT. 7 by the template 'for every input the law returns true; each argument reads behind the call as it read before'; 0 by the template 'total and deterministic' (their statements: YtbgndegdegfebaaTotals.lean).
  GIVEN WITH THE SEED: the statements are not yours to turn. If you find one false, say at which input.
  Laid BY PROGRAM, IN A SANDBOX (cutbox-rows.mjs): the forced cells as the released guide's own fill.sh prints them over the translation 2d06cd805b7fa984… (all of the seat's roots in one cut). By AI agents, Wed Nov 11 2026. No macro, syntax, notation, axiom, sorry.
-/
import Derived.Test.YtbgndegdegfebaaChecked
import GoSem.Claim
import GoSem.ClaimJoined
import GoSem.ClaimMapViews
import Derived.JoinedTies
import Derived.KernelRfl
namespace Go.Proofs.Ytbgndegdegfebaa
/- THE CELL 'sum', in the pinned program and in every row, IS THE sha256 OF THE DUMP (.gsa) THAT YtbgndegdegfebaaProg.lean LOADS. Nothing in Lean hashes anything: it is a label: what it is worth is what the hold of that sum in a sandbox is worth. -/
noncomputable def Try.pinned : Pinned := { name := "ytbgndegdegfebaa", sum := "2d06cd805b7fa984f34b372fa7030c3cc6ec6a8d2c9520199d977f5e295517dd", checked := Try.checked }
namespace Rows
def none {H : Type} : Left H := { results := [], args := [] }

/-- 'postilionlaw44.LexReads': WHATEVER THE INPUT: true; the input reads as it did. -/
def lexReadsSpec : ChangeSpec := { name := "lexReads", fn := fun _ => fun
  | [d] => { results := [.lit (.bool true)], args := [d] }
  | _ => none }
def lexReadsRow : OpenClaim := { program := "ytbgndegdegfebaa", sum := "2d06cd805b7fa984f34b372fa7030c3cc6ec6a8d2c9520199d977f5e295517dd", func := "postilion/postilionlaw44.LexReads", spec := "lexReads", inPlace := ["internal/bytealg.IndexByteString", "internal/bytealg.CountString", "internal/bytealg.IndexString", "internal/abi.NoEscape", "internal/bytealg.MakeNoZero"], named := ["internal/bytealg.MaxLen"], apart := false }
def LexReadsSaid : Prop := lexReadsRow.holds Try.pinned (OpenSpec.ofChange lexReadsSpec)

/-- ITS FALSE NEIGHBOUR: 'it returns false'. Refute it at one input. -/
def lexReadsWrong : ChangeSpec := { name := "lexReads", fn := fun _ => fun
  | [d] => { results := [.lit (.bool false)], args := [d] }
  | _ => none }
def LexReadsWrongFalsely : Prop := lexReadsRow.holds Try.pinned (OpenSpec.ofChange lexReadsWrong)

/-- 'postilionlaw44.LexPuts': WHATEVER THE INPUT: true; the input reads as it did. -/
def lexPutsSpec : ChangeSpec := { name := "lexPuts", fn := fun _ => fun
  | [d] => { results := [.lit (.bool true)], args := [d] }
  | _ => none }
def lexPutsRow : OpenClaim := { program := "ytbgndegdegfebaa", sum := "2d06cd805b7fa984f34b372fa7030c3cc6ec6a8d2c9520199d977f5e295517dd", func := "postilion/postilionlaw44.LexPuts", spec := "lexPuts", inPlace := ["internal/bytealg.IndexByteString", "internal/bytealg.CountString", "internal/bytealg.IndexString", "internal/abi.NoEscape", "internal/bytealg.MakeNoZero"], named := ["internal/bytealg.MaxLen"], apart := false }
def LexPutsSaid : Prop := lexPutsRow.holds Try.pinned (OpenSpec.ofChange lexPutsSpec)

/-- ITS FALSE NEIGHBOUR: 'it returns false'. Refute it at one input. -/
def lexPutsWrong : ChangeSpec := { name := "lexPuts", fn := fun _ => fun
  | [d] => { results := [.lit (.bool false)], args := [d] }
  | _ => none }
def LexPutsWrongFalsely : Prop := lexPutsRow.holds Try.pinned (OpenSpec.ofChange lexPutsWrong)

/-- 'postilionlaw44.LexBack': WHATEVER THE INPUT: true; the input reads as it did. -/
def lexBackSpec : ChangeSpec := { name := "lexBack", fn := fun _ => fun
  | [d1, d2] => { results := [.lit (.bool true)], args := [d1, d2] }
  | _ => none }
def lexBackRow : OpenClaim := { program := "ytbgndegdegfebaa", sum := "2d06cd805b7fa984f34b372fa7030c3cc6ec6a8d2c9520199d977f5e295517dd", func := "postilion/postilionlaw44.LexBack", spec := "lexBack", inPlace := ["internal/bytealg.IndexByteString", "internal/bytealg.CountString", "internal/bytealg.IndexString", "internal/abi.NoEscape", "internal/bytealg.MakeNoZero"], named := ["internal/bytealg.MaxLen"], apart := false }
def LexBackSaid : Prop := lexBackRow.holds Try.pinned (OpenSpec.ofChange lexBackSpec)

/-- ITS FALSE NEIGHBOUR: 'it returns false'. Refute it at one input. -/
def lexBackWrong : ChangeSpec := { name := "lexBack", fn := fun _ => fun
  | [d1, d2] => { results := [.lit (.bool false)], args := [d1, d2] }
  | _ => none }
def LexBackWrongFalsely : Prop := lexBackRow.holds Try.pinned (OpenSpec.ofChange lexBackWrong)

/-- 'postilionlaw44.LexJoins': WHATEVER THE INPUT: true; the input reads as it did. -/
def lexJoinsSpec : ChangeSpec := { name := "lexJoins", fn := fun _ => fun
  | [d1, d2] => { results := [.lit (.bool true)], args := [d1, d2] }
  | _ => none }
def lexJoinsRow : OpenClaim := { program := "ytbgndegdegfebaa", sum := "2d06cd805b7fa984f34b372fa7030c3cc6ec6a8d2c9520199d977f5e295517dd", func := "postilion/postilionlaw44.LexJoins", spec := "lexJoins", inPlace := ["internal/bytealg.IndexByteString", "internal/bytealg.CountString", "internal/bytealg.IndexString", "internal/abi.NoEscape", "internal/bytealg.MakeNoZero"], named := ["internal/bytealg.MaxLen"], apart := false }
def LexJoinsSaid : Prop := lexJoinsRow.holds Try.pinned (OpenSpec.ofChange lexJoinsSpec)

/-- ITS FALSE NEIGHBOUR: 'it returns false'. Refute it at one input. -/
def lexJoinsWrong : ChangeSpec := { name := "lexJoins", fn := fun _ => fun
  | [d1, d2] => { results := [.lit (.bool false)], args := [d1, d2] }
  | _ => none }
def LexJoinsWrongFalsely : Prop := lexJoinsRow.holds Try.pinned (OpenSpec.ofChange lexJoinsWrong)

/-- 'postilionlaw21.KvTexts': WHATEVER THE INPUT: true; the input reads as it did. -/
def kvTextsSpec : ChangeSpec := { name := "kvTexts", fn := fun _ => fun
  | [d1, d2, d3] => { results := [.lit (.bool true)], args := [d1, d2, d3] }
  | _ => none }
def kvTextsRow : OpenClaim := { program := "ytbgndegdegfebaa", sum := "2d06cd805b7fa984f34b372fa7030c3cc6ec6a8d2c9520199d977f5e295517dd", func := "postilion/postilionlaw21.KvTexts", spec := "kvTexts", inPlace := ["internal/bytealg.abigen_runtime_cmpstring", "slices.overlaps[postilion/api.Pair]", "internal/abi.NoEscape", "internal/bytealg.IndexByteString", "internal/bytealg.IndexString"], unfollowed := true, recurses := true, named := ["internal/bytealg.MaxLen"], apart := false }
def KvTextsSaid : Prop := kvTextsRow.holds Try.pinned (OpenSpec.ofChange kvTextsSpec)

/-- ITS FALSE NEIGHBOUR: 'it returns false'. Refute it at one input. -/
def kvTextsWrong : ChangeSpec := { name := "kvTexts", fn := fun _ => fun
  | [d1, d2, d3] => { results := [.lit (.bool false)], args := [d1, d2, d3] }
  | _ => none }
def KvTextsWrongFalsely : Prop := kvTextsRow.holds Try.pinned (OpenSpec.ofChange kvTextsWrong)

/-- 'postilionlaw21.KvSets': WHATEVER THE INPUT: true; the input reads as it did. -/
def kvSetsSpec : ChangeSpec := { name := "kvSets", fn := fun _ => fun
  | [d1, d2, d3] => { results := [.lit (.bool true)], args := [d1, d2, d3] }
  | _ => none }
def kvSetsRow : OpenClaim := { program := "ytbgndegdegfebaa", sum := "2d06cd805b7fa984f34b372fa7030c3cc6ec6a8d2c9520199d977f5e295517dd", func := "postilion/postilionlaw21.KvSets", spec := "kvSets", inPlace := ["internal/bytealg.abigen_runtime_cmpstring", "slices.overlaps[postilion/api.Pair]", "internal/abi.NoEscape", "internal/bytealg.IndexByteString", "internal/bytealg.IndexString"], unfollowed := true, recurses := true, named := ["internal/bytealg.MaxLen"], apart := false }
def KvSetsSaid : Prop := kvSetsRow.holds Try.pinned (OpenSpec.ofChange kvSetsSpec)

/-- ITS FALSE NEIGHBOUR: 'it returns false'. Refute it at one input. -/
def kvSetsWrong : ChangeSpec := { name := "kvSets", fn := fun _ => fun
  | [d1, d2, d3] => { results := [.lit (.bool false)], args := [d1, d2, d3] }
  | _ => none }
def KvSetsWrongFalsely : Prop := kvSetsRow.holds Try.pinned (OpenSpec.ofChange kvSetsWrong)

/-- 'postilionlaw21.KvBack': WHATEVER THE INPUT: true; the input reads as it did. -/
def kvBackSpec : ChangeSpec := { name := "kvBack", fn := fun _ => fun
  | [d1, d2, d3] => { results := [.lit (.bool true)], args := [d1, d2, d3] }
  | _ => none }
def kvBackRow : OpenClaim := { program := "ytbgndegdegfebaa", sum := "2d06cd805b7fa984f34b372fa7030c3cc6ec6a8d2c9520199d977f5e295517dd", func := "postilion/postilionlaw21.KvBack", spec := "kvBack", inPlace := ["internal/bytealg.abigen_runtime_cmpstring", "slices.overlaps[postilion/api.Pair]", "internal/abi.NoEscape", "internal/bytealg.IndexByteString", "internal/bytealg.IndexString"], unfollowed := true, recurses := true, named := ["internal/bytealg.MaxLen"], apart := false }
def KvBackSaid : Prop := kvBackRow.holds Try.pinned (OpenSpec.ofChange kvBackSpec)

/-- ITS FALSE NEIGHBOUR: 'it returns false'. Refute it at one input. -/
def kvBackWrong : ChangeSpec := { name := "kvBack", fn := fun _ => fun
  | [d1, d2, d3] => { results := [.lit (.bool false)], args := [d1, d2, d3] }
  | _ => none }
def KvBackWrongFalsely : Prop := kvBackRow.holds Try.pinned (OpenSpec.ofChange kvBackWrong)

/- THE SECOND FORM. 'bulk': how many values and letters a reading holds, each counted each time it is reached (what is shared counts as often as it is met; a slice's spare places count too). A statement '..UptoSaid' is the law's where the arguments, and the package variables that the reading takes, are together of bulk at most 1048576: NARROWER than '..Said'. Prove '..Said' where nothing that the law and all that it calls make is longer than what came in: it says more and counts as full. Else prove '..UptoSaid'. A law counts once. -/
mutual
def uptoBulk {H : Type} : DataW H → Nat
  | .lit (.string bytes) => bytes.length + 1
  | .lit _ => 1
  | .nil => 1
  | .ptr d => uptoBulk d + 1
  | .slice elems spare => uptoBulkAll elems + uptoBulkAll spare + 1
  | .agg parts => uptoBulkAll parts + 1
  | .iface _ d => uptoBulk d + 1
  | .map entries => uptoBulkEntries entries + 1
  | .held _ => 1
def uptoBulkAll {H : Type} : List (DataW H) → Nat
  | [] => 0
  | d :: r => uptoBulk d + uptoBulkAll r
def uptoBulkEntries {H : Type} : List (Lit × DataW H) → Nat
  | [] => 0
  | x :: r => uptoBulkEntry x + uptoBulkEntries r
def uptoBulkEntry {H : Type} : Lit × DataW H → Nat
  | (.string bytes, d) => bytes.length + uptoBulk d + 1
  | (_, d) => uptoBulk d + 1
 end
def uptoSmall : (H : Type) → List (DataW H) → Bool := fun _ ds => decide (uptoBulkAll ds ≤ 1048576)
def OpenSpec.upto (s : _root_.Go.ChangeSpec) : _root_.Go.OpenSpec := { _root_.Go.OpenSpec.ofChange s with cond := some uptoSmall }

/-- 'postilionlaw44.LexReads', WHERE WHAT IT READS IS OF BULK AT MOST 1048576: true; the input reads as it did. -/
def lexReadsUptoRow : OpenClaim := { program := "ytbgndegdegfebaa", sum := "2d06cd805b7fa984f34b372fa7030c3cc6ec6a8d2c9520199d977f5e295517dd", func := "postilion/postilionlaw44.LexReads", spec := "lexReads", inPlace := ["internal/bytealg.IndexByteString", "internal/bytealg.CountString", "internal/bytealg.IndexString", "internal/abi.NoEscape", "internal/bytealg.MakeNoZero"], named := ["internal/bytealg.MaxLen"], apart := false, narrowed := true }
def LexReadsUptoSaid : Prop := lexReadsUptoRow.holds Try.pinned (OpenSpec.upto lexReadsSpec)

/-- 'postilionlaw44.LexPuts', WHERE WHAT IT READS IS OF BULK AT MOST 1048576: true; the input reads as it did. -/
def lexPutsUptoRow : OpenClaim := { program := "ytbgndegdegfebaa", sum := "2d06cd805b7fa984f34b372fa7030c3cc6ec6a8d2c9520199d977f5e295517dd", func := "postilion/postilionlaw44.LexPuts", spec := "lexPuts", inPlace := ["internal/bytealg.IndexByteString", "internal/bytealg.CountString", "internal/bytealg.IndexString", "internal/abi.NoEscape", "internal/bytealg.MakeNoZero"], named := ["internal/bytealg.MaxLen"], apart := false, narrowed := true }
def LexPutsUptoSaid : Prop := lexPutsUptoRow.holds Try.pinned (OpenSpec.upto lexPutsSpec)

/-- 'postilionlaw44.LexBack', WHERE WHAT IT READS IS OF BULK AT MOST 1048576: true; the input reads as it did. -/
def lexBackUptoRow : OpenClaim := { program := "ytbgndegdegfebaa", sum := "2d06cd805b7fa984f34b372fa7030c3cc6ec6a8d2c9520199d977f5e295517dd", func := "postilion/postilionlaw44.LexBack", spec := "lexBack", inPlace := ["internal/bytealg.IndexByteString", "internal/bytealg.CountString", "internal/bytealg.IndexString", "internal/abi.NoEscape", "internal/bytealg.MakeNoZero"], named := ["internal/bytealg.MaxLen"], apart := false, narrowed := true }
def LexBackUptoSaid : Prop := lexBackUptoRow.holds Try.pinned (OpenSpec.upto lexBackSpec)

/-- 'postilionlaw44.LexJoins', WHERE WHAT IT READS IS OF BULK AT MOST 1048576: true; the input reads as it did. -/
def lexJoinsUptoRow : OpenClaim := { program := "ytbgndegdegfebaa", sum := "2d06cd805b7fa984f34b372fa7030c3cc6ec6a8d2c9520199d977f5e295517dd", func := "postilion/postilionlaw44.LexJoins", spec := "lexJoins", inPlace := ["internal/bytealg.IndexByteString", "internal/bytealg.CountString", "internal/bytealg.IndexString", "internal/abi.NoEscape", "internal/bytealg.MakeNoZero"], named := ["internal/bytealg.MaxLen"], apart := false, narrowed := true }
def LexJoinsUptoSaid : Prop := lexJoinsUptoRow.holds Try.pinned (OpenSpec.upto lexJoinsSpec)

/-- 'postilionlaw21.KvTexts', WHERE WHAT IT READS IS OF BULK AT MOST 1048576: true; the input reads as it did. -/
def kvTextsUptoRow : OpenClaim := { program := "ytbgndegdegfebaa", sum := "2d06cd805b7fa984f34b372fa7030c3cc6ec6a8d2c9520199d977f5e295517dd", func := "postilion/postilionlaw21.KvTexts", spec := "kvTexts", inPlace := ["internal/bytealg.abigen_runtime_cmpstring", "slices.overlaps[postilion/api.Pair]", "internal/abi.NoEscape", "internal/bytealg.IndexByteString", "internal/bytealg.IndexString"], unfollowed := true, recurses := true, named := ["internal/bytealg.MaxLen"], apart := false, narrowed := true }
def KvTextsUptoSaid : Prop := kvTextsUptoRow.holds Try.pinned (OpenSpec.upto kvTextsSpec)

/-- 'postilionlaw21.KvSets', WHERE WHAT IT READS IS OF BULK AT MOST 1048576: true; the input reads as it did. -/
def kvSetsUptoRow : OpenClaim := { program := "ytbgndegdegfebaa", sum := "2d06cd805b7fa984f34b372fa7030c3cc6ec6a8d2c9520199d977f5e295517dd", func := "postilion/postilionlaw21.KvSets", spec := "kvSets", inPlace := ["internal/bytealg.abigen_runtime_cmpstring", "slices.overlaps[postilion/api.Pair]", "internal/abi.NoEscape", "internal/bytealg.IndexByteString", "internal/bytealg.IndexString"], unfollowed := true, recurses := true, named := ["internal/bytealg.MaxLen"], apart := false, narrowed := true }
def KvSetsUptoSaid : Prop := kvSetsUptoRow.holds Try.pinned (OpenSpec.upto kvSetsSpec)

/-- 'postilionlaw21.KvBack', WHERE WHAT IT READS IS OF BULK AT MOST 1048576: true; the input reads as it did. -/
def kvBackUptoRow : OpenClaim := { program := "ytbgndegdegfebaa", sum := "2d06cd805b7fa984f34b372fa7030c3cc6ec6a8d2c9520199d977f5e295517dd", func := "postilion/postilionlaw21.KvBack", spec := "kvBack", inPlace := ["internal/bytealg.abigen_runtime_cmpstring", "slices.overlaps[postilion/api.Pair]", "internal/abi.NoEscape", "internal/bytealg.IndexByteString", "internal/bytealg.IndexString"], unfollowed := true, recurses := true, named := ["internal/bytealg.MaxLen"], apart := false, narrowed := true }
def KvBackUptoSaid : Prop := kvBackUptoRow.holds Try.pinned (OpenSpec.upto kvBackSpec)

end Rows
end Go.Proofs.Ytbgndegdegfebaa
