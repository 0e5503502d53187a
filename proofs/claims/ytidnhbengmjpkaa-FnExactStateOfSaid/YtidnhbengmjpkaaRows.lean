/-
  No cell of these rows narrows 'for every input' (looked for: loops, veiled, ifaces, maps, wideKeys, modest, calm, conditions, laid).
  DERIVED. THE GIVEN ROWS OF THIS SEAT. 8 by the template 'for every input the law returns true; each argument reads behind the call as it read before'; 0 by the template 'total and deterministic' (their statements: YtidnhbengmjpkaaTotals.lean).
  GIVEN WITH THE SEED: the statements are not yours to turn. If you find one false, say at which input.
  Laid BY PROGRAM, IN A SANDBOX (cutbox-rows.mjs): the forced cells as the released guide's own fill.sh prints them over the translation 15572ac640bafc01… (all of the seat's roots in one cut). By AI agents, Wed Nov 11 2026. No macro, syntax, notation, axiom, sorry.
-/
import Derived.Test.YtidnhbengmjpkaaChecked
import GoSem.Claim
import GoSem.ClaimJoined
import GoSem.ClaimMapViews
import Derived.JoinedTies
import Derived.KernelRfl
namespace Go.Proofs.Ytidnhbengmjpkaa
/- THE CELL 'sum', in the pinned program and in every row, IS THE sha256 OF THE DUMP (.gsa) THAT YtidnhbengmjpkaaProg.lean LOADS. Nothing in Lean hashes anything: it is a label: what it is worth is what the hold of that sum in a sandbox is worth. -/
noncomputable def Try.pinned : Pinned := { name := "ytidnhbengmjpkaa", sum := "15572ac640bafc01c0401462d12faaf0d78f6f7219cad7700575eee38bec6859", checked := Try.checked }
namespace Rows
def none {H : Type} : Left H := { results := [], args := [] }

/-- 'laws.FnExactDotNumbers': WHATEVER THE INPUT: true; the input reads as it did. -/
def fnExactDotNumbersSpec : ChangeSpec := { name := "fnExactDotNumbers", fn := fun _ => fun
  | [d1, d2] => { results := [.lit (.bool true)], args := [d1, d2] }
  | _ => none }
def fnExactDotNumbersRow : OpenClaim := { program := "ytidnhbengmjpkaa", sum := "15572ac640bafc01c0401462d12faaf0d78f6f7219cad7700575eee38bec6859", func := "loop.example/g01403/laws.FnExactDotNumbers", spec := "fnExactDotNumbers", apart := false }
def FnExactDotNumbersSaid : Prop := fnExactDotNumbersRow.holds Try.pinned (OpenSpec.ofChange fnExactDotNumbersSpec)

/-- ITS FALSE NEIGHBOUR: 'it returns false'. Refute it at one input. -/
def fnExactDotNumbersWrong : ChangeSpec := { name := "fnExactDotNumbers", fn := fun _ => fun
  | [d1, d2] => { results := [.lit (.bool false)], args := [d1, d2] }
  | _ => none }
def FnExactDotNumbersWrongFalsely : Prop := fnExactDotNumbersRow.holds Try.pinned (OpenSpec.ofChange fnExactDotNumbersWrong)

/-- 'laws.FnExactSumNumbers': WHATEVER THE INPUT: true; the input reads as it did. -/
def fnExactSumNumbersSpec : ChangeSpec := { name := "fnExactSumNumbers", fn := fun _ => fun
  | [d] => { results := [.lit (.bool true)], args := [d] }
  | _ => none }
def fnExactSumNumbersRow : OpenClaim := { program := "ytidnhbengmjpkaa", sum := "15572ac640bafc01c0401462d12faaf0d78f6f7219cad7700575eee38bec6859", func := "loop.example/g01403/laws.FnExactSumNumbers", spec := "fnExactSumNumbers", apart := false }
def FnExactSumNumbersSaid : Prop := fnExactSumNumbersRow.holds Try.pinned (OpenSpec.ofChange fnExactSumNumbersSpec)

/-- ITS FALSE NEIGHBOUR: 'it returns false'. Refute it at one input. -/
def fnExactSumNumbersWrong : ChangeSpec := { name := "fnExactSumNumbers", fn := fun _ => fun
  | [d] => { results := [.lit (.bool false)], args := [d] }
  | _ => none }
def FnExactSumNumbersWrongFalsely : Prop := fnExactSumNumbersRow.holds Try.pinned (OpenSpec.ofChange fnExactSumNumbersWrong)

/-- 'laws.FnExactOverlapOf': WHATEVER THE INPUT: true; the input reads as it did. -/
def fnExactOverlapOfSpec : ChangeSpec := { name := "fnExactOverlapOf", fn := fun _ => fun
  | [d1, d2] => { results := [.lit (.bool true)], args := [d1, d2] }
  | _ => none }
def fnExactOverlapOfRow : OpenClaim := { program := "ytidnhbengmjpkaa", sum := "15572ac640bafc01c0401462d12faaf0d78f6f7219cad7700575eee38bec6859", func := "loop.example/g01403/laws.FnExactOverlapOf", spec := "fnExactOverlapOf", unfollowed := true, recurses := true, apart := false }
def FnExactOverlapOfSaid : Prop := fnExactOverlapOfRow.holds Try.pinned (OpenSpec.ofChange fnExactOverlapOfSpec)

/-- ITS FALSE NEIGHBOUR: 'it returns false'. Refute it at one input. -/
def fnExactOverlapOfWrong : ChangeSpec := { name := "fnExactOverlapOf", fn := fun _ => fun
  | [d1, d2] => { results := [.lit (.bool false)], args := [d1, d2] }
  | _ => none }
def FnExactOverlapOfWrongFalsely : Prop := fnExactOverlapOfRow.holds Try.pinned (OpenSpec.ofChange fnExactOverlapOfWrong)

/-- 'laws.FnExactSwingLevels': WHATEVER THE INPUT: true; the input reads as it did. -/
def fnExactSwingLevelsSpec : ChangeSpec := { name := "fnExactSwingLevels", fn := fun _ => fun
  | [d1, d2] => { results := [.lit (.bool true)], args := [d1, d2] }
  | _ => none }
def fnExactSwingLevelsRow : OpenClaim := { program := "ytidnhbengmjpkaa", sum := "15572ac640bafc01c0401462d12faaf0d78f6f7219cad7700575eee38bec6859", func := "loop.example/g01403/laws.FnExactSwingLevels", spec := "fnExactSwingLevels", unfollowed := true, recurses := true, apart := false }
def FnExactSwingLevelsSaid : Prop := fnExactSwingLevelsRow.holds Try.pinned (OpenSpec.ofChange fnExactSwingLevelsSpec)

/-- ITS FALSE NEIGHBOUR: 'it returns false'. Refute it at one input. -/
def fnExactSwingLevelsWrong : ChangeSpec := { name := "fnExactSwingLevels", fn := fun _ => fun
  | [d1, d2] => { results := [.lit (.bool false)], args := [d1, d2] }
  | _ => none }
def FnExactSwingLevelsWrongFalsely : Prop := fnExactSwingLevelsRow.holds Try.pinned (OpenSpec.ofChange fnExactSwingLevelsWrong)

/-- 'laws.FnExactBoxLevels': WHATEVER THE INPUT: true; the input reads as it did. -/
def fnExactBoxLevelsSpec : ChangeSpec := { name := "fnExactBoxLevels", fn := fun _ => fun
  | [d1, d2] => { results := [.lit (.bool true)], args := [d1, d2] }
  | _ => none }
def fnExactBoxLevelsRow : OpenClaim := { program := "ytidnhbengmjpkaa", sum := "15572ac640bafc01c0401462d12faaf0d78f6f7219cad7700575eee38bec6859", func := "loop.example/g01403/laws.FnExactBoxLevels", spec := "fnExactBoxLevels", unfollowed := true, recurses := true, apart := false }
def FnExactBoxLevelsSaid : Prop := fnExactBoxLevelsRow.holds Try.pinned (OpenSpec.ofChange fnExactBoxLevelsSpec)

/-- ITS FALSE NEIGHBOUR: 'it returns false'. Refute it at one input. -/
def fnExactBoxLevelsWrong : ChangeSpec := { name := "fnExactBoxLevels", fn := fun _ => fun
  | [d1, d2] => { results := [.lit (.bool false)], args := [d1, d2] }
  | _ => none }
def FnExactBoxLevelsWrongFalsely : Prop := fnExactBoxLevelsRow.holds Try.pinned (OpenSpec.ofChange fnExactBoxLevelsWrong)

/-- 'laws.FnExactBendLevels': WHATEVER THE INPUT: true; the input reads as it did. -/
def fnExactBendLevelsSpec : ChangeSpec := { name := "fnExactBendLevels", fn := fun _ => fun
  | [d1, d2] => { results := [.lit (.bool true)], args := [d1, d2] }
  | _ => none }
def fnExactBendLevelsRow : OpenClaim := { program := "ytidnhbengmjpkaa", sum := "15572ac640bafc01c0401462d12faaf0d78f6f7219cad7700575eee38bec6859", func := "loop.example/g01403/laws.FnExactBendLevels", spec := "fnExactBendLevels", unfollowed := true, recurses := true, apart := false }
def FnExactBendLevelsSaid : Prop := fnExactBendLevelsRow.holds Try.pinned (OpenSpec.ofChange fnExactBendLevelsSpec)

/-- ITS FALSE NEIGHBOUR: 'it returns false'. Refute it at one input. -/
def fnExactBendLevelsWrong : ChangeSpec := { name := "fnExactBendLevels", fn := fun _ => fun
  | [d1, d2] => { results := [.lit (.bool false)], args := [d1, d2] }
  | _ => none }
def FnExactBendLevelsWrongFalsely : Prop := fnExactBendLevelsRow.holds Try.pinned (OpenSpec.ofChange fnExactBendLevelsWrong)

/-- 'laws.FnExactCountBelow': WHATEVER THE INPUT: true; the input reads as it did. -/
def fnExactCountBelowSpec : ChangeSpec := { name := "fnExactCountBelow", fn := fun _ => fun
  | [d1, d2, d3] => { results := [.lit (.bool true)], args := [d1, d2, d3] }
  | _ => none }
def fnExactCountBelowRow : OpenClaim := { program := "ytidnhbengmjpkaa", sum := "15572ac640bafc01c0401462d12faaf0d78f6f7219cad7700575eee38bec6859", func := "loop.example/g01403/laws.FnExactCountBelow", spec := "fnExactCountBelow", unfollowed := true, recurses := true, apart := false }
def FnExactCountBelowSaid : Prop := fnExactCountBelowRow.holds Try.pinned (OpenSpec.ofChange fnExactCountBelowSpec)

/-- ITS FALSE NEIGHBOUR: 'it returns false'. Refute it at one input. -/
def fnExactCountBelowWrong : ChangeSpec := { name := "fnExactCountBelow", fn := fun _ => fun
  | [d1, d2, d3] => { results := [.lit (.bool false)], args := [d1, d2, d3] }
  | _ => none }
def FnExactCountBelowWrongFalsely : Prop := fnExactCountBelowRow.holds Try.pinned (OpenSpec.ofChange fnExactCountBelowWrong)

/-- 'laws.FnExactStateOf': WHATEVER THE INPUT: true; the input reads as it did. -/
def fnExactStateOfSpec : ChangeSpec := { name := "fnExactStateOf", fn := fun _ => fun
  | [d1, d2, d3, d4] => { results := [.lit (.bool true)], args := [d1, d2, d3, d4] }
  | _ => none }
def fnExactStateOfRow : OpenClaim := { program := "ytidnhbengmjpkaa", sum := "15572ac640bafc01c0401462d12faaf0d78f6f7219cad7700575eee38bec6859", func := "loop.example/g01403/laws.FnExactStateOf", spec := "fnExactStateOf", inPlace := ["math.sqrt"], unfollowed := true, recurses := true, apart := false }
def FnExactStateOfSaid : Prop := fnExactStateOfRow.holds Try.pinned (OpenSpec.ofChange fnExactStateOfSpec)

/-- ITS FALSE NEIGHBOUR: 'it returns false'. Refute it at one input. -/
def fnExactStateOfWrong : ChangeSpec := { name := "fnExactStateOf", fn := fun _ => fun
  | [d1, d2, d3, d4] => { results := [.lit (.bool false)], args := [d1, d2, d3, d4] }
  | _ => none }
def FnExactStateOfWrongFalsely : Prop := fnExactStateOfRow.holds Try.pinned (OpenSpec.ofChange fnExactStateOfWrong)

/- THE SECOND FORM. 'bulk': how many values and letters a reading holds, each counted each time it is reached (what is shared counts as often as it is met; a slice's spare places count too). A statement '..UptoSaid' is the law's where the arguments, and the package variables that the reading takes, are together of bulk at most 1048576: NARROWER than '..Said'. Prove '..Said' where nothing that the law and all that it calls make is longer than what came in: it says more and counts as full. Else prove '..UptoSaid'. A law counts once. -/
mutual
def uptoBulk {H : Type} : DataW H → Nat
  | .lit (.string bytes) => bytes.length + 1
  | .lit _ => 1
  | .nil => 1
  | .ptr d => uptoBulk d + 1
  | .slice elems spare => uptoBulkAll elems + uptoBulkAll spare + 1
  | .agg parts => uptoBulkAll parts + 1
  | .iface _ d => uptoBulk d + 1
  | .map entries => uptoBulkEntries entries + 1
  | .held _ => 1
def uptoBulkAll {H : Type} : List (DataW H) → Nat
  | [] => 0
  | d :: r => uptoBulk d + uptoBulkAll r
def uptoBulkEntries {H : Type} : List (Lit × DataW H) → Nat
  | [] => 0
  | x :: r => uptoBulkEntry x + uptoBulkEntries r
def uptoBulkEntry {H : Type} : Lit × DataW H → Nat
  | (.string bytes, d) => bytes.length + uptoBulk d + 1
  | (_, d) => uptoBulk d + 1
 end
def uptoSmall : (H : Type) → List (DataW H) → Bool := fun _ ds => decide (uptoBulkAll ds ≤ 1048576)
def OpenSpec.upto (s : _root_.Go.ChangeSpec) : _root_.Go.OpenSpec := { _root_.Go.OpenSpec.ofChange s with cond := some uptoSmall }

/-- 'laws.FnExactDotNumbers', WHERE WHAT IT READS IS OF BULK AT MOST 1048576: true; the input reads as it did. -/
def fnExactDotNumbersUptoRow : OpenClaim := { program := "ytidnhbengmjpkaa", sum := "15572ac640bafc01c0401462d12faaf0d78f6f7219cad7700575eee38bec6859", func := "loop.example/g01403/laws.FnExactDotNumbers", spec := "fnExactDotNumbers", apart := false, narrowed := true }
def FnExactDotNumbersUptoSaid : Prop := fnExactDotNumbersUptoRow.holds Try.pinned (OpenSpec.upto fnExactDotNumbersSpec)

/-- 'laws.FnExactSumNumbers', WHERE WHAT IT READS IS OF BULK AT MOST 1048576: true; the input reads as it did. -/
def fnExactSumNumbersUptoRow : OpenClaim := { program := "ytidnhbengmjpkaa", sum := "15572ac640bafc01c0401462d12faaf0d78f6f7219cad7700575eee38bec6859", func := "loop.example/g01403/laws.FnExactSumNumbers", spec := "fnExactSumNumbers", apart := false, narrowed := true }
def FnExactSumNumbersUptoSaid : Prop := fnExactSumNumbersUptoRow.holds Try.pinned (OpenSpec.upto fnExactSumNumbersSpec)

/-- 'laws.FnExactOverlapOf', WHERE WHAT IT READS IS OF BULK AT MOST 1048576: true; the input reads as it did. -/
def fnExactOverlapOfUptoRow : OpenClaim := { program := "ytidnhbengmjpkaa", sum := "15572ac640bafc01c0401462d12faaf0d78f6f7219cad7700575eee38bec6859", func := "loop.example/g01403/laws.FnExactOverlapOf", spec := "fnExactOverlapOf", unfollowed := true, recurses := true, apart := false, narrowed := true }
def FnExactOverlapOfUptoSaid : Prop := fnExactOverlapOfUptoRow.holds Try.pinned (OpenSpec.upto fnExactOverlapOfSpec)

/-- 'laws.FnExactSwingLevels', WHERE WHAT IT READS IS OF BULK AT MOST 1048576: true; the input reads as it did. -/
def fnExactSwingLevelsUptoRow : OpenClaim := { program := "ytidnhbengmjpkaa", sum := "15572ac640bafc01c0401462d12faaf0d78f6f7219cad7700575eee38bec6859", func := "loop.example/g01403/laws.FnExactSwingLevels", spec := "fnExactSwingLevels", unfollowed := true, recurses := true, apart := false, narrowed := true }
def FnExactSwingLevelsUptoSaid : Prop := fnExactSwingLevelsUptoRow.holds Try.pinned (OpenSpec.upto fnExactSwingLevelsSpec)

/-- 'laws.FnExactBoxLevels', WHERE WHAT IT READS IS OF BULK AT MOST 1048576: true; the input reads as it did. -/
def fnExactBoxLevelsUptoRow : OpenClaim := { program := "ytidnhbengmjpkaa", sum := "15572ac640bafc01c0401462d12faaf0d78f6f7219cad7700575eee38bec6859", func := "loop.example/g01403/laws.FnExactBoxLevels", spec := "fnExactBoxLevels", unfollowed := true, recurses := true, apart := false, narrowed := true }
def FnExactBoxLevelsUptoSaid : Prop := fnExactBoxLevelsUptoRow.holds Try.pinned (OpenSpec.upto fnExactBoxLevelsSpec)

/-- 'laws.FnExactBendLevels', WHERE WHAT IT READS IS OF BULK AT MOST 1048576: true; the input reads as it did. -/
def fnExactBendLevelsUptoRow : OpenClaim := { program := "ytidnhbengmjpkaa", sum := "15572ac640bafc01c0401462d12faaf0d78f6f7219cad7700575eee38bec6859", func := "loop.example/g01403/laws.FnExactBendLevels", spec := "fnExactBendLevels", unfollowed := true, recurses := true, apart := false, narrowed := true }
def FnExactBendLevelsUptoSaid : Prop := fnExactBendLevelsUptoRow.holds Try.pinned (OpenSpec.upto fnExactBendLevelsSpec)

/-- 'laws.FnExactCountBelow', WHERE WHAT IT READS IS OF BULK AT MOST 1048576: true; the input reads as it did. -/
def fnExactCountBelowUptoRow : OpenClaim := { program := "ytidnhbengmjpkaa", sum := "15572ac640bafc01c0401462d12faaf0d78f6f7219cad7700575eee38bec6859", func := "loop.example/g01403/laws.FnExactCountBelow", spec := "fnExactCountBelow", unfollowed := true, recurses := true, apart := false, narrowed := true }
def FnExactCountBelowUptoSaid : Prop := fnExactCountBelowUptoRow.holds Try.pinned (OpenSpec.upto fnExactCountBelowSpec)

/-- 'laws.FnExactStateOf', WHERE WHAT IT READS IS OF BULK AT MOST 1048576: true; the input reads as it did. -/
def fnExactStateOfUptoRow : OpenClaim := { program := "ytidnhbengmjpkaa", sum := "15572ac640bafc01c0401462d12faaf0d78f6f7219cad7700575eee38bec6859", func := "loop.example/g01403/laws.FnExactStateOf", spec := "fnExactStateOf", inPlace := ["math.sqrt"], unfollowed := true, recurses := true, apart := false, narrowed := true }
def FnExactStateOfUptoSaid : Prop := fnExactStateOfUptoRow.holds Try.pinned (OpenSpec.upto fnExactStateOfSpec)

end Rows
end Go.Proofs.Ytidnhbengmjpkaa
