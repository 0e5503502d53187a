/-
  No cell of these rows narrows 'for every input' (looked for: loops, veiled, ifaces, maps, wideKeys, modest, calm, conditions, laid).
  DERIVED. THE GIVEN ROWS OF THIS SEAT. 5 by the template 'for every input the law returns true; each argument reads behind the call as it read before'; 0 by the template 'total and deterministic' (their statements: YtkdojogjalkddaaTotals.lean).
  GIVEN WITH THE SEED: the statements are not yours to turn. If you find one false, say at which input.
  Laid BY PROGRAM, IN A SANDBOX (cutbox-rows.mjs): the forced cells as the released guide's own fill.sh prints them over the translation 6b830ece0ea9f4cb… (all of the seat's roots in one cut). By AI agents, Wed Nov 11 2026. No macro, syntax, notation, axiom, sorry.
-/
import Derived.Test.YtkdojogjalkddaaChecked
import GoSem.Claim
import GoSem.ClaimJoined
import GoSem.ClaimMapViews
import Derived.JoinedTies
import Derived.KernelRfl
namespace Go.Proofs.Ytkdojogjalkddaa
/- THE CELL 'sum', in the pinned program and in every row, IS THE sha256 OF THE DUMP (.gsa) THAT YtkdojogjalkddaaProg.lean LOADS. Nothing in Lean hashes anything: it is a label: what it is worth is what the hold of that sum in a sandbox is worth. -/
noncomputable def Try.pinned : Pinned := { name := "ytkdojogjalkddaa", sum := "6b830ece0ea9f4cbff406ff8e4957f9e32871bd5390425e4745defc80f1e0605", checked := Try.checked }
namespace Rows
def none {H : Type} : Left H := { results := [], args := [] }

/-- 'laws.FnExactValidSteps': WHATEVER THE INPUT: true; the input reads as it did. -/
def fnExactValidStepsSpec : ChangeSpec := { name := "fnExactValidSteps", fn := fun _ => fun
  | [d] => { results := [.lit (.bool true)], args := [d] }
  | _ => none }
def fnExactValidStepsRow : OpenClaim := { program := "ytkdojogjalkddaa", sum := "6b830ece0ea9f4cbff406ff8e4957f9e32871bd5390425e4745defc80f1e0605", func := "loop.example/g01403/laws.FnExactValidSteps", spec := "fnExactValidSteps", unfollowed := true, recurses := true, apart := false }
def FnExactValidStepsSaid : Prop := fnExactValidStepsRow.holds Try.pinned (OpenSpec.ofChange fnExactValidStepsSpec)

/-- ITS FALSE NEIGHBOUR: 'it returns false'. Refute it at one input. -/
def fnExactValidStepsWrong : ChangeSpec := { name := "fnExactValidSteps", fn := fun _ => fun
  | [d] => { results := [.lit (.bool false)], args := [d] }
  | _ => none }
def FnExactValidStepsWrongFalsely : Prop := fnExactValidStepsRow.holds Try.pinned (OpenSpec.ofChange fnExactValidStepsWrong)

/-- 'laws.FnExactSameSteps': WHATEVER THE INPUT: true; the input reads as it did. -/
def fnExactSameStepsSpec : ChangeSpec := { name := "fnExactSameSteps", fn := fun _ => fun
  | [d1, d2] => { results := [.lit (.bool true)], args := [d1, d2] }
  | _ => none }
def fnExactSameStepsRow : OpenClaim := { program := "ytkdojogjalkddaa", sum := "6b830ece0ea9f4cbff406ff8e4957f9e32871bd5390425e4745defc80f1e0605", func := "loop.example/g01403/laws.FnExactSameSteps", spec := "fnExactSameSteps", inPlace := ["math.Float32bits", "math.Float64bits"], unfollowed := true, recurses := true, apart := false }
def FnExactSameStepsSaid : Prop := fnExactSameStepsRow.holds Try.pinned (OpenSpec.ofChange fnExactSameStepsSpec)

/-- ITS FALSE NEIGHBOUR: 'it returns false'. Refute it at one input. -/
def fnExactSameStepsWrong : ChangeSpec := { name := "fnExactSameSteps", fn := fun _ => fun
  | [d1, d2] => { results := [.lit (.bool false)], args := [d1, d2] }
  | _ => none }
def FnExactSameStepsWrongFalsely : Prop := fnExactSameStepsRow.holds Try.pinned (OpenSpec.ofChange fnExactSameStepsWrong)

/-- 'laws.FnExactHeightAt': WHATEVER THE INPUT: true; the input reads as it did. -/
def fnExactHeightAtSpec : ChangeSpec := { name := "fnExactHeightAt", fn := fun _ => fun
  | [d1, d2] => { results := [.lit (.bool true)], args := [d1, d2] }
  | _ => none }
def fnExactHeightAtRow : OpenClaim := { program := "ytkdojogjalkddaa", sum := "6b830ece0ea9f4cbff406ff8e4957f9e32871bd5390425e4745defc80f1e0605", func := "loop.example/g01403/laws.FnExactHeightAt", spec := "fnExactHeightAt", unfollowed := true, recurses := true, apart := false }
def FnExactHeightAtSaid : Prop := fnExactHeightAtRow.holds Try.pinned (OpenSpec.ofChange fnExactHeightAtSpec)

/-- ITS FALSE NEIGHBOUR: 'it returns false'. Refute it at one input. -/
def fnExactHeightAtWrong : ChangeSpec := { name := "fnExactHeightAt", fn := fun _ => fun
  | [d1, d2] => { results := [.lit (.bool false)], args := [d1, d2] }
  | _ => none }
def FnExactHeightAtWrongFalsely : Prop := fnExactHeightAtRow.holds Try.pinned (OpenSpec.ofChange fnExactHeightAtWrong)

/-- 'laws.FnExactTurnSteps': WHATEVER THE INPUT: true; the input reads as it did. -/
def fnExactTurnStepsSpec : ChangeSpec := { name := "fnExactTurnSteps", fn := fun _ => fun
  | [d] => { results := [.lit (.bool true)], args := [d] }
  | _ => none }
def fnExactTurnStepsRow : OpenClaim := { program := "ytkdojogjalkddaa", sum := "6b830ece0ea9f4cbff406ff8e4957f9e32871bd5390425e4745defc80f1e0605", func := "loop.example/g01403/laws.FnExactTurnSteps", spec := "fnExactTurnSteps", unfollowed := true, recurses := true, apart := false }
def FnExactTurnStepsSaid : Prop := fnExactTurnStepsRow.holds Try.pinned (OpenSpec.ofChange fnExactTurnStepsSpec)

/-- ITS FALSE NEIGHBOUR: 'it returns false'. Refute it at one input. -/
def fnExactTurnStepsWrong : ChangeSpec := { name := "fnExactTurnSteps", fn := fun _ => fun
  | [d] => { results := [.lit (.bool false)], args := [d] }
  | _ => none }
def FnExactTurnStepsWrongFalsely : Prop := fnExactTurnStepsRow.holds Try.pinned (OpenSpec.ofChange fnExactTurnStepsWrong)

/-- 'laws.FnExactJoinSteps': WHATEVER THE INPUT: true; the input reads as it did. -/
def fnExactJoinStepsSpec : ChangeSpec := { name := "fnExactJoinSteps", fn := fun _ => fun
  | [d1, d2, d3] => { results := [.lit (.bool true)], args := [d1, d2, d3] }
  | _ => none }
def fnExactJoinStepsRow : OpenClaim := { program := "ytkdojogjalkddaa", sum := "6b830ece0ea9f4cbff406ff8e4957f9e32871bd5390425e4745defc80f1e0605", func := "loop.example/g01403/laws.FnExactJoinSteps", spec := "fnExactJoinSteps", inPlace := ["math.Float32bits", "math.Float64bits"], unfollowed := true, recurses := true, apart := false }
def FnExactJoinStepsSaid : Prop := fnExactJoinStepsRow.holds Try.pinned (OpenSpec.ofChange fnExactJoinStepsSpec)

/-- ITS FALSE NEIGHBOUR: 'it returns false'. Refute it at one input. -/
def fnExactJoinStepsWrong : ChangeSpec := { name := "fnExactJoinSteps", fn := fun _ => fun
  | [d1, d2, d3] => { results := [.lit (.bool false)], args := [d1, d2, d3] }
  | _ => none }
def FnExactJoinStepsWrongFalsely : Prop := fnExactJoinStepsRow.holds Try.pinned (OpenSpec.ofChange fnExactJoinStepsWrong)

/- THE SECOND FORM. 'bulk': how many values and letters a reading holds, each counted each time it is reached (what is shared counts as often as it is met; a slice's spare places count too). A statement '..UptoSaid' is the law's where the arguments, and the package variables that the reading takes, are together of bulk at most 1048576: NARROWER than '..Said'. Prove '..Said' where nothing that the law and all that it calls make is longer than what came in: it says more and counts as full. Else prove '..UptoSaid'. A law counts once. -/
mutual
def uptoBulk {H : Type} : DataW H → Nat
  | .lit (.string bytes) => bytes.length + 1
  | .lit _ => 1
  | .nil => 1
  | .ptr d => uptoBulk d + 1
  | .slice elems spare => uptoBulkAll elems + uptoBulkAll spare + 1
  | .agg parts => uptoBulkAll parts + 1
  | .iface _ d => uptoBulk d + 1
  | .map entries => uptoBulkEntries entries + 1
  | .held _ => 1
def uptoBulkAll {H : Type} : List (DataW H) → Nat
  | [] => 0
  | d :: r => uptoBulk d + uptoBulkAll r
def uptoBulkEntries {H : Type} : List (Lit × DataW H) → Nat
  | [] => 0
  | x :: r => uptoBulkEntry x + uptoBulkEntries r
def uptoBulkEntry {H : Type} : Lit × DataW H → Nat
  | (.string bytes, d) => bytes.length + uptoBulk d + 1
  | (_, d) => uptoBulk d + 1
 end
def uptoSmall : (H : Type) → List (DataW H) → Bool := fun _ ds => decide (uptoBulkAll ds ≤ 1048576)
def OpenSpec.upto (s : _root_.Go.ChangeSpec) : _root_.Go.OpenSpec := { _root_.Go.OpenSpec.ofChange s with cond := some uptoSmall }

/-- 'laws.FnExactValidSteps', WHERE WHAT IT READS IS OF BULK AT MOST 1048576: true; the input reads as it did. -/
def fnExactValidStepsUptoRow : OpenClaim := { program := "ytkdojogjalkddaa", sum := "6b830ece0ea9f4cbff406ff8e4957f9e32871bd5390425e4745defc80f1e0605", func := "loop.example/g01403/laws.FnExactValidSteps", spec := "fnExactValidSteps", unfollowed := true, recurses := true, apart := false, narrowed := true }
def FnExactValidStepsUptoSaid : Prop := fnExactValidStepsUptoRow.holds Try.pinned (OpenSpec.upto fnExactValidStepsSpec)

/-- 'laws.FnExactSameSteps', WHERE WHAT IT READS IS OF BULK AT MOST 1048576: true; the input reads as it did. -/
def fnExactSameStepsUptoRow : OpenClaim := { program := "ytkdojogjalkddaa", sum := "6b830ece0ea9f4cbff406ff8e4957f9e32871bd5390425e4745defc80f1e0605", func := "loop.example/g01403/laws.FnExactSameSteps", spec := "fnExactSameSteps", inPlace := ["math.Float32bits", "math.Float64bits"], unfollowed := true, recurses := true, apart := false, narrowed := true }
def FnExactSameStepsUptoSaid : Prop := fnExactSameStepsUptoRow.holds Try.pinned (OpenSpec.upto fnExactSameStepsSpec)

/-- 'laws.FnExactHeightAt', WHERE WHAT IT READS IS OF BULK AT MOST 1048576: true; the input reads as it did. -/
def fnExactHeightAtUptoRow : OpenClaim := { program := "ytkdojogjalkddaa", sum := "6b830ece0ea9f4cbff406ff8e4957f9e32871bd5390425e4745defc80f1e0605", func := "loop.example/g01403/laws.FnExactHeightAt", spec := "fnExactHeightAt", unfollowed := true, recurses := true, apart := false, narrowed := true }
def FnExactHeightAtUptoSaid : Prop := fnExactHeightAtUptoRow.holds Try.pinned (OpenSpec.upto fnExactHeightAtSpec)

/-- 'laws.FnExactTurnSteps', WHERE WHAT IT READS IS OF BULK AT MOST 1048576: true; the input reads as it did. -/
def fnExactTurnStepsUptoRow : OpenClaim := { program := "ytkdojogjalkddaa", sum := "6b830ece0ea9f4cbff406ff8e4957f9e32871bd5390425e4745defc80f1e0605", func := "loop.example/g01403/laws.FnExactTurnSteps", spec := "fnExactTurnSteps", unfollowed := true, recurses := true, apart := false, narrowed := true }
def FnExactTurnStepsUptoSaid : Prop := fnExactTurnStepsUptoRow.holds Try.pinned (OpenSpec.upto fnExactTurnStepsSpec)

/-- 'laws.FnExactJoinSteps', WHERE WHAT IT READS IS OF BULK AT MOST 1048576: true; the input reads as it did. -/
def fnExactJoinStepsUptoRow : OpenClaim := { program := "ytkdojogjalkddaa", sum := "6b830ece0ea9f4cbff406ff8e4957f9e32871bd5390425e4745defc80f1e0605", func := "loop.example/g01403/laws.FnExactJoinSteps", spec := "fnExactJoinSteps", inPlace := ["math.Float32bits", "math.Float64bits"], unfollowed := true, recurses := true, apart := false, narrowed := true }
def FnExactJoinStepsUptoSaid : Prop := fnExactJoinStepsUptoRow.holds Try.pinned (OpenSpec.upto fnExactJoinStepsSpec)

end Rows
end Go.Proofs.Ytkdojogjalkddaa
