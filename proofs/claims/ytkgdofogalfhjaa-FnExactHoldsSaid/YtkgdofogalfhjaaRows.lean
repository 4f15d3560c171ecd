/-
  No cell of these rows narrows 'for every input' (looked for: loops, veiled, ifaces, maps, wideKeys, modest, calm, conditions, laid).
  DERIVED. THE GIVEN ROWS OF THIS SEAT. 5 by the template 'for every input the law returns true; each argument reads behind the call as it read before'; 0 by the template 'total and deterministic' (their statements: YtkgdofogalfhjaaTotals.lean).
  GIVEN WITH THE SEED: the statements are not yours to turn. If you find one false, say at which input.
  Laid BY PROGRAM, IN A SANDBOX (cutbox-rows.mjs): the forced cells as the released guide's own fill.sh prints them over the translation edf7a685db51af7e… (all of the seat's roots in one cut). By AI agents, Wed Nov 11 2026. No macro, syntax, notation, axiom, sorry.
-/
import Derived.Test.YtkgdofogalfhjaaChecked
import GoSem.Claim
import GoSem.ClaimJoined
import GoSem.ClaimMapViews
import Derived.JoinedTies
import Derived.KernelRfl
namespace Go.Proofs.Ytkgdofogalfhjaa
/- THE CELL 'sum', in the pinned program and in every row, IS THE sha256 OF THE DUMP (.gsa) THAT YtkgdofogalfhjaaProg.lean LOADS. Nothing in Lean hashes anything: it is a label: what it is worth is what the hold of that sum in a sandbox is worth. -/
noncomputable def Try.pinned : Pinned := { name := "ytkgdofogalfhjaa", sum := "edf7a685db51af7ea6a2149a7a2f916bb11c3dffbb4034668f66c7271367a334", checked := Try.checked }
namespace Rows
def none {H : Type} : Left H := { results := [], args := [] }

/-- 'laws.FnExactIsSpan': WHATEVER THE INPUT: true; the input reads as it did. -/
def fnExactIsSpanSpec : ChangeSpec := { name := "fnExactIsSpan", fn := fun _ => fun
  | [d] => { results := [.lit (.bool true)], args := [d] }
  | _ => none }
def fnExactIsSpanRow : OpenClaim := { program := "ytkgdofogalfhjaa", sum := "edf7a685db51af7ea6a2149a7a2f916bb11c3dffbb4034668f66c7271367a334", func := "loop.example/g03007/laws.FnExactIsSpan", spec := "fnExactIsSpan", apart := false }
def FnExactIsSpanSaid : Prop := fnExactIsSpanRow.holds Try.pinned (OpenSpec.ofChange fnExactIsSpanSpec)

/-- ITS FALSE NEIGHBOUR: 'it returns false'. Refute it at one input. -/
def fnExactIsSpanWrong : ChangeSpec := { name := "fnExactIsSpan", fn := fun _ => fun
  | [d] => { results := [.lit (.bool false)], args := [d] }
  | _ => none }
def FnExactIsSpanWrongFalsely : Prop := fnExactIsSpanRow.holds Try.pinned (OpenSpec.ofChange fnExactIsSpanWrong)

/-- 'laws.FnExactColourText': WHATEVER THE INPUT: true; the input reads as it did. -/
def fnExactColourTextSpec : ChangeSpec := { name := "fnExactColourText", fn := fun _ => fun
  | [d] => { results := [.lit (.bool true)], args := [d] }
  | _ => none }
def fnExactColourTextRow : OpenClaim := { program := "ytkgdofogalfhjaa", sum := "edf7a685db51af7ea6a2149a7a2f916bb11c3dffbb4034668f66c7271367a334", func := "loop.example/g03007/laws.FnExactColourText", spec := "fnExactColourText", apart := false }
def FnExactColourTextSaid : Prop := fnExactColourTextRow.holds Try.pinned (OpenSpec.ofChange fnExactColourTextSpec)

/-- ITS FALSE NEIGHBOUR: 'it returns false'. Refute it at one input. -/
def fnExactColourTextWrong : ChangeSpec := { name := "fnExactColourText", fn := fun _ => fun
  | [d] => { results := [.lit (.bool false)], args := [d] }
  | _ => none }
def FnExactColourTextWrongFalsely : Prop := fnExactColourTextRow.holds Try.pinned (OpenSpec.ofChange fnExactColourTextWrong)

/-- 'laws.FnExactKindText': WHATEVER THE INPUT: true; the input reads as it did. -/
def fnExactKindTextSpec : ChangeSpec := { name := "fnExactKindText", fn := fun _ => fun
  | [d] => { results := [.lit (.bool true)], args := [d] }
  | _ => none }
def fnExactKindTextRow : OpenClaim := { program := "ytkgdofogalfhjaa", sum := "edf7a685db51af7ea6a2149a7a2f916bb11c3dffbb4034668f66c7271367a334", func := "loop.example/g03007/laws.FnExactKindText", spec := "fnExactKindText", apart := false }
def FnExactKindTextSaid : Prop := fnExactKindTextRow.holds Try.pinned (OpenSpec.ofChange fnExactKindTextSpec)

/-- ITS FALSE NEIGHBOUR: 'it returns false'. Refute it at one input. -/
def fnExactKindTextWrong : ChangeSpec := { name := "fnExactKindText", fn := fun _ => fun
  | [d] => { results := [.lit (.bool false)], args := [d] }
  | _ => none }
def FnExactKindTextWrongFalsely : Prop := fnExactKindTextRow.holds Try.pinned (OpenSpec.ofChange fnExactKindTextWrong)

/-- 'laws.FnExactHolds': WHATEVER THE INPUT: true; the input reads as it did. -/
def fnExactHoldsSpec : ChangeSpec := { name := "fnExactHolds", fn := fun _ => fun
  | [d1, d2] => { results := [.lit (.bool true)], args := [d1, d2] }
  | _ => none }
def fnExactHoldsRow : OpenClaim := { program := "ytkgdofogalfhjaa", sum := "edf7a685db51af7ea6a2149a7a2f916bb11c3dffbb4034668f66c7271367a334", func := "loop.example/g03007/laws.FnExactHolds", spec := "fnExactHolds", apart := false }
def FnExactHoldsSaid : Prop := fnExactHoldsRow.holds Try.pinned (OpenSpec.ofChange fnExactHoldsSpec)

/-- ITS FALSE NEIGHBOUR: 'it returns false'. Refute it at one input. -/
def fnExactHoldsWrong : ChangeSpec := { name := "fnExactHolds", fn := fun _ => fun
  | [d1, d2] => { results := [.lit (.bool false)], args := [d1, d2] }
  | _ => none }
def FnExactHoldsWrongFalsely : Prop := fnExactHoldsRow.holds Try.pinned (OpenSpec.ofChange fnExactHoldsWrong)

/-- 'laws.FnExactIsThing': WHATEVER THE INPUT: true; the input reads as it did. -/
def fnExactIsThingSpec : ChangeSpec := { name := "fnExactIsThing", fn := fun _ => fun
  | [d] => { results := [.lit (.bool true)], args := [d] }
  | _ => none }
def fnExactIsThingRow : OpenClaim := { program := "ytkgdofogalfhjaa", sum := "edf7a685db51af7ea6a2149a7a2f916bb11c3dffbb4034668f66c7271367a334", func := "loop.example/g03007/laws.FnExactIsThing", spec := "fnExactIsThing", apart := false }
def FnExactIsThingSaid : Prop := fnExactIsThingRow.holds Try.pinned (OpenSpec.ofChange fnExactIsThingSpec)

/-- ITS FALSE NEIGHBOUR: 'it returns false'. Refute it at one input. -/
def fnExactIsThingWrong : ChangeSpec := { name := "fnExactIsThing", fn := fun _ => fun
  | [d] => { results := [.lit (.bool false)], args := [d] }
  | _ => none }
def FnExactIsThingWrongFalsely : Prop := fnExactIsThingRow.holds Try.pinned (OpenSpec.ofChange fnExactIsThingWrong)

/- THE SECOND FORM. 'bulk': how many values and letters a reading holds, each counted each time it is reached (what is shared counts as often as it is met; a slice's spare places count too). A statement '..UptoSaid' is the law's where the arguments, and the package variables that the reading takes, are together of bulk at most 1048576: NARROWER than '..Said'. Prove '..Said' where nothing that the law and all that it calls make is longer than what came in: it says more and counts as full. Else prove '..UptoSaid'. A law counts once. -/
mutual
def uptoBulk {H : Type} : DataW H → Nat
  | .lit (.string bytes) => bytes.length + 1
  | .lit _ => 1
  | .nil => 1
  | .ptr d => uptoBulk d + 1
  | .slice elems spare => uptoBulkAll elems + uptoBulkAll spare + 1
  | .agg parts => uptoBulkAll parts + 1
  | .iface _ d => uptoBulk d + 1
  | .map entries => uptoBulkEntries entries + 1
  | .held _ => 1
def uptoBulkAll {H : Type} : List (DataW H) → Nat
  | [] => 0
  | d :: r => uptoBulk d + uptoBulkAll r
def uptoBulkEntries {H : Type} : List (Lit × DataW H) → Nat
  | [] => 0
  | x :: r => uptoBulkEntry x + uptoBulkEntries r
def uptoBulkEntry {H : Type} : Lit × DataW H → Nat
  | (.string bytes, d) => bytes.length + uptoBulk d + 1
  | (_, d) => uptoBulk d + 1
 end
def uptoSmall : (H : Type) → List (DataW H) → Bool := fun _ ds => decide (uptoBulkAll ds ≤ 1048576)
def OpenSpec.upto (s : _root_.Go.ChangeSpec) : _root_.Go.OpenSpec := { _root_.Go.OpenSpec.ofChange s with cond := some uptoSmall }

/-- 'laws.FnExactIsSpan', WHERE WHAT IT READS IS OF BULK AT MOST 1048576: true; the input reads as it did. -/
def fnExactIsSpanUptoRow : OpenClaim := { program := "ytkgdofogalfhjaa", sum := "edf7a685db51af7ea6a2149a7a2f916bb11c3dffbb4034668f66c7271367a334", func := "loop.example/g03007/laws.FnExactIsSpan", spec := "fnExactIsSpan", apart := false, narrowed := true }
def FnExactIsSpanUptoSaid : Prop := fnExactIsSpanUptoRow.holds Try.pinned (OpenSpec.upto fnExactIsSpanSpec)

/-- 'laws.FnExactColourText', WHERE WHAT IT READS IS OF BULK AT MOST 1048576: true; the input reads as it did. -/
def fnExactColourTextUptoRow : OpenClaim := { program := "ytkgdofogalfhjaa", sum := "edf7a685db51af7ea6a2149a7a2f916bb11c3dffbb4034668f66c7271367a334", func := "loop.example/g03007/laws.FnExactColourText", spec := "fnExactColourText", apart := false, narrowed := true }
def FnExactColourTextUptoSaid : Prop := fnExactColourTextUptoRow.holds Try.pinned (OpenSpec.upto fnExactColourTextSpec)

/-- 'laws.FnExactKindText', WHERE WHAT IT READS IS OF BULK AT MOST 1048576: true; the input reads as it did. -/
def fnExactKindTextUptoRow : OpenClaim := { program := "ytkgdofogalfhjaa", sum := "edf7a685db51af7ea6a2149a7a2f916bb11c3dffbb4034668f66c7271367a334", func := "loop.example/g03007/laws.FnExactKindText", spec := "fnExactKindText", apart := false, narrowed := true }
def FnExactKindTextUptoSaid : Prop := fnExactKindTextUptoRow.holds Try.pinned (OpenSpec.upto fnExactKindTextSpec)

/-- 'laws.FnExactHolds', WHERE WHAT IT READS IS OF BULK AT MOST 1048576: true; the input reads as it did. -/
def fnExactHoldsUptoRow : OpenClaim := { program := "ytkgdofogalfhjaa", sum := "edf7a685db51af7ea6a2149a7a2f916bb11c3dffbb4034668f66c7271367a334", func := "loop.example/g03007/laws.FnExactHolds", spec := "fnExactHolds", apart := false, narrowed := true }
def FnExactHoldsUptoSaid : Prop := fnExactHoldsUptoRow.holds Try.pinned (OpenSpec.upto fnExactHoldsSpec)

/-- 'laws.FnExactIsThing', WHERE WHAT IT READS IS OF BULK AT MOST 1048576: true; the input reads as it did. -/
def fnExactIsThingUptoRow : OpenClaim := { program := "ytkgdofogalfhjaa", sum := "edf7a685db51af7ea6a2149a7a2f916bb11c3dffbb4034668f66c7271367a334", func := "loop.example/g03007/laws.FnExactIsThing", spec := "fnExactIsThing", apart := false, narrowed := true }
def FnExactIsThingUptoSaid : Prop := fnExactIsThingUptoRow.holds Try.pinned (OpenSpec.upto fnExactIsThingSpec)

end Rows
end Go.Proofs.Ytkgdofogalfhjaa
