/-
  No cell of these rows narrows 'for every input' (looked for: loops, veiled, ifaces, maps, wideKeys, modest, calm, conditions, laid).
  DERIVED. THE GIVEN ROWS OF THIS SEAT. 6 by the template 'for every input the law returns true; each argument reads behind the call as it read before'; 0 by the template 'total and deterministic' (their statements: YtoocbgjcigadfabTotals.lean).
  GIVEN WITH THE SEED: the statements are not yours to turn. If you find one false, say at which input.
  Laid BY PROGRAM, IN A SANDBOX (cutbox-rows.mjs): the forced cells as the released guide's own fill.sh prints them over the translation f8f14731bf97cdec… (all of the seat's roots in one cut). By AI agents, Wed Nov 11 2026. No macro, syntax, notation, axiom, sorry.
-/
import Derived.Test.YtoocbgjcigadfabChecked
import GoSem.Claim
import GoSem.ClaimJoined
import GoSem.ClaimMapViews
import Derived.JoinedTies
import Derived.KernelRfl
namespace Go.Proofs.Ytoocbgjcigadfab
/- THE CELL 'sum', in the pinned program and in every row, IS THE sha256 OF THE DUMP (.gsa) THAT YtoocbgjcigadfabProg.lean LOADS. Nothing in Lean hashes anything: it is a label: what it is worth is what the hold of that sum in a sandbox is worth. -/
noncomputable def Try.pinned : Pinned := { name := "ytoocbgjcigadfab", sum := "f8f14731bf97cdec205c28226703b3cf50fc19a4860d20ecfa6642b7658799b2", checked := Try.checked }
namespace Rows
def none {H : Type} : Left H := { results := [], args := [] }

/-- 'laws.FnExactFindThing': WHATEVER THE INPUT: true; the input reads as it did. -/
def fnExactFindThingSpec : ChangeSpec := { name := "fnExactFindThing", fn := fun _ => fun
  | [d1, d2] => { results := [.lit (.bool true)], args := [d1, d2] }
  | _ => none }
def fnExactFindThingRow : OpenClaim := { program := "ytoocbgjcigadfab", sum := "f8f14731bf97cdec205c28226703b3cf50fc19a4860d20ecfa6642b7658799b2", func := "loop.example/g03007/laws.FnExactFindThing", spec := "fnExactFindThing", unfollowed := true, recurses := true, apart := false }
def FnExactFindThingSaid : Prop := fnExactFindThingRow.holds Try.pinned (OpenSpec.ofChange fnExactFindThingSpec)

/-- ITS FALSE NEIGHBOUR: 'it returns false'. Refute it at one input. -/
def fnExactFindThingWrong : ChangeSpec := { name := "fnExactFindThing", fn := fun _ => fun
  | [d1, d2] => { results := [.lit (.bool false)], args := [d1, d2] }
  | _ => none }
def FnExactFindThingWrongFalsely : Prop := fnExactFindThingRow.holds Try.pinned (OpenSpec.ofChange fnExactFindThingWrong)

/-- 'laws.FnCipher': WHATEVER THE INPUT: true; the input reads as it did. -/
def fnCipherSpec : ChangeSpec := { name := "fnCipher", fn := fun _ => fun
  | [d] => { results := [.lit (.bool true)], args := [d] }
  | _ => none }
def fnCipherRow : OpenClaim := { program := "ytoocbgjcigadfab", sum := "f8f14731bf97cdec205c28226703b3cf50fc19a4860d20ecfa6642b7658799b2", func := "loop.example/g03007/laws.FnCipher", spec := "fnCipher", apart := false }
def FnCipherSaid : Prop := fnCipherRow.holds Try.pinned (OpenSpec.ofChange fnCipherSpec)

/-- ITS FALSE NEIGHBOUR: 'it returns false'. Refute it at one input. -/
def fnCipherWrong : ChangeSpec := { name := "fnCipher", fn := fun _ => fun
  | [d] => { results := [.lit (.bool false)], args := [d] }
  | _ => none }
def FnCipherWrongFalsely : Prop := fnCipherRow.holds Try.pinned (OpenSpec.ofChange fnCipherWrong)

/-- 'laws.FnExactAreFinds': WHATEVER THE INPUT: true; the input reads as it did. -/
def fnExactAreFindsSpec : ChangeSpec := { name := "fnExactAreFinds", fn := fun _ => fun
  | [d] => { results := [.lit (.bool true)], args := [d] }
  | _ => none }
def fnExactAreFindsRow : OpenClaim := { program := "ytoocbgjcigadfab", sum := "f8f14731bf97cdec205c28226703b3cf50fc19a4860d20ecfa6642b7658799b2", func := "loop.example/g03007/laws.FnExactAreFinds", spec := "fnExactAreFinds", apart := false }
def FnExactAreFindsSaid : Prop := fnExactAreFindsRow.holds Try.pinned (OpenSpec.ofChange fnExactAreFindsSpec)

/-- ITS FALSE NEIGHBOUR: 'it returns false'. Refute it at one input. -/
def fnExactAreFindsWrong : ChangeSpec := { name := "fnExactAreFinds", fn := fun _ => fun
  | [d] => { results := [.lit (.bool false)], args := [d] }
  | _ => none }
def FnExactAreFindsWrongFalsely : Prop := fnExactAreFindsRow.holds Try.pinned (OpenSpec.ofChange fnExactAreFindsWrong)

/-- 'laws.FnKeyedHash': WHATEVER THE INPUT: true; the input reads as it did. -/
def fnKeyedHashSpec : ChangeSpec := { name := "fnKeyedHash", fn := fun _ => fun
  | [d] => { results := [.lit (.bool true)], args := [d] }
  | _ => none }
def fnKeyedHashRow : OpenClaim := { program := "ytoocbgjcigadfab", sum := "f8f14731bf97cdec205c28226703b3cf50fc19a4860d20ecfa6642b7658799b2", func := "loop.example/g03007/laws.FnKeyedHash", spec := "fnKeyedHash", apart := false }
def FnKeyedHashSaid : Prop := fnKeyedHashRow.holds Try.pinned (OpenSpec.ofChange fnKeyedHashSpec)

/-- ITS FALSE NEIGHBOUR: 'it returns false'. Refute it at one input. -/
def fnKeyedHashWrong : ChangeSpec := { name := "fnKeyedHash", fn := fun _ => fun
  | [d] => { results := [.lit (.bool false)], args := [d] }
  | _ => none }
def FnKeyedHashWrongFalsely : Prop := fnKeyedHashRow.holds Try.pinned (OpenSpec.ofChange fnKeyedHashWrong)

/-- 'laws.FnExactEqualReports': WHATEVER THE INPUT: true; the input reads as it did. -/
def fnExactEqualReportsSpec : ChangeSpec := { name := "fnExactEqualReports", fn := fun _ => fun
  | [d1, d2] => { results := [.lit (.bool true)], args := [d1, d2] }
  | _ => none }
def fnExactEqualReportsRow : OpenClaim := { program := "ytoocbgjcigadfab", sum := "f8f14731bf97cdec205c28226703b3cf50fc19a4860d20ecfa6642b7658799b2", func := "loop.example/g03007/laws.FnExactEqualReports", spec := "fnExactEqualReports", apart := false }
def FnExactEqualReportsSaid : Prop := fnExactEqualReportsRow.holds Try.pinned (OpenSpec.ofChange fnExactEqualReportsSpec)

/-- ITS FALSE NEIGHBOUR: 'it returns false'. Refute it at one input. -/
def fnExactEqualReportsWrong : ChangeSpec := { name := "fnExactEqualReports", fn := fun _ => fun
  | [d1, d2] => { results := [.lit (.bool false)], args := [d1, d2] }
  | _ => none }
def FnExactEqualReportsWrongFalsely : Prop := fnExactEqualReportsRow.holds Try.pinned (OpenSpec.ofChange fnExactEqualReportsWrong)

/-- 'laws.FnSpans': WHATEVER THE INPUT: true; the input reads as it did. -/
def fnSpansSpec : ChangeSpec := { name := "fnSpans", fn := fun _ => fun
  | [d] => { results := [.lit (.bool true)], args := [d] }
  | _ => none }
def fnSpansRow : OpenClaim := { program := "ytoocbgjcigadfab", sum := "f8f14731bf97cdec205c28226703b3cf50fc19a4860d20ecfa6642b7658799b2", func := "loop.example/g03007/laws.FnSpans", spec := "fnSpans", apart := false }
def FnSpansSaid : Prop := fnSpansRow.holds Try.pinned (OpenSpec.ofChange fnSpansSpec)

/-- ITS FALSE NEIGHBOUR: 'it returns false'. Refute it at one input. -/
def fnSpansWrong : ChangeSpec := { name := "fnSpans", fn := fun _ => fun
  | [d] => { results := [.lit (.bool false)], args := [d] }
  | _ => none }
def FnSpansWrongFalsely : Prop := fnSpansRow.holds Try.pinned (OpenSpec.ofChange fnSpansWrong)

/- THE SECOND FORM. 'bulk': how many values and letters a reading holds, each counted each time it is reached (what is shared counts as often as it is met; a slice's spare places count too). A statement '..UptoSaid' is the law's where the arguments, and the package variables that the reading takes, are together of bulk at most 1048576: NARROWER than '..Said'. Prove '..Said' where nothing that the law and all that it calls make is longer than what came in: it says more and counts as full. Else prove '..UptoSaid'. A law counts once. -/
mutual
def uptoBulk {H : Type} : DataW H → Nat
  | .lit (.string bytes) => bytes.length + 1
  | .lit _ => 1
  | .nil => 1
  | .ptr d => uptoBulk d + 1
  | .slice elems spare => uptoBulkAll elems + uptoBulkAll spare + 1
  | .agg parts => uptoBulkAll parts + 1
  | .iface _ d => uptoBulk d + 1
  | .map entries => uptoBulkEntries entries + 1
  | .held _ => 1
def uptoBulkAll {H : Type} : List (DataW H) → Nat
  | [] => 0
  | d :: r => uptoBulk d + uptoBulkAll r
def uptoBulkEntries {H : Type} : List (Lit × DataW H) → Nat
  | [] => 0
  | x :: r => uptoBulkEntry x + uptoBulkEntries r
def uptoBulkEntry {H : Type} : Lit × DataW H → Nat
  | (.string bytes, d) => bytes.length + uptoBulk d + 1
  | (_, d) => uptoBulk d + 1
 end
def uptoSmall : (H : Type) → List (DataW H) → Bool := fun _ ds => decide (uptoBulkAll ds ≤ 1048576)
def OpenSpec.upto (s : _root_.Go.ChangeSpec) : _root_.Go.OpenSpec := { _root_.Go.OpenSpec.ofChange s with cond := some uptoSmall }

/-- 'laws.FnExactFindThing', WHERE WHAT IT READS IS OF BULK AT MOST 1048576: true; the input reads as it did. -/
def fnExactFindThingUptoRow : OpenClaim := { program := "ytoocbgjcigadfab", sum := "f8f14731bf97cdec205c28226703b3cf50fc19a4860d20ecfa6642b7658799b2", func := "loop.example/g03007/laws.FnExactFindThing", spec := "fnExactFindThing", unfollowed := true, recurses := true, apart := false, narrowed := true }
def FnExactFindThingUptoSaid : Prop := fnExactFindThingUptoRow.holds Try.pinned (OpenSpec.upto fnExactFindThingSpec)

/-- 'laws.FnCipher', WHERE WHAT IT READS IS OF BULK AT MOST 1048576: true; the input reads as it did. -/
def fnCipherUptoRow : OpenClaim := { program := "ytoocbgjcigadfab", sum := "f8f14731bf97cdec205c28226703b3cf50fc19a4860d20ecfa6642b7658799b2", func := "loop.example/g03007/laws.FnCipher", spec := "fnCipher", apart := false, narrowed := true }
def FnCipherUptoSaid : Prop := fnCipherUptoRow.holds Try.pinned (OpenSpec.upto fnCipherSpec)

/-- 'laws.FnExactAreFinds', WHERE WHAT IT READS IS OF BULK AT MOST 1048576: true; the input reads as it did. -/
def fnExactAreFindsUptoRow : OpenClaim := { program := "ytoocbgjcigadfab", sum := "f8f14731bf97cdec205c28226703b3cf50fc19a4860d20ecfa6642b7658799b2", func := "loop.example/g03007/laws.FnExactAreFinds", spec := "fnExactAreFinds", apart := false, narrowed := true }
def FnExactAreFindsUptoSaid : Prop := fnExactAreFindsUptoRow.holds Try.pinned (OpenSpec.upto fnExactAreFindsSpec)

/-- 'laws.FnKeyedHash', WHERE WHAT IT READS IS OF BULK AT MOST 1048576: true; the input reads as it did. -/
def fnKeyedHashUptoRow : OpenClaim := { program := "ytoocbgjcigadfab", sum := "f8f14731bf97cdec205c28226703b3cf50fc19a4860d20ecfa6642b7658799b2", func := "loop.example/g03007/laws.FnKeyedHash", spec := "fnKeyedHash", apart := false, narrowed := true }
def FnKeyedHashUptoSaid : Prop := fnKeyedHashUptoRow.holds Try.pinned (OpenSpec.upto fnKeyedHashSpec)

/-- 'laws.FnExactEqualReports', WHERE WHAT IT READS IS OF BULK AT MOST 1048576: true; the input reads as it did. -/
def fnExactEqualReportsUptoRow : OpenClaim := { program := "ytoocbgjcigadfab", sum := "f8f14731bf97cdec205c28226703b3cf50fc19a4860d20ecfa6642b7658799b2", func := "loop.example/g03007/laws.FnExactEqualReports", spec := "fnExactEqualReports", apart := false, narrowed := true }
def FnExactEqualReportsUptoSaid : Prop := fnExactEqualReportsUptoRow.holds Try.pinned (OpenSpec.upto fnExactEqualReportsSpec)

/-- 'laws.FnSpans', WHERE WHAT IT READS IS OF BULK AT MOST 1048576: true; the input reads as it did. -/
def fnSpansUptoRow : OpenClaim := { program := "ytoocbgjcigadfab", sum := "f8f14731bf97cdec205c28226703b3cf50fc19a4860d20ecfa6642b7658799b2", func := "loop.example/g03007/laws.FnSpans", spec := "fnSpans", apart := false, narrowed := true }
def FnSpansUptoSaid : Prop := fnSpansUptoRow.holds Try.pinned (OpenSpec.upto fnSpansSpec)

end Rows
end Go.Proofs.Ytoocbgjcigadfab
