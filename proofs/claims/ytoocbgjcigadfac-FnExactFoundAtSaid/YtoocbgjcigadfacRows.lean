/-
  No cell of these rows narrows 'for every input' (looked for: loops, veiled, ifaces, maps, wideKeys, modest, calm, conditions, laid).
  DERIVED. THE GIVEN ROWS OF THIS SEAT. 6 by the template 'for every input the law returns true; each argument reads behind the call as it read before'; 0 by the template 'total and deterministic' (their statements: YtoocbgjcigadfacTotals.lean).
  GIVEN WITH THE SEED: the statements are not yours to turn. If you find one false, say at which input.
  Laid BY PROGRAM, IN A SANDBOX (cutbox-rows.mjs): the forced cells as the released guide's own fill.sh prints them over the translation f15639ba9330512c… (all of the seat's roots in one cut). By AI agents, Wed Nov 11 2026. No macro, syntax, notation, axiom, sorry.
-/
import Derived.Test.YtoocbgjcigadfacChecked
import GoSem.Claim
import GoSem.ClaimJoined
import GoSem.ClaimMapViews
import Derived.JoinedTies
import Derived.KernelRfl
namespace Go.Proofs.Ytoocbgjcigadfac
/- THE CELL 'sum', in the pinned program and in every row, IS THE sha256 OF THE DUMP (.gsa) THAT YtoocbgjcigadfacProg.lean LOADS. Nothing in Lean hashes anything: it is a label: what it is worth is what the hold of that sum in a sandbox is worth. -/
noncomputable def Try.pinned : Pinned := { name := "ytoocbgjcigadfac", sum := "f15639ba9330512c785a37e17afcca4046ee9c2d99944d898a455a9fd939de7e", checked := Try.checked }
namespace Rows
def none {H : Type} : Left H := { results := [], args := [] }

/-- 'laws.FnExactIsReport': WHATEVER THE INPUT: true; the input reads as it did. -/
def fnExactIsReportSpec : ChangeSpec := { name := "fnExactIsReport", fn := fun _ => fun
  | [d] => { results := [.lit (.bool true)], args := [d] }
  | _ => none }
def fnExactIsReportRow : OpenClaim := { program := "ytoocbgjcigadfac", sum := "f15639ba9330512c785a37e17afcca4046ee9c2d99944d898a455a9fd939de7e", func := "loop.example/g03007/laws.FnExactIsReport", spec := "fnExactIsReport", apart := false }
def FnExactIsReportSaid : Prop := fnExactIsReportRow.holds Try.pinned (OpenSpec.ofChange fnExactIsReportSpec)

/-- ITS FALSE NEIGHBOUR: 'it returns false'. Refute it at one input. -/
def fnExactIsReportWrong : ChangeSpec := { name := "fnExactIsReport", fn := fun _ => fun
  | [d] => { results := [.lit (.bool false)], args := [d] }
  | _ => none }
def FnExactIsReportWrongFalsely : Prop := fnExactIsReportRow.holds Try.pinned (OpenSpec.ofChange fnExactIsReportWrong)

/-- 'laws.FnExactDecodeInts': WHATEVER THE INPUT: true; the input reads as it did. -/
def fnExactDecodeIntsSpec : ChangeSpec := { name := "fnExactDecodeInts", fn := fun _ => fun
  | [d1, d2, d3] => { results := [.lit (.bool true)], args := [d1, d2, d3] }
  | _ => none }
def fnExactDecodeIntsRow : OpenClaim := { program := "ytoocbgjcigadfac", sum := "f15639ba9330512c785a37e17afcca4046ee9c2d99944d898a455a9fd939de7e", func := "loop.example/g03007/laws.FnExactDecodeInts", spec := "fnExactDecodeInts", apart := false }
def FnExactDecodeIntsSaid : Prop := fnExactDecodeIntsRow.holds Try.pinned (OpenSpec.ofChange fnExactDecodeIntsSpec)

/-- ITS FALSE NEIGHBOUR: 'it returns false'. Refute it at one input. -/
def fnExactDecodeIntsWrong : ChangeSpec := { name := "fnExactDecodeInts", fn := fun _ => fun
  | [d1, d2, d3] => { results := [.lit (.bool false)], args := [d1, d2, d3] }
  | _ => none }
def FnExactDecodeIntsWrongFalsely : Prop := fnExactDecodeIntsRow.holds Try.pinned (OpenSpec.ofChange fnExactDecodeIntsWrong)

/-- 'laws.FnExactIsVague': WHATEVER THE INPUT: true; the input reads as it did. -/
def fnExactIsVagueSpec : ChangeSpec := { name := "fnExactIsVague", fn := fun _ => fun
  | [d] => { results := [.lit (.bool true)], args := [d] }
  | _ => none }
def fnExactIsVagueRow : OpenClaim := { program := "ytoocbgjcigadfac", sum := "f15639ba9330512c785a37e17afcca4046ee9c2d99944d898a455a9fd939de7e", func := "loop.example/g03007/laws.FnExactIsVague", spec := "fnExactIsVague", apart := false }
def FnExactIsVagueSaid : Prop := fnExactIsVagueRow.holds Try.pinned (OpenSpec.ofChange fnExactIsVagueSpec)

/-- ITS FALSE NEIGHBOUR: 'it returns false'. Refute it at one input. -/
def fnExactIsVagueWrong : ChangeSpec := { name := "fnExactIsVague", fn := fun _ => fun
  | [d] => { results := [.lit (.bool false)], args := [d] }
  | _ => none }
def FnExactIsVagueWrongFalsely : Prop := fnExactIsVagueRow.holds Try.pinned (OpenSpec.ofChange fnExactIsVagueWrong)

/-- 'laws.FnByteStrings': WHATEVER THE INPUT: true; the input reads as it did. -/
def fnByteStringsSpec : ChangeSpec := { name := "fnByteStrings", fn := fun _ => fun
  | [d] => { results := [.lit (.bool true)], args := [d] }
  | _ => none }
def fnByteStringsRow : OpenClaim := { program := "ytoocbgjcigadfac", sum := "f15639ba9330512c785a37e17afcca4046ee9c2d99944d898a455a9fd939de7e", func := "loop.example/g03007/laws.FnByteStrings", spec := "fnByteStrings", apart := false }
def FnByteStringsSaid : Prop := fnByteStringsRow.holds Try.pinned (OpenSpec.ofChange fnByteStringsSpec)

/-- ITS FALSE NEIGHBOUR: 'it returns false'. Refute it at one input. -/
def fnByteStringsWrong : ChangeSpec := { name := "fnByteStrings", fn := fun _ => fun
  | [d] => { results := [.lit (.bool false)], args := [d] }
  | _ => none }
def FnByteStringsWrongFalsely : Prop := fnByteStringsRow.holds Try.pinned (OpenSpec.ofChange fnByteStringsWrong)

/-- 'laws.FnExactFindReport': WHATEVER THE INPUT: true; the input reads as it did. -/
def fnExactFindReportSpec : ChangeSpec := { name := "fnExactFindReport", fn := fun _ => fun
  | [d1, d2] => { results := [.lit (.bool true)], args := [d1, d2] }
  | _ => none }
def fnExactFindReportRow : OpenClaim := { program := "ytoocbgjcigadfac", sum := "f15639ba9330512c785a37e17afcca4046ee9c2d99944d898a455a9fd939de7e", func := "loop.example/g03007/laws.FnExactFindReport", spec := "fnExactFindReport", unfollowed := true, recurses := true, apart := false }
def FnExactFindReportSaid : Prop := fnExactFindReportRow.holds Try.pinned (OpenSpec.ofChange fnExactFindReportSpec)

/-- ITS FALSE NEIGHBOUR: 'it returns false'. Refute it at one input. -/
def fnExactFindReportWrong : ChangeSpec := { name := "fnExactFindReport", fn := fun _ => fun
  | [d1, d2] => { results := [.lit (.bool false)], args := [d1, d2] }
  | _ => none }
def FnExactFindReportWrongFalsely : Prop := fnExactFindReportRow.holds Try.pinned (OpenSpec.ofChange fnExactFindReportWrong)

/-- 'laws.FnExactFoundAt': WHATEVER THE INPUT: true; the input reads as it did. -/
def fnExactFoundAtSpec : ChangeSpec := { name := "fnExactFoundAt", fn := fun _ => fun
  | [d1, d2] => { results := [.lit (.bool true)], args := [d1, d2] }
  | _ => none }
def fnExactFoundAtRow : OpenClaim := { program := "ytoocbgjcigadfac", sum := "f15639ba9330512c785a37e17afcca4046ee9c2d99944d898a455a9fd939de7e", func := "loop.example/g03007/laws.FnExactFoundAt", spec := "fnExactFoundAt", apart := false }
def FnExactFoundAtSaid : Prop := fnExactFoundAtRow.holds Try.pinned (OpenSpec.ofChange fnExactFoundAtSpec)

/-- ITS FALSE NEIGHBOUR: 'it returns false'. Refute it at one input. -/
def fnExactFoundAtWrong : ChangeSpec := { name := "fnExactFoundAt", fn := fun _ => fun
  | [d1, d2] => { results := [.lit (.bool false)], args := [d1, d2] }
  | _ => none }
def FnExactFoundAtWrongFalsely : Prop := fnExactFoundAtRow.holds Try.pinned (OpenSpec.ofChange fnExactFoundAtWrong)

/- THE SECOND FORM. 'bulk': how many values and letters a reading holds, each counted each time it is reached (what is shared counts as often as it is met; a slice's spare places count too). A statement '..UptoSaid' is the law's where the arguments, and the package variables that the reading takes, are together of bulk at most 1048576: NARROWER than '..Said'. Prove '..Said' where nothing that the law and all that it calls make is longer than what came in: it says more and counts as full. Else prove '..UptoSaid'. A law counts once. -/
mutual
def uptoBulk {H : Type} : DataW H → Nat
  | .lit (.string bytes) => bytes.length + 1
  | .lit _ => 1
  | .nil => 1
  | .ptr d => uptoBulk d + 1
  | .slice elems spare => uptoBulkAll elems + uptoBulkAll spare + 1
  | .agg parts => uptoBulkAll parts + 1
  | .iface _ d => uptoBulk d + 1
  | .map entries => uptoBulkEntries entries + 1
  | .held _ => 1
def uptoBulkAll {H : Type} : List (DataW H) → Nat
  | [] => 0
  | d :: r => uptoBulk d + uptoBulkAll r
def uptoBulkEntries {H : Type} : List (Lit × DataW H) → Nat
  | [] => 0
  | x :: r => uptoBulkEntry x + uptoBulkEntries r
def uptoBulkEntry {H : Type} : Lit × DataW H → Nat
  | (.string bytes, d) => bytes.length + uptoBulk d + 1
  | (_, d) => uptoBulk d + 1
 end
def uptoSmall : (H : Type) → List (DataW H) → Bool := fun _ ds => decide (uptoBulkAll ds ≤ 1048576)
def OpenSpec.upto (s : _root_.Go.ChangeSpec) : _root_.Go.OpenSpec := { _root_.Go.OpenSpec.ofChange s with cond := some uptoSmall }

/-- 'laws.FnExactIsReport', WHERE WHAT IT READS IS OF BULK AT MOST 1048576: true; the input reads as it did. -/
def fnExactIsReportUptoRow : OpenClaim := { program := "ytoocbgjcigadfac", sum := "f15639ba9330512c785a37e17afcca4046ee9c2d99944d898a455a9fd939de7e", func := "loop.example/g03007/laws.FnExactIsReport", spec := "fnExactIsReport", apart := false, narrowed := true }
def FnExactIsReportUptoSaid : Prop := fnExactIsReportUptoRow.holds Try.pinned (OpenSpec.upto fnExactIsReportSpec)

/-- 'laws.FnExactDecodeInts', WHERE WHAT IT READS IS OF BULK AT MOST 1048576: true; the input reads as it did. -/
def fnExactDecodeIntsUptoRow : OpenClaim := { program := "ytoocbgjcigadfac", sum := "f15639ba9330512c785a37e17afcca4046ee9c2d99944d898a455a9fd939de7e", func := "loop.example/g03007/laws.FnExactDecodeInts", spec := "fnExactDecodeInts", apart := false, narrowed := true }
def FnExactDecodeIntsUptoSaid : Prop := fnExactDecodeIntsUptoRow.holds Try.pinned (OpenSpec.upto fnExactDecodeIntsSpec)

/-- 'laws.FnExactIsVague', WHERE WHAT IT READS IS OF BULK AT MOST 1048576: true; the input reads as it did. -/
def fnExactIsVagueUptoRow : OpenClaim := { program := "ytoocbgjcigadfac", sum := "f15639ba9330512c785a37e17afcca4046ee9c2d99944d898a455a9fd939de7e", func := "loop.example/g03007/laws.FnExactIsVague", spec := "fnExactIsVague", apart := false, narrowed := true }
def FnExactIsVagueUptoSaid : Prop := fnExactIsVagueUptoRow.holds Try.pinned (OpenSpec.upto fnExactIsVagueSpec)

/-- 'laws.FnByteStrings', WHERE WHAT IT READS IS OF BULK AT MOST 1048576: true; the input reads as it did. -/
def fnByteStringsUptoRow : OpenClaim := { program := "ytoocbgjcigadfac", sum := "f15639ba9330512c785a37e17afcca4046ee9c2d99944d898a455a9fd939de7e", func := "loop.example/g03007/laws.FnByteStrings", spec := "fnByteStrings", apart := false, narrowed := true }
def FnByteStringsUptoSaid : Prop := fnByteStringsUptoRow.holds Try.pinned (OpenSpec.upto fnByteStringsSpec)

/-- 'laws.FnExactFindReport', WHERE WHAT IT READS IS OF BULK AT MOST 1048576: true; the input reads as it did. -/
def fnExactFindReportUptoRow : OpenClaim := { program := "ytoocbgjcigadfac", sum := "f15639ba9330512c785a37e17afcca4046ee9c2d99944d898a455a9fd939de7e", func := "loop.example/g03007/laws.FnExactFindReport", spec := "fnExactFindReport", unfollowed := true, recurses := true, apart := false, narrowed := true }
def FnExactFindReportUptoSaid : Prop := fnExactFindReportUptoRow.holds Try.pinned (OpenSpec.upto fnExactFindReportSpec)

/-- 'laws.FnExactFoundAt', WHERE WHAT IT READS IS OF BULK AT MOST 1048576: true; the input reads as it did. -/
def fnExactFoundAtUptoRow : OpenClaim := { program := "ytoocbgjcigadfac", sum := "f15639ba9330512c785a37e17afcca4046ee9c2d99944d898a455a9fd939de7e", func := "loop.example/g03007/laws.FnExactFoundAt", spec := "fnExactFoundAt", apart := false, narrowed := true }
def FnExactFoundAtUptoSaid : Prop := fnExactFoundAtUptoRow.holds Try.pinned (OpenSpec.upto fnExactFoundAtSpec)

end Rows
end Go.Proofs.Ytoocbgjcigadfac
