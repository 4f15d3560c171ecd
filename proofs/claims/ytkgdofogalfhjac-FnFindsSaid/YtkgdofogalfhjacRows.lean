/-
  No cell of these rows narrows 'for every input' (looked for: loops, veiled, ifaces, maps, wideKeys, modest, calm, conditions, laid).
  DERIVED. THE GIVEN ROWS OF THIS SEAT. 6 by the template 'for every input the law returns true; each argument reads behind the call as it read before'; 0 by the template 'total and deterministic' (their statements: YtkgdofogalfhjacTotals.lean).
  GIVEN WITH THE SEED: the statements are not yours to turn. If you find one false, say at which input.
  Laid BY PROGRAM, IN A SANDBOX (cutbox-rows.mjs): the forced cells as the released guide's own fill.sh prints them over the translation b4d801ec3aaf50ca… (all of the seat's roots in one cut). By AI agents, Wed Nov 11 2026. No macro, syntax, notation, axiom, sorry.
-/
import Derived.Test.YtkgdofogalfhjacChecked
import GoSem.Claim
import GoSem.ClaimJoined
import GoSem.ClaimMapViews
import Derived.JoinedTies
import Derived.KernelRfl
namespace Go.Proofs.Ytkgdofogalfhjac
/- THE CELL 'sum', in the pinned program and in every row, IS THE sha256 OF THE DUMP (.gsa) THAT YtkgdofogalfhjacProg.lean LOADS. Nothing in Lean hashes anything: it is a label: what it is worth is what the hold of that sum in a sandbox is worth. -/
noncomputable def Try.pinned : Pinned := { name := "ytkgdofogalfhjac", sum := "b4d801ec3aaf50ca74b70cbf203c2c8c1fcd9e1386f47da66edff82cd6d9f4f1", checked := Try.checked }
namespace Rows
def none {H : Type} : Left H := { results := [], args := [] }

/-- 'laws.FnExactEqualInts': WHATEVER THE INPUT: true; the input reads as it did. -/
def fnExactEqualIntsSpec : ChangeSpec := { name := "fnExactEqualInts", fn := fun _ => fun
  | [d1, d2] => { results := [.lit (.bool true)], args := [d1, d2] }
  | _ => none }
def fnExactEqualIntsRow : OpenClaim := { program := "ytkgdofogalfhjac", sum := "b4d801ec3aaf50ca74b70cbf203c2c8c1fcd9e1386f47da66edff82cd6d9f4f1", func := "loop.example/g03007/laws.FnExactEqualInts", spec := "fnExactEqualInts", apart := false }
def FnExactEqualIntsSaid : Prop := fnExactEqualIntsRow.holds Try.pinned (OpenSpec.ofChange fnExactEqualIntsSpec)

/-- ITS FALSE NEIGHBOUR: 'it returns false'. Refute it at one input. -/
def fnExactEqualIntsWrong : ChangeSpec := { name := "fnExactEqualInts", fn := fun _ => fun
  | [d1, d2] => { results := [.lit (.bool false)], args := [d1, d2] }
  | _ => none }
def FnExactEqualIntsWrongFalsely : Prop := fnExactEqualIntsRow.holds Try.pinned (OpenSpec.ofChange fnExactEqualIntsWrong)

/-- 'laws.FnFinds': WHATEVER THE INPUT: true; the input reads as it did. -/
def fnFindsSpec : ChangeSpec := { name := "fnFinds", fn := fun _ => fun
  | [d] => { results := [.lit (.bool true)], args := [d] }
  | _ => none }
def fnFindsRow : OpenClaim := { program := "ytkgdofogalfhjac", sum := "b4d801ec3aaf50ca74b70cbf203c2c8c1fcd9e1386f47da66edff82cd6d9f4f1", func := "loop.example/g03007/laws.FnFinds", spec := "fnFinds", inPlace := ["slices.overlaps[loop.example/g03007/impl.Find]"], unfollowed := true, recurses := true, apart := false }
def FnFindsSaid : Prop := fnFindsRow.holds Try.pinned (OpenSpec.ofChange fnFindsSpec)

/-- ITS FALSE NEIGHBOUR: 'it returns false'. Refute it at one input. -/
def fnFindsWrong : ChangeSpec := { name := "fnFinds", fn := fun _ => fun
  | [d] => { results := [.lit (.bool false)], args := [d] }
  | _ => none }
def FnFindsWrongFalsely : Prop := fnFindsRow.holds Try.pinned (OpenSpec.ofChange fnFindsWrong)

/-- 'laws.FnExactHull': WHATEVER THE INPUT: true; the input reads as it did. -/
def fnExactHullSpec : ChangeSpec := { name := "fnExactHull", fn := fun _ => fun
  | [d1, d2] => { results := [.lit (.bool true)], args := [d1, d2] }
  | _ => none }
def fnExactHullRow : OpenClaim := { program := "ytkgdofogalfhjac", sum := "b4d801ec3aaf50ca74b70cbf203c2c8c1fcd9e1386f47da66edff82cd6d9f4f1", func := "loop.example/g03007/laws.FnExactHull", spec := "fnExactHull", apart := false }
def FnExactHullSaid : Prop := fnExactHullRow.holds Try.pinned (OpenSpec.ofChange fnExactHullSpec)

/-- ITS FALSE NEIGHBOUR: 'it returns false'. Refute it at one input. -/
def fnExactHullWrong : ChangeSpec := { name := "fnExactHull", fn := fun _ => fun
  | [d1, d2] => { results := [.lit (.bool false)], args := [d1, d2] }
  | _ => none }
def FnExactHullWrongFalsely : Prop := fnExactHullRow.holds Try.pinned (OpenSpec.ofChange fnExactHullWrong)

/-- 'laws.FnExactWiden': WHATEVER THE INPUT: true; the input reads as it did. -/
def fnExactWidenSpec : ChangeSpec := { name := "fnExactWiden", fn := fun _ => fun
  | [d1, d2] => { results := [.lit (.bool true)], args := [d1, d2] }
  | _ => none }
def fnExactWidenRow : OpenClaim := { program := "ytkgdofogalfhjac", sum := "b4d801ec3aaf50ca74b70cbf203c2c8c1fcd9e1386f47da66edff82cd6d9f4f1", func := "loop.example/g03007/laws.FnExactWiden", spec := "fnExactWiden", apart := false }
def FnExactWidenSaid : Prop := fnExactWidenRow.holds Try.pinned (OpenSpec.ofChange fnExactWidenSpec)

/-- ITS FALSE NEIGHBOUR: 'it returns false'. Refute it at one input. -/
def fnExactWidenWrong : ChangeSpec := { name := "fnExactWiden", fn := fun _ => fun
  | [d1, d2] => { results := [.lit (.bool false)], args := [d1, d2] }
  | _ => none }
def FnExactWidenWrongFalsely : Prop := fnExactWidenRow.holds Try.pinned (OpenSpec.ofChange fnExactWidenWrong)

/-- 'laws.FnExactMeet': WHATEVER THE INPUT: true; the input reads as it did. -/
def fnExactMeetSpec : ChangeSpec := { name := "fnExactMeet", fn := fun _ => fun
  | [d1, d2] => { results := [.lit (.bool true)], args := [d1, d2] }
  | _ => none }
def fnExactMeetRow : OpenClaim := { program := "ytkgdofogalfhjac", sum := "b4d801ec3aaf50ca74b70cbf203c2c8c1fcd9e1386f47da66edff82cd6d9f4f1", func := "loop.example/g03007/laws.FnExactMeet", spec := "fnExactMeet", apart := false }
def FnExactMeetSaid : Prop := fnExactMeetRow.holds Try.pinned (OpenSpec.ofChange fnExactMeetSpec)

/-- ITS FALSE NEIGHBOUR: 'it returns false'. Refute it at one input. -/
def fnExactMeetWrong : ChangeSpec := { name := "fnExactMeet", fn := fun _ => fun
  | [d1, d2] => { results := [.lit (.bool false)], args := [d1, d2] }
  | _ => none }
def FnExactMeetWrongFalsely : Prop := fnExactMeetRow.holds Try.pinned (OpenSpec.ofChange fnExactMeetWrong)

/-- 'laws.FnExactParseInt': WHATEVER THE INPUT: true; the input reads as it did. -/
def fnExactParseIntSpec : ChangeSpec := { name := "fnExactParseInt", fn := fun _ => fun
  | [d] => { results := [.lit (.bool true)], args := [d] }
  | _ => none }
def fnExactParseIntRow : OpenClaim := { program := "ytkgdofogalfhjac", sum := "b4d801ec3aaf50ca74b70cbf203c2c8c1fcd9e1386f47da66edff82cd6d9f4f1", func := "loop.example/g03007/laws.FnExactParseInt", spec := "fnExactParseInt", apart := false }
def FnExactParseIntSaid : Prop := fnExactParseIntRow.holds Try.pinned (OpenSpec.ofChange fnExactParseIntSpec)

/-- ITS FALSE NEIGHBOUR: 'it returns false'. Refute it at one input. -/
def fnExactParseIntWrong : ChangeSpec := { name := "fnExactParseInt", fn := fun _ => fun
  | [d] => { results := [.lit (.bool false)], args := [d] }
  | _ => none }
def FnExactParseIntWrongFalsely : Prop := fnExactParseIntRow.holds Try.pinned (OpenSpec.ofChange fnExactParseIntWrong)

/- THE SECOND FORM. 'bulk': how many values and letters a reading holds, each counted each time it is reached (what is shared counts as often as it is met; a slice's spare places count too). A statement '..UptoSaid' is the law's where the arguments, and the package variables that the reading takes, are together of bulk at most 1048576: NARROWER than '..Said'. Prove '..Said' where nothing that the law and all that it calls make is longer than what came in: it says more and counts as full. Else prove '..UptoSaid'. A law counts once. -/
mutual
def uptoBulk {H : Type} : DataW H → Nat
  | .lit (.string bytes) => bytes.length + 1
  | .lit _ => 1
  | .nil => 1
  | .ptr d => uptoBulk d + 1
  | .slice elems spare => uptoBulkAll elems + uptoBulkAll spare + 1
  | .agg parts => uptoBulkAll parts + 1
  | .iface _ d => uptoBulk d + 1
  | .map entries => uptoBulkEntries entries + 1
  | .held _ => 1
def uptoBulkAll {H : Type} : List (DataW H) → Nat
  | [] => 0
  | d :: r => uptoBulk d + uptoBulkAll r
def uptoBulkEntries {H : Type} : List (Lit × DataW H) → Nat
  | [] => 0
  | x :: r => uptoBulkEntry x + uptoBulkEntries r
def uptoBulkEntry {H : Type} : Lit × DataW H → Nat
  | (.string bytes, d) => bytes.length + uptoBulk d + 1
  | (_, d) => uptoBulk d + 1
 end
def uptoSmall : (H : Type) → List (DataW H) → Bool := fun _ ds => decide (uptoBulkAll ds ≤ 1048576)
def OpenSpec.upto (s : _root_.Go.ChangeSpec) : _root_.Go.OpenSpec := { _root_.Go.OpenSpec.ofChange s with cond := some uptoSmall }

/-- 'laws.FnExactEqualInts', WHERE WHAT IT READS IS OF BULK AT MOST 1048576: true; the input reads as it did. -/
def fnExactEqualIntsUptoRow : OpenClaim := { program := "ytkgdofogalfhjac", sum := "b4d801ec3aaf50ca74b70cbf203c2c8c1fcd9e1386f47da66edff82cd6d9f4f1", func := "loop.example/g03007/laws.FnExactEqualInts", spec := "fnExactEqualInts", apart := false, narrowed := true }
def FnExactEqualIntsUptoSaid : Prop := fnExactEqualIntsUptoRow.holds Try.pinned (OpenSpec.upto fnExactEqualIntsSpec)

/-- 'laws.FnFinds', WHERE WHAT IT READS IS OF BULK AT MOST 1048576: true; the input reads as it did. -/
def fnFindsUptoRow : OpenClaim := { program := "ytkgdofogalfhjac", sum := "b4d801ec3aaf50ca74b70cbf203c2c8c1fcd9e1386f47da66edff82cd6d9f4f1", func := "loop.example/g03007/laws.FnFinds", spec := "fnFinds", inPlace := ["slices.overlaps[loop.example/g03007/impl.Find]"], unfollowed := true, recurses := true, apart := false, narrowed := true }
def FnFindsUptoSaid : Prop := fnFindsUptoRow.holds Try.pinned (OpenSpec.upto fnFindsSpec)

/-- 'laws.FnExactHull', WHERE WHAT IT READS IS OF BULK AT MOST 1048576: true; the input reads as it did. -/
def fnExactHullUptoRow : OpenClaim := { program := "ytkgdofogalfhjac", sum := "b4d801ec3aaf50ca74b70cbf203c2c8c1fcd9e1386f47da66edff82cd6d9f4f1", func := "loop.example/g03007/laws.FnExactHull", spec := "fnExactHull", apart := false, narrowed := true }
def FnExactHullUptoSaid : Prop := fnExactHullUptoRow.holds Try.pinned (OpenSpec.upto fnExactHullSpec)

/-- 'laws.FnExactWiden', WHERE WHAT IT READS IS OF BULK AT MOST 1048576: true; the input reads as it did. -/
def fnExactWidenUptoRow : OpenClaim := { program := "ytkgdofogalfhjac", sum := "b4d801ec3aaf50ca74b70cbf203c2c8c1fcd9e1386f47da66edff82cd6d9f4f1", func := "loop.example/g03007/laws.FnExactWiden", spec := "fnExactWiden", apart := false, narrowed := true }
def FnExactWidenUptoSaid : Prop := fnExactWidenUptoRow.holds Try.pinned (OpenSpec.upto fnExactWidenSpec)

/-- 'laws.FnExactMeet', WHERE WHAT IT READS IS OF BULK AT MOST 1048576: true; the input reads as it did. -/
def fnExactMeetUptoRow : OpenClaim := { program := "ytkgdofogalfhjac", sum := "b4d801ec3aaf50ca74b70cbf203c2c8c1fcd9e1386f47da66edff82cd6d9f4f1", func := "loop.example/g03007/laws.FnExactMeet", spec := "fnExactMeet", apart := false, narrowed := true }
def FnExactMeetUptoSaid : Prop := fnExactMeetUptoRow.holds Try.pinned (OpenSpec.upto fnExactMeetSpec)

/-- 'laws.FnExactParseInt', WHERE WHAT IT READS IS OF BULK AT MOST 1048576: true; the input reads as it did. -/
def fnExactParseIntUptoRow : OpenClaim := { program := "ytkgdofogalfhjac", sum := "b4d801ec3aaf50ca74b70cbf203c2c8c1fcd9e1386f47da66edff82cd6d9f4f1", func := "loop.example/g03007/laws.FnExactParseInt", spec := "fnExactParseInt", apart := false, narrowed := true }
def FnExactParseIntUptoSaid : Prop := fnExactParseIntUptoRow.holds Try.pinned (OpenSpec.upto fnExactParseIntSpec)

end Rows
end Go.Proofs.Ytkgdofogalfhjac
