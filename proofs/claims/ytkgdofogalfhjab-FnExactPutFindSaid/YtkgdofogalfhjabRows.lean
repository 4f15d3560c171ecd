/-
  No cell of these rows narrows 'for every input' (looked for: loops, veiled, ifaces, maps, wideKeys, modest, calm, conditions, laid).
  DERIVED. THE GIVEN ROWS OF THIS SEAT. 6 by the template 'for every input the law returns true; each argument reads behind the call as it read before'; 0 by the template 'total and deterministic' (their statements: YtkgdofogalfhjabTotals.lean).
  GIVEN WITH THE SEED: the statements are not yours to turn. If you find one false, say at which input.
  Laid BY PROGRAM, IN A SANDBOX (cutbox-rows.mjs): the forced cells as the released guide's own fill.sh prints them over the translation e7571157d4cefab2… (all of the seat's roots in one cut). By AI agents, Wed Nov 11 2026. No macro, syntax, notation, axiom, sorry.
-/
import Derived.Test.YtkgdofogalfhjabChecked
import GoSem.Claim
import GoSem.ClaimJoined
import GoSem.ClaimMapViews
import Derived.JoinedTies
import Derived.KernelRfl
namespace Go.Proofs.Ytkgdofogalfhjab
/- THE CELL 'sum', in the pinned program and in every row, IS THE sha256 OF THE DUMP (.gsa) THAT YtkgdofogalfhjabProg.lean LOADS. Nothing in Lean hashes anything: it is a label: what it is worth is what the hold of that sum in a sandbox is worth. -/
noncomputable def Try.pinned : Pinned := { name := "ytkgdofogalfhjab", sum := "e7571157d4cefab225affe9d25a23205db003ff8dccfb191ac653ec52024ab37", checked := Try.checked }
namespace Rows
def none {H : Type} : Left H := { results := [], args := [] }

/-- 'laws.FnExactMod': WHATEVER THE INPUT: true; the input reads as it did. -/
def fnExactModSpec : ChangeSpec := { name := "fnExactMod", fn := fun _ => fun
  | [d1, d2] => { results := [.lit (.bool true)], args := [d1, d2] }
  | _ => none }
def fnExactModRow : OpenClaim := { program := "ytkgdofogalfhjab", sum := "e7571157d4cefab225affe9d25a23205db003ff8dccfb191ac653ec52024ab37", func := "loop.example/g03007/laws.FnExactMod", spec := "fnExactMod", apart := false }
def FnExactModSaid : Prop := fnExactModRow.holds Try.pinned (OpenSpec.ofChange fnExactModSpec)

/-- ITS FALSE NEIGHBOUR: 'it returns false'. Refute it at one input. -/
def fnExactModWrong : ChangeSpec := { name := "fnExactMod", fn := fun _ => fun
  | [d1, d2] => { results := [.lit (.bool false)], args := [d1, d2] }
  | _ => none }
def FnExactModWrongFalsely : Prop := fnExactModRow.holds Try.pinned (OpenSpec.ofChange fnExactModWrong)

/-- 'laws.FnExactPutFind': WHATEVER THE INPUT: true; the input reads as it did. -/
def fnExactPutFindSpec : ChangeSpec := { name := "fnExactPutFind", fn := fun _ => fun
  | [d1, d2] => { results := [.lit (.bool true)], args := [d1, d2] }
  | _ => none }
def fnExactPutFindRow : OpenClaim := { program := "ytkgdofogalfhjab", sum := "e7571157d4cefab225affe9d25a23205db003ff8dccfb191ac653ec52024ab37", func := "loop.example/g03007/laws.FnExactPutFind", spec := "fnExactPutFind", inPlace := ["slices.overlaps[loop.example/g03007/impl.Find]"], unfollowed := true, recurses := true, apart := false }
def FnExactPutFindSaid : Prop := fnExactPutFindRow.holds Try.pinned (OpenSpec.ofChange fnExactPutFindSpec)

/-- ITS FALSE NEIGHBOUR: 'it returns false'. Refute it at one input. -/
def fnExactPutFindWrong : ChangeSpec := { name := "fnExactPutFind", fn := fun _ => fun
  | [d1, d2] => { results := [.lit (.bool false)], args := [d1, d2] }
  | _ => none }
def FnExactPutFindWrongFalsely : Prop := fnExactPutFindRow.holds Try.pinned (OpenSpec.ofChange fnExactPutFindWrong)

/-- 'laws.FnExactSameKind': WHATEVER THE INPUT: true; the input reads as it did. -/
def fnExactSameKindSpec : ChangeSpec := { name := "fnExactSameKind", fn := fun _ => fun
  | [d1, d2] => { results := [.lit (.bool true)], args := [d1, d2] }
  | _ => none }
def fnExactSameKindRow : OpenClaim := { program := "ytkgdofogalfhjab", sum := "e7571157d4cefab225affe9d25a23205db003ff8dccfb191ac653ec52024ab37", func := "loop.example/g03007/laws.FnExactSameKind", spec := "fnExactSameKind", apart := false }
def FnExactSameKindSaid : Prop := fnExactSameKindRow.holds Try.pinned (OpenSpec.ofChange fnExactSameKindSpec)

/-- ITS FALSE NEIGHBOUR: 'it returns false'. Refute it at one input. -/
def fnExactSameKindWrong : ChangeSpec := { name := "fnExactSameKind", fn := fun _ => fun
  | [d1, d2] => { results := [.lit (.bool false)], args := [d1, d2] }
  | _ => none }
def FnExactSameKindWrongFalsely : Prop := fnExactSameKindRow.holds Try.pinned (OpenSpec.ofChange fnExactSameKindWrong)

/-- 'laws.FnExactEqualBytes': WHATEVER THE INPUT: true; the input reads as it did. -/
def fnExactEqualBytesSpec : ChangeSpec := { name := "fnExactEqualBytes", fn := fun _ => fun
  | [d1, d2] => { results := [.lit (.bool true)], args := [d1, d2] }
  | _ => none }
def fnExactEqualBytesRow : OpenClaim := { program := "ytkgdofogalfhjab", sum := "e7571157d4cefab225affe9d25a23205db003ff8dccfb191ac653ec52024ab37", func := "loop.example/g03007/laws.FnExactEqualBytes", spec := "fnExactEqualBytes", apart := false }
def FnExactEqualBytesSaid : Prop := fnExactEqualBytesRow.holds Try.pinned (OpenSpec.ofChange fnExactEqualBytesSpec)

/-- ITS FALSE NEIGHBOUR: 'it returns false'. Refute it at one input. -/
def fnExactEqualBytesWrong : ChangeSpec := { name := "fnExactEqualBytes", fn := fun _ => fun
  | [d1, d2] => { results := [.lit (.bool false)], args := [d1, d2] }
  | _ => none }
def FnExactEqualBytesWrongFalsely : Prop := fnExactEqualBytesRow.holds Try.pinned (OpenSpec.ofChange fnExactEqualBytesWrong)

/-- 'laws.FnExactHours': WHATEVER THE INPUT: true; the input reads as it did. -/
def fnExactHoursSpec : ChangeSpec := { name := "fnExactHours", fn := fun _ => fun
  | [d] => { results := [.lit (.bool true)], args := [d] }
  | _ => none }
def fnExactHoursRow : OpenClaim := { program := "ytkgdofogalfhjab", sum := "e7571157d4cefab225affe9d25a23205db003ff8dccfb191ac653ec52024ab37", func := "loop.example/g03007/laws.FnExactHours", spec := "fnExactHours", apart := false }
def FnExactHoursSaid : Prop := fnExactHoursRow.holds Try.pinned (OpenSpec.ofChange fnExactHoursSpec)

/-- ITS FALSE NEIGHBOUR: 'it returns false'. Refute it at one input. -/
def fnExactHoursWrong : ChangeSpec := { name := "fnExactHours", fn := fun _ => fun
  | [d] => { results := [.lit (.bool false)], args := [d] }
  | _ => none }
def FnExactHoursWrongFalsely : Prop := fnExactHoursRow.holds Try.pinned (OpenSpec.ofChange fnExactHoursWrong)

/-- 'laws.FnExactIsFind': WHATEVER THE INPUT: true; the input reads as it did. -/
def fnExactIsFindSpec : ChangeSpec := { name := "fnExactIsFind", fn := fun _ => fun
  | [d] => { results := [.lit (.bool true)], args := [d] }
  | _ => none }
def fnExactIsFindRow : OpenClaim := { program := "ytkgdofogalfhjab", sum := "e7571157d4cefab225affe9d25a23205db003ff8dccfb191ac653ec52024ab37", func := "loop.example/g03007/laws.FnExactIsFind", spec := "fnExactIsFind", apart := false }
def FnExactIsFindSaid : Prop := fnExactIsFindRow.holds Try.pinned (OpenSpec.ofChange fnExactIsFindSpec)

/-- ITS FALSE NEIGHBOUR: 'it returns false'. Refute it at one input. -/
def fnExactIsFindWrong : ChangeSpec := { name := "fnExactIsFind", fn := fun _ => fun
  | [d] => { results := [.lit (.bool false)], args := [d] }
  | _ => none }
def FnExactIsFindWrongFalsely : Prop := fnExactIsFindRow.holds Try.pinned (OpenSpec.ofChange fnExactIsFindWrong)

/- THE SECOND FORM. 'bulk': how many values and letters a reading holds, each counted each time it is reached (what is shared counts as often as it is met; a slice's spare places count too). A statement '..UptoSaid' is the law's where the arguments, and the package variables that the reading takes, are together of bulk at most 1048576: NARROWER than '..Said'. Prove '..Said' where nothing that the law and all that it calls make is longer than what came in: it says more and counts as full. Else prove '..UptoSaid'. A law counts once. -/
mutual
def uptoBulk {H : Type} : DataW H → Nat
  | .lit (.string bytes) => bytes.length + 1
  | .lit _ => 1
  | .nil => 1
  | .ptr d => uptoBulk d + 1
  | .slice elems spare => uptoBulkAll elems + uptoBulkAll spare + 1
  | .agg parts => uptoBulkAll parts + 1
  | .iface _ d => uptoBulk d + 1
  | .map entries => uptoBulkEntries entries + 1
  | .held _ => 1
def uptoBulkAll {H : Type} : List (DataW H) → Nat
  | [] => 0
  | d :: r => uptoBulk d + uptoBulkAll r
def uptoBulkEntries {H : Type} : List (Lit × DataW H) → Nat
  | [] => 0
  | x :: r => uptoBulkEntry x + uptoBulkEntries r
def uptoBulkEntry {H : Type} : Lit × DataW H → Nat
  | (.string bytes, d) => bytes.length + uptoBulk d + 1
  | (_, d) => uptoBulk d + 1
 end
def uptoSmall : (H : Type) → List (DataW H) → Bool := fun _ ds => decide (uptoBulkAll ds ≤ 1048576)
def OpenSpec.upto (s : _root_.Go.ChangeSpec) : _root_.Go.OpenSpec := { _root_.Go.OpenSpec.ofChange s with cond := some uptoSmall }

/-- 'laws.FnExactMod', WHERE WHAT IT READS IS OF BULK AT MOST 1048576: true; the input reads as it did. -/
def fnExactModUptoRow : OpenClaim := { program := "ytkgdofogalfhjab", sum := "e7571157d4cefab225affe9d25a23205db003ff8dccfb191ac653ec52024ab37", func := "loop.example/g03007/laws.FnExactMod", spec := "fnExactMod", apart := false, narrowed := true }
def FnExactModUptoSaid : Prop := fnExactModUptoRow.holds Try.pinned (OpenSpec.upto fnExactModSpec)

/-- 'laws.FnExactPutFind', WHERE WHAT IT READS IS OF BULK AT MOST 1048576: true; the input reads as it did. -/
def fnExactPutFindUptoRow : OpenClaim := { program := "ytkgdofogalfhjab", sum := "e7571157d4cefab225affe9d25a23205db003ff8dccfb191ac653ec52024ab37", func := "loop.example/g03007/laws.FnExactPutFind", spec := "fnExactPutFind", inPlace := ["slices.overlaps[loop.example/g03007/impl.Find]"], unfollowed := true, recurses := true, apart := false, narrowed := true }
def FnExactPutFindUptoSaid : Prop := fnExactPutFindUptoRow.holds Try.pinned (OpenSpec.upto fnExactPutFindSpec)

/-- 'laws.FnExactSameKind', WHERE WHAT IT READS IS OF BULK AT MOST 1048576: true; the input reads as it did. -/
def fnExactSameKindUptoRow : OpenClaim := { program := "ytkgdofogalfhjab", sum := "e7571157d4cefab225affe9d25a23205db003ff8dccfb191ac653ec52024ab37", func := "loop.example/g03007/laws.FnExactSameKind", spec := "fnExactSameKind", apart := false, narrowed := true }
def FnExactSameKindUptoSaid : Prop := fnExactSameKindUptoRow.holds Try.pinned (OpenSpec.upto fnExactSameKindSpec)

/-- 'laws.FnExactEqualBytes', WHERE WHAT IT READS IS OF BULK AT MOST 1048576: true; the input reads as it did. -/
def fnExactEqualBytesUptoRow : OpenClaim := { program := "ytkgdofogalfhjab", sum := "e7571157d4cefab225affe9d25a23205db003ff8dccfb191ac653ec52024ab37", func := "loop.example/g03007/laws.FnExactEqualBytes", spec := "fnExactEqualBytes", apart := false, narrowed := true }
def FnExactEqualBytesUptoSaid : Prop := fnExactEqualBytesUptoRow.holds Try.pinned (OpenSpec.upto fnExactEqualBytesSpec)

/-- 'laws.FnExactHours', WHERE WHAT IT READS IS OF BULK AT MOST 1048576: true; the input reads as it did. -/
def fnExactHoursUptoRow : OpenClaim := { program := "ytkgdofogalfhjab", sum := "e7571157d4cefab225affe9d25a23205db003ff8dccfb191ac653ec52024ab37", func := "loop.example/g03007/laws.FnExactHours", spec := "fnExactHours", apart := false, narrowed := true }
def FnExactHoursUptoSaid : Prop := fnExactHoursUptoRow.holds Try.pinned (OpenSpec.upto fnExactHoursSpec)

/-- 'laws.FnExactIsFind', WHERE WHAT IT READS IS OF BULK AT MOST 1048576: true; the input reads as it did. -/
def fnExactIsFindUptoRow : OpenClaim := { program := "ytkgdofogalfhjab", sum := "e7571157d4cefab225affe9d25a23205db003ff8dccfb191ac653ec52024ab37", func := "loop.example/g03007/laws.FnExactIsFind", spec := "fnExactIsFind", apart := false, narrowed := true }
def FnExactIsFindUptoSaid : Prop := fnExactIsFindUptoRow.holds Try.pinned (OpenSpec.upto fnExactIsFindSpec)

end Rows
end Go.Proofs.Ytkgdofogalfhjab
