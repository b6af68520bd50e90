/-
  No cell of these rows narrows 'for every input' (looked for: loops, veiled, ifaces, maps, wideKeys, modest, calm, conditions, laid).
  DERIVED. THE GIVEN ROWS OF THIS SEAT. 7 by the template 'for every input the law returns true; each argument reads behind the call as it read before'; 0 by the template 'total and deterministic' (their statements: YtkbnegemdlnncaaTotals.lean).
  GIVEN WITH THE SEED: the statements are not yours to turn. If you find one false, say at which input.
  Laid BY PROGRAM, IN A SANDBOX (cutbox-rows.mjs): the forced cells as the released guide's own fill.sh prints them over the translation ac418780bf2419aa… (all of the seat's roots in one cut). By AI agents, Wed Nov 11 2026. No macro, syntax, notation, axiom, sorry.
-/
import Derived.Test.YtkbnegemdlnncaaChecked
import GoSem.Claim
import GoSem.ClaimJoined
import GoSem.ClaimMapViews
import Derived.JoinedTies
import Derived.KernelRfl
namespace Go.Proofs.Ytkbnegemdlnncaa
/- THE CELL 'sum', in the pinned program and in every row, IS THE sha256 OF THE DUMP (.gsa) THAT YtkbnegemdlnncaaProg.lean LOADS. Nothing in Lean hashes anything: it is a label: what it is worth is what the hold of that sum in a sandbox is worth. -/
noncomputable def Try.pinned : Pinned := { name := "ytkbnegemdlnncaa", sum := "ac418780bf2419aabf6451603babb8f8d65a7c9b7084911304a83a30ec8cb563", checked := Try.checked }
namespace Rows
def none {H : Type} : Left H := { results := [], args := [] }

/-- 'laws.FnPolys': WHATEVER THE INPUT: true; the input reads as it did. -/
def fnPolysSpec : ChangeSpec := { name := "fnPolys", fn := fun _ => fun
  | [d] => { results := [.lit (.bool true)], args := [d] }
  | _ => none }
def fnPolysRow : OpenClaim := { program := "ytkbnegemdlnncaa", sum := "ac418780bf2419aabf6451603babb8f8d65a7c9b7084911304a83a30ec8cb563", func := "loop.example/g01245/laws.FnPolys", spec := "fnPolys", unfollowed := true, recurses := true, apart := false }
def FnPolysSaid : Prop := fnPolysRow.holds Try.pinned (OpenSpec.ofChange fnPolysSpec)

/-- ITS FALSE NEIGHBOUR: 'it returns false'. Refute it at one input. -/
def fnPolysWrong : ChangeSpec := { name := "fnPolys", fn := fun _ => fun
  | [d] => { results := [.lit (.bool false)], args := [d] }
  | _ => none }
def FnPolysWrongFalsely : Prop := fnPolysRow.holds Try.pinned (OpenSpec.ofChange fnPolysWrong)

/-- 'laws.FnFactorials': WHATEVER THE INPUT: true; the input reads as it did. -/
def fnFactorialsSpec : ChangeSpec := { name := "fnFactorials", fn := fun _ => fun
  | [d] => { results := [.lit (.bool true)], args := [d] }
  | _ => none }
def fnFactorialsRow : OpenClaim := { program := "ytkbnegemdlnncaa", sum := "ac418780bf2419aabf6451603babb8f8d65a7c9b7084911304a83a30ec8cb563", func := "loop.example/g01245/laws.FnFactorials", spec := "fnFactorials", unfollowed := true, recurses := true, apart := false }
def FnFactorialsSaid : Prop := fnFactorialsRow.holds Try.pinned (OpenSpec.ofChange fnFactorialsSpec)

/-- ITS FALSE NEIGHBOUR: 'it returns false'. Refute it at one input. -/
def fnFactorialsWrong : ChangeSpec := { name := "fnFactorials", fn := fun _ => fun
  | [d] => { results := [.lit (.bool false)], args := [d] }
  | _ => none }
def FnFactorialsWrongFalsely : Prop := fnFactorialsRow.holds Try.pinned (OpenSpec.ofChange fnFactorialsWrong)

/-- 'laws.FnExactExponentialUpTo': WHATEVER THE INPUT: true; the input reads as it did. -/
def fnExactExponentialUpToSpec : ChangeSpec := { name := "fnExactExponentialUpTo", fn := fun _ => fun
  | [d1, d2, d3, d4] => { results := [.lit (.bool true)], args := [d1, d2, d3, d4] }
  | _ => none }
def fnExactExponentialUpToRow : OpenClaim := { program := "ytkbnegemdlnncaa", sum := "ac418780bf2419aabf6451603babb8f8d65a7c9b7084911304a83a30ec8cb563", func := "loop.example/g01245/laws.FnExactExponentialUpTo", spec := "fnExactExponentialUpTo", unfollowed := true, recurses := true, apart := false }
def FnExactExponentialUpToSaid : Prop := fnExactExponentialUpToRow.holds Try.pinned (OpenSpec.ofChange fnExactExponentialUpToSpec)

/-- ITS FALSE NEIGHBOUR: 'it returns false'. Refute it at one input. -/
def fnExactExponentialUpToWrong : ChangeSpec := { name := "fnExactExponentialUpTo", fn := fun _ => fun
  | [d1, d2, d3, d4] => { results := [.lit (.bool false)], args := [d1, d2, d3, d4] }
  | _ => none }
def FnExactExponentialUpToWrongFalsely : Prop := fnExactExponentialUpToRow.holds Try.pinned (OpenSpec.ofChange fnExactExponentialUpToWrong)

/-- 'laws.FnExactLogarithmUpTo': WHATEVER THE INPUT: true; the input reads as it did. -/
def fnExactLogarithmUpToSpec : ChangeSpec := { name := "fnExactLogarithmUpTo", fn := fun _ => fun
  | [d1, d2, d3, d4] => { results := [.lit (.bool true)], args := [d1, d2, d3, d4] }
  | _ => none }
def fnExactLogarithmUpToRow : OpenClaim := { program := "ytkbnegemdlnncaa", sum := "ac418780bf2419aabf6451603babb8f8d65a7c9b7084911304a83a30ec8cb563", func := "loop.example/g01245/laws.FnExactLogarithmUpTo", spec := "fnExactLogarithmUpTo", unfollowed := true, recurses := true, apart := false }
def FnExactLogarithmUpToSaid : Prop := fnExactLogarithmUpToRow.holds Try.pinned (OpenSpec.ofChange fnExactLogarithmUpToSpec)

/-- ITS FALSE NEIGHBOUR: 'it returns false'. Refute it at one input. -/
def fnExactLogarithmUpToWrong : ChangeSpec := { name := "fnExactLogarithmUpTo", fn := fun _ => fun
  | [d1, d2, d3, d4] => { results := [.lit (.bool false)], args := [d1, d2, d3, d4] }
  | _ => none }
def FnExactLogarithmUpToWrongFalsely : Prop := fnExactLogarithmUpToRow.holds Try.pinned (OpenSpec.ofChange fnExactLogarithmUpToWrong)

/-- 'laws.FnPowerSums': WHATEVER THE INPUT: true; the input reads as it did. -/
def fnPowerSumsSpec : ChangeSpec := { name := "fnPowerSums", fn := fun _ => fun
  | [d] => { results := [.lit (.bool true)], args := [d] }
  | _ => none }
def fnPowerSumsRow : OpenClaim := { program := "ytkbnegemdlnncaa", sum := "ac418780bf2419aabf6451603babb8f8d65a7c9b7084911304a83a30ec8cb563", func := "loop.example/g01245/laws.FnPowerSums", spec := "fnPowerSums", unfollowed := true, recurses := true, apart := false }
def FnPowerSumsSaid : Prop := fnPowerSumsRow.holds Try.pinned (OpenSpec.ofChange fnPowerSumsSpec)

/-- ITS FALSE NEIGHBOUR: 'it returns false'. Refute it at one input. -/
def fnPowerSumsWrong : ChangeSpec := { name := "fnPowerSums", fn := fun _ => fun
  | [d] => { results := [.lit (.bool false)], args := [d] }
  | _ => none }
def FnPowerSumsWrongFalsely : Prop := fnPowerSumsRow.holds Try.pinned (OpenSpec.ofChange fnPowerSumsWrong)

/-- 'laws.FnFractions': WHATEVER THE INPUT: true; the input reads as it did. -/
def fnFractionsSpec : ChangeSpec := { name := "fnFractions", fn := fun _ => fun
  | [d] => { results := [.lit (.bool true)], args := [d] }
  | _ => none }
def fnFractionsRow : OpenClaim := { program := "ytkbnegemdlnncaa", sum := "ac418780bf2419aabf6451603babb8f8d65a7c9b7084911304a83a30ec8cb563", func := "loop.example/g01245/laws.FnFractions", spec := "fnFractions", unfollowed := true, recurses := true, apart := false }
def FnFractionsSaid : Prop := fnFractionsRow.holds Try.pinned (OpenSpec.ofChange fnFractionsSpec)

/-- ITS FALSE NEIGHBOUR: 'it returns false'. Refute it at one input. -/
def fnFractionsWrong : ChangeSpec := { name := "fnFractions", fn := fun _ => fun
  | [d] => { results := [.lit (.bool false)], args := [d] }
  | _ => none }
def FnFractionsWrongFalsely : Prop := fnFractionsRow.holds Try.pinned (OpenSpec.ofChange fnFractionsWrong)

/-- 'laws.FnPowers': WHATEVER THE INPUT: true; the input reads as it did. -/
def fnPowersSpec : ChangeSpec := { name := "fnPowers", fn := fun _ => fun
  | [d] => { results := [.lit (.bool true)], args := [d] }
  | _ => none }
def fnPowersRow : OpenClaim := { program := "ytkbnegemdlnncaa", sum := "ac418780bf2419aabf6451603babb8f8d65a7c9b7084911304a83a30ec8cb563", func := "loop.example/g01245/laws.FnPowers", spec := "fnPowers", unfollowed := true, recurses := true, apart := false }
def FnPowersSaid : Prop := fnPowersRow.holds Try.pinned (OpenSpec.ofChange fnPowersSpec)

/-- ITS FALSE NEIGHBOUR: 'it returns false'. Refute it at one input. -/
def fnPowersWrong : ChangeSpec := { name := "fnPowers", fn := fun _ => fun
  | [d] => { results := [.lit (.bool false)], args := [d] }
  | _ => none }
def FnPowersWrongFalsely : Prop := fnPowersRow.holds Try.pinned (OpenSpec.ofChange fnPowersWrong)

/- THE SECOND FORM. 'bulk': how many values and letters a reading holds, each counted each time it is reached (what is shared counts as often as it is met; a slice's spare places count too). A statement '..UptoSaid' is the law's where the arguments, and the package variables that the reading takes, are together of bulk at most 1048576: NARROWER than '..Said'. Prove '..Said' where nothing that the law and all that it calls make is longer than what came in: it says more and counts as full. Else prove '..UptoSaid'. A law counts once. -/
mutual
def uptoBulk {H : Type} : DataW H → Nat
  | .lit (.string bytes) => bytes.length + 1
  | .lit _ => 1
  | .nil => 1
  | .ptr d => uptoBulk d + 1
  | .slice elems spare => uptoBulkAll elems + uptoBulkAll spare + 1
  | .agg parts => uptoBulkAll parts + 1
  | .iface _ d => uptoBulk d + 1
  | .map entries => uptoBulkEntries entries + 1
  | .held _ => 1
def uptoBulkAll {H : Type} : List (DataW H) → Nat
  | [] => 0
  | d :: r => uptoBulk d + uptoBulkAll r
def uptoBulkEntries {H : Type} : List (Lit × DataW H) → Nat
  | [] => 0
  | x :: r => uptoBulkEntry x + uptoBulkEntries r
def uptoBulkEntry {H : Type} : Lit × DataW H → Nat
  | (.string bytes, d) => bytes.length + uptoBulk d + 1
  | (_, d) => uptoBulk d + 1
 end
def uptoSmall : (H : Type) → List (DataW H) → Bool := fun _ ds => decide (uptoBulkAll ds ≤ 1048576)
def OpenSpec.upto (s : _root_.Go.ChangeSpec) : _root_.Go.OpenSpec := { _root_.Go.OpenSpec.ofChange s with cond := some uptoSmall }

/-- 'laws.FnPolys', WHERE WHAT IT READS IS OF BULK AT MOST 1048576: true; the input reads as it did. -/
def fnPolysUptoRow : OpenClaim := { program := "ytkbnegemdlnncaa", sum := "ac418780bf2419aabf6451603babb8f8d65a7c9b7084911304a83a30ec8cb563", func := "loop.example/g01245/laws.FnPolys", spec := "fnPolys", unfollowed := true, recurses := true, apart := false, narrowed := true }
def FnPolysUptoSaid : Prop := fnPolysUptoRow.holds Try.pinned (OpenSpec.upto fnPolysSpec)

/-- 'laws.FnFactorials', WHERE WHAT IT READS IS OF BULK AT MOST 1048576: true; the input reads as it did. -/
def fnFactorialsUptoRow : OpenClaim := { program := "ytkbnegemdlnncaa", sum := "ac418780bf2419aabf6451603babb8f8d65a7c9b7084911304a83a30ec8cb563", func := "loop.example/g01245/laws.FnFactorials", spec := "fnFactorials", unfollowed := true, recurses := true, apart := false, narrowed := true }
def FnFactorialsUptoSaid : Prop := fnFactorialsUptoRow.holds Try.pinned (OpenSpec.upto fnFactorialsSpec)

/-- 'laws.FnExactExponentialUpTo', WHERE WHAT IT READS IS OF BULK AT MOST 1048576: true; the input reads as it did. -/
def fnExactExponentialUpToUptoRow : OpenClaim := { program := "ytkbnegemdlnncaa", sum := "ac418780bf2419aabf6451603babb8f8d65a7c9b7084911304a83a30ec8cb563", func := "loop.example/g01245/laws.FnExactExponentialUpTo", spec := "fnExactExponentialUpTo", unfollowed := true, recurses := true, apart := false, narrowed := true }
def FnExactExponentialUpToUptoSaid : Prop := fnExactExponentialUpToUptoRow.holds Try.pinned (OpenSpec.upto fnExactExponentialUpToSpec)

/-- 'laws.FnExactLogarithmUpTo', WHERE WHAT IT READS IS OF BULK AT MOST 1048576: true; the input reads as it did. -/
def fnExactLogarithmUpToUptoRow : OpenClaim := { program := "ytkbnegemdlnncaa", sum := "ac418780bf2419aabf6451603babb8f8d65a7c9b7084911304a83a30ec8cb563", func := "loop.example/g01245/laws.FnExactLogarithmUpTo", spec := "fnExactLogarithmUpTo", unfollowed := true, recurses := true, apart := false, narrowed := true }
def FnExactLogarithmUpToUptoSaid : Prop := fnExactLogarithmUpToUptoRow.holds Try.pinned (OpenSpec.upto fnExactLogarithmUpToSpec)

/-- 'laws.FnPowerSums', WHERE WHAT IT READS IS OF BULK AT MOST 1048576: true; the input reads as it did. -/
def fnPowerSumsUptoRow : OpenClaim := { program := "ytkbnegemdlnncaa", sum := "ac418780bf2419aabf6451603babb8f8d65a7c9b7084911304a83a30ec8cb563", func := "loop.example/g01245/laws.FnPowerSums", spec := "fnPowerSums", unfollowed := true, recurses := true, apart := false, narrowed := true }
def FnPowerSumsUptoSaid : Prop := fnPowerSumsUptoRow.holds Try.pinned (OpenSpec.upto fnPowerSumsSpec)

/-- 'laws.FnFractions', WHERE WHAT IT READS IS OF BULK AT MOST 1048576: true; the input reads as it did. -/
def fnFractionsUptoRow : OpenClaim := { program := "ytkbnegemdlnncaa", sum := "ac418780bf2419aabf6451603babb8f8d65a7c9b7084911304a83a30ec8cb563", func := "loop.example/g01245/laws.FnFractions", spec := "fnFractions", unfollowed := true, recurses := true, apart := false, narrowed := true }
def FnFractionsUptoSaid : Prop := fnFractionsUptoRow.holds Try.pinned (OpenSpec.upto fnFractionsSpec)

/-- 'laws.FnPowers', WHERE WHAT IT READS IS OF BULK AT MOST 1048576: true; the input reads as it did. -/
def fnPowersUptoRow : OpenClaim := { program := "ytkbnegemdlnncaa", sum := "ac418780bf2419aabf6451603babb8f8d65a7c9b7084911304a83a30ec8cb563", func := "loop.example/g01245/laws.FnPowers", spec := "fnPowers", unfollowed := true, recurses := true, apart := false, narrowed := true }
def FnPowersUptoSaid : Prop := fnPowersUptoRow.holds Try.pinned (OpenSpec.upto fnPowersSpec)

end Rows
end Go.Proofs.Ytkbnegemdlnncaa
