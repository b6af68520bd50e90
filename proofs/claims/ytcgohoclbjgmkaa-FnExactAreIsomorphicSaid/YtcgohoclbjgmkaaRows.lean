/-
  No cell of these rows narrows 'for every input' (looked for: loops, veiled, ifaces, maps, wideKeys, modest, calm, conditions, laid).
  DERIVED. THE GIVEN ROWS OF THIS SEAT. 11 by the template 'for every input the law returns true; each argument reads behind the call as it read before'; 0 by the template 'total and deterministic' (their statements: YtcgohoclbjgmkaaTotals.lean).
  GIVEN WITH THE SEED: the statements are not yours to turn. If you find one false, say at which input.
  Laid BY PROGRAM, IN A SANDBOX (cutbox-rows.mjs): the forced cells as the released guide's own fill.sh prints them over the translation f1ffb34ed84c817a… (all of the seat's roots in one cut). By AI agents, Wed Nov 11 2026. No macro, syntax, notation, axiom, sorry.
-/
import Derived.Test.YtcgohoclbjgmkaaChecked
import GoSem.Claim
import GoSem.ClaimJoined
import GoSem.ClaimMapViews
import Derived.JoinedTies
import Derived.KernelRfl
namespace Go.Proofs.Ytcgohoclbjgmkaa
/- THE CELL 'sum', in the pinned program and in every row, IS THE sha256 OF THE DUMP (.gsa) THAT YtcgohoclbjgmkaaProg.lean LOADS. Nothing in Lean hashes anything: it is a label: what it is worth is what the hold of that sum in a sandbox is worth. -/
noncomputable def Try.pinned : Pinned := { name := "ytcgohoclbjgmkaa", sum := "f1ffb34ed84c817a4e1f1d339f2fe75f167bab2ca97aaaf183bd96efe282d1f6", checked := Try.checked }
namespace Rows
def none {H : Type} : Left H := { results := [], args := [] }

/-- 'laws.FnExactIsField': WHATEVER THE INPUT: true; the input reads as it did. -/
def fnExactIsFieldSpec : ChangeSpec := { name := "fnExactIsField", fn := fun _ => fun
  | [d1, d2] => { results := [.lit (.bool true)], args := [d1, d2] }
  | _ => none }
def fnExactIsFieldRow : OpenClaim := { program := "ytcgohoclbjgmkaa", sum := "f1ffb34ed84c817a4e1f1d339f2fe75f167bab2ca97aaaf183bd96efe282d1f6", func := "loop.example/g01245/laws.FnExactIsField", spec := "fnExactIsField", unfollowed := true, recurses := true, apart := false }
def FnExactIsFieldSaid : Prop := fnExactIsFieldRow.holds Try.pinned (OpenSpec.ofChange fnExactIsFieldSpec)

/-- ITS FALSE NEIGHBOUR: 'it returns false'. Refute it at one input. -/
def fnExactIsFieldWrong : ChangeSpec := { name := "fnExactIsField", fn := fun _ => fun
  | [d1, d2] => { results := [.lit (.bool false)], args := [d1, d2] }
  | _ => none }
def FnExactIsFieldWrongFalsely : Prop := fnExactIsFieldRow.holds Try.pinned (OpenSpec.ofChange fnExactIsFieldWrong)

/-- 'laws.FnExactIsIrreducible': WHATEVER THE INPUT: true; the input reads as it did. -/
def fnExactIsIrreducibleSpec : ChangeSpec := { name := "fnExactIsIrreducible", fn := fun _ => fun
  | [d1, d2] => { results := [.lit (.bool true)], args := [d1, d2] }
  | _ => none }
def fnExactIsIrreducibleRow : OpenClaim := { program := "ytcgohoclbjgmkaa", sum := "f1ffb34ed84c817a4e1f1d339f2fe75f167bab2ca97aaaf183bd96efe282d1f6", func := "loop.example/g01245/laws.FnExactIsIrreducible", spec := "fnExactIsIrreducible", unfollowed := true, recurses := true, apart := false }
def FnExactIsIrreducibleSaid : Prop := fnExactIsIrreducibleRow.holds Try.pinned (OpenSpec.ofChange fnExactIsIrreducibleSpec)

/-- ITS FALSE NEIGHBOUR: 'it returns false'. Refute it at one input. -/
def fnExactIsIrreducibleWrong : ChangeSpec := { name := "fnExactIsIrreducible", fn := fun _ => fun
  | [d1, d2] => { results := [.lit (.bool false)], args := [d1, d2] }
  | _ => none }
def FnExactIsIrreducibleWrongFalsely : Prop := fnExactIsIrreducibleRow.holds Try.pinned (OpenSpec.ofChange fnExactIsIrreducibleWrong)

/-- 'laws.FnExactFactorsOf': WHATEVER THE INPUT: true; the input reads as it did. -/
def fnExactFactorsOfSpec : ChangeSpec := { name := "fnExactFactorsOf", fn := fun _ => fun
  | [d1, d2] => { results := [.lit (.bool true)], args := [d1, d2] }
  | _ => none }
def fnExactFactorsOfRow : OpenClaim := { program := "ytcgohoclbjgmkaa", sum := "f1ffb34ed84c817a4e1f1d339f2fe75f167bab2ca97aaaf183bd96efe282d1f6", func := "loop.example/g01245/laws.FnExactFactorsOf", spec := "fnExactFactorsOf", unfollowed := true, recurses := true, apart := false }
def FnExactFactorsOfSaid : Prop := fnExactFactorsOfRow.holds Try.pinned (OpenSpec.ofChange fnExactFactorsOfSpec)

/-- ITS FALSE NEIGHBOUR: 'it returns false'. Refute it at one input. -/
def fnExactFactorsOfWrong : ChangeSpec := { name := "fnExactFactorsOf", fn := fun _ => fun
  | [d1, d2] => { results := [.lit (.bool false)], args := [d1, d2] }
  | _ => none }
def FnExactFactorsOfWrongFalsely : Prop := fnExactFactorsOfRow.holds Try.pinned (OpenSpec.ofChange fnExactFactorsOfWrong)

/-- 'laws.FnExactMoebiusOf': WHATEVER THE INPUT: true; the input reads as it did. -/
def fnExactMoebiusOfSpec : ChangeSpec := { name := "fnExactMoebiusOf", fn := fun _ => fun
  | [d1, d2] => { results := [.lit (.bool true)], args := [d1, d2] }
  | _ => none }
def fnExactMoebiusOfRow : OpenClaim := { program := "ytcgohoclbjgmkaa", sum := "f1ffb34ed84c817a4e1f1d339f2fe75f167bab2ca97aaaf183bd96efe282d1f6", func := "loop.example/g01245/laws.FnExactMoebiusOf", spec := "fnExactMoebiusOf", unfollowed := true, recurses := true, apart := false }
def FnExactMoebiusOfSaid : Prop := fnExactMoebiusOfRow.holds Try.pinned (OpenSpec.ofChange fnExactMoebiusOfSpec)

/-- ITS FALSE NEIGHBOUR: 'it returns false'. Refute it at one input. -/
def fnExactMoebiusOfWrong : ChangeSpec := { name := "fnExactMoebiusOf", fn := fun _ => fun
  | [d1, d2] => { results := [.lit (.bool false)], args := [d1, d2] }
  | _ => none }
def FnExactMoebiusOfWrongFalsely : Prop := fnExactMoebiusOfRow.holds Try.pinned (OpenSpec.ofChange fnExactMoebiusOfWrong)

/-- 'laws.FnExactEulerOf': WHATEVER THE INPUT: true; the input reads as it did. -/
def fnExactEulerOfSpec : ChangeSpec := { name := "fnExactEulerOf", fn := fun _ => fun
  | [d1, d2] => { results := [.lit (.bool true)], args := [d1, d2] }
  | _ => none }
def fnExactEulerOfRow : OpenClaim := { program := "ytcgohoclbjgmkaa", sum := "f1ffb34ed84c817a4e1f1d339f2fe75f167bab2ca97aaaf183bd96efe282d1f6", func := "loop.example/g01245/laws.FnExactEulerOf", spec := "fnExactEulerOf", unfollowed := true, recurses := true, apart := false }
def FnExactEulerOfSaid : Prop := fnExactEulerOfRow.holds Try.pinned (OpenSpec.ofChange fnExactEulerOfSpec)

/-- ITS FALSE NEIGHBOUR: 'it returns false'. Refute it at one input. -/
def fnExactEulerOfWrong : ChangeSpec := { name := "fnExactEulerOf", fn := fun _ => fun
  | [d1, d2] => { results := [.lit (.bool false)], args := [d1, d2] }
  | _ => none }
def FnExactEulerOfWrongFalsely : Prop := fnExactEulerOfRow.holds Try.pinned (OpenSpec.ofChange fnExactEulerOfWrong)

/-- 'laws.FnExactIrreduciblesOf': WHATEVER THE INPUT: true; the input reads as it did. -/
def fnExactIrreduciblesOfSpec : ChangeSpec := { name := "fnExactIrreduciblesOf", fn := fun _ => fun
  | [d1, d2] => { results := [.lit (.bool true)], args := [d1, d2] }
  | _ => none }
def fnExactIrreduciblesOfRow : OpenClaim := { program := "ytcgohoclbjgmkaa", sum := "f1ffb34ed84c817a4e1f1d339f2fe75f167bab2ca97aaaf183bd96efe282d1f6", func := "loop.example/g01245/laws.FnExactIrreduciblesOf", spec := "fnExactIrreduciblesOf", unfollowed := true, recurses := true, apart := false }
def FnExactIrreduciblesOfSaid : Prop := fnExactIrreduciblesOfRow.holds Try.pinned (OpenSpec.ofChange fnExactIrreduciblesOfSpec)

/-- ITS FALSE NEIGHBOUR: 'it returns false'. Refute it at one input. -/
def fnExactIrreduciblesOfWrong : ChangeSpec := { name := "fnExactIrreduciblesOf", fn := fun _ => fun
  | [d1, d2] => { results := [.lit (.bool false)], args := [d1, d2] }
  | _ => none }
def FnExactIrreduciblesOfWrongFalsely : Prop := fnExactIrreduciblesOfRow.holds Try.pinned (OpenSpec.ofChange fnExactIrreduciblesOfWrong)

/-- 'laws.FnExactIsSkew': WHATEVER THE INPUT: true; the input reads as it did. -/
def fnExactIsSkewSpec : ChangeSpec := { name := "fnExactIsSkew", fn := fun _ => fun
  | [d1, d2, d3] => { results := [.lit (.bool true)], args := [d1, d2, d3] }
  | _ => none }
def fnExactIsSkewRow : OpenClaim := { program := "ytcgohoclbjgmkaa", sum := "f1ffb34ed84c817a4e1f1d339f2fe75f167bab2ca97aaaf183bd96efe282d1f6", func := "loop.example/g01245/laws.FnExactIsSkew", spec := "fnExactIsSkew", unfollowed := true, recurses := true, apart := false }
def FnExactIsSkewSaid : Prop := fnExactIsSkewRow.holds Try.pinned (OpenSpec.ofChange fnExactIsSkewSpec)

/-- ITS FALSE NEIGHBOUR: 'it returns false'. Refute it at one input. -/
def fnExactIsSkewWrong : ChangeSpec := { name := "fnExactIsSkew", fn := fun _ => fun
  | [d1, d2, d3] => { results := [.lit (.bool false)], args := [d1, d2, d3] }
  | _ => none }
def FnExactIsSkewWrongFalsely : Prop := fnExactIsSkewRow.holds Try.pinned (OpenSpec.ofChange fnExactIsSkewWrong)

/-- 'laws.FnExactIsDrinfeld': WHATEVER THE INPUT: true; the input reads as it did. -/
def fnExactIsDrinfeldSpec : ChangeSpec := { name := "fnExactIsDrinfeld", fn := fun _ => fun
  | [d] => { results := [.lit (.bool true)], args := [d] }
  | _ => none }
def fnExactIsDrinfeldRow : OpenClaim := { program := "ytcgohoclbjgmkaa", sum := "f1ffb34ed84c817a4e1f1d339f2fe75f167bab2ca97aaaf183bd96efe282d1f6", func := "loop.example/g01245/laws.FnExactIsDrinfeld", spec := "fnExactIsDrinfeld", unfollowed := true, recurses := true, apart := false }
def FnExactIsDrinfeldSaid : Prop := fnExactIsDrinfeldRow.holds Try.pinned (OpenSpec.ofChange fnExactIsDrinfeldSpec)

/-- ITS FALSE NEIGHBOUR: 'it returns false'. Refute it at one input. -/
def fnExactIsDrinfeldWrong : ChangeSpec := { name := "fnExactIsDrinfeld", fn := fun _ => fun
  | [d] => { results := [.lit (.bool false)], args := [d] }
  | _ => none }
def FnExactIsDrinfeldWrongFalsely : Prop := fnExactIsDrinfeldRow.holds Try.pinned (OpenSpec.ofChange fnExactIsDrinfeldWrong)

/-- 'laws.FnExactSkewDegree': WHATEVER THE INPUT: true; the input reads as it did. -/
def fnExactSkewDegreeSpec : ChangeSpec := { name := "fnExactSkewDegree", fn := fun _ => fun
  | [d1, d2, d3] => { results := [.lit (.bool true)], args := [d1, d2, d3] }
  | _ => none }
def fnExactSkewDegreeRow : OpenClaim := { program := "ytcgohoclbjgmkaa", sum := "f1ffb34ed84c817a4e1f1d339f2fe75f167bab2ca97aaaf183bd96efe282d1f6", func := "loop.example/g01245/laws.FnExactSkewDegree", spec := "fnExactSkewDegree", unfollowed := true, recurses := true, apart := false }
def FnExactSkewDegreeSaid : Prop := fnExactSkewDegreeRow.holds Try.pinned (OpenSpec.ofChange fnExactSkewDegreeSpec)

/-- ITS FALSE NEIGHBOUR: 'it returns false'. Refute it at one input. -/
def fnExactSkewDegreeWrong : ChangeSpec := { name := "fnExactSkewDegree", fn := fun _ => fun
  | [d1, d2, d3] => { results := [.lit (.bool false)], args := [d1, d2, d3] }
  | _ => none }
def FnExactSkewDegreeWrongFalsely : Prop := fnExactSkewDegreeRow.holds Try.pinned (OpenSpec.ofChange fnExactSkewDegreeWrong)

/-- 'laws.FnExactNormOf': WHATEVER THE INPUT: true; the input reads as it did. -/
def fnExactNormOfSpec : ChangeSpec := { name := "fnExactNormOf", fn := fun _ => fun
  | [d1, d2] => { results := [.lit (.bool true)], args := [d1, d2] }
  | _ => none }
def fnExactNormOfRow : OpenClaim := { program := "ytcgohoclbjgmkaa", sum := "f1ffb34ed84c817a4e1f1d339f2fe75f167bab2ca97aaaf183bd96efe282d1f6", func := "loop.example/g01245/laws.FnExactNormOf", spec := "fnExactNormOf", unfollowed := true, recurses := true, apart := false }
def FnExactNormOfSaid : Prop := fnExactNormOfRow.holds Try.pinned (OpenSpec.ofChange fnExactNormOfSpec)

/-- ITS FALSE NEIGHBOUR: 'it returns false'. Refute it at one input. -/
def fnExactNormOfWrong : ChangeSpec := { name := "fnExactNormOf", fn := fun _ => fun
  | [d1, d2] => { results := [.lit (.bool false)], args := [d1, d2] }
  | _ => none }
def FnExactNormOfWrongFalsely : Prop := fnExactNormOfRow.holds Try.pinned (OpenSpec.ofChange fnExactNormOfWrong)

/-- 'laws.FnExactAreIsomorphic': WHATEVER THE INPUT: true; the input reads as it did. -/
def fnExactAreIsomorphicSpec : ChangeSpec := { name := "fnExactAreIsomorphic", fn := fun _ => fun
  | [d1, d2] => { results := [.lit (.bool true)], args := [d1, d2] }
  | _ => none }
def fnExactAreIsomorphicRow : OpenClaim := { program := "ytcgohoclbjgmkaa", sum := "f1ffb34ed84c817a4e1f1d339f2fe75f167bab2ca97aaaf183bd96efe282d1f6", func := "loop.example/g01245/laws.FnExactAreIsomorphic", spec := "fnExactAreIsomorphic", unfollowed := true, recurses := true, apart := false }
def FnExactAreIsomorphicSaid : Prop := fnExactAreIsomorphicRow.holds Try.pinned (OpenSpec.ofChange fnExactAreIsomorphicSpec)

/-- ITS FALSE NEIGHBOUR: 'it returns false'. Refute it at one input. -/
def fnExactAreIsomorphicWrong : ChangeSpec := { name := "fnExactAreIsomorphic", fn := fun _ => fun
  | [d1, d2] => { results := [.lit (.bool false)], args := [d1, d2] }
  | _ => none }
def FnExactAreIsomorphicWrongFalsely : Prop := fnExactAreIsomorphicRow.holds Try.pinned (OpenSpec.ofChange fnExactAreIsomorphicWrong)

/- THE SECOND FORM. 'bulk': how many values and letters a reading holds, each counted each time it is reached (what is shared counts as often as it is met; a slice's spare places count too). A statement '..UptoSaid' is the law's where the arguments, and the package variables that the reading takes, are together of bulk at most 1048576: NARROWER than '..Said'. Prove '..Said' where nothing that the law and all that it calls make is longer than what came in: it says more and counts as full. Else prove '..UptoSaid'. A law counts once. -/
mutual
def uptoBulk {H : Type} : DataW H → Nat
  | .lit (.string bytes) => bytes.length + 1
  | .lit _ => 1
  | .nil => 1
  | .ptr d => uptoBulk d + 1
  | .slice elems spare => uptoBulkAll elems + uptoBulkAll spare + 1
  | .agg parts => uptoBulkAll parts + 1
  | .iface _ d => uptoBulk d + 1
  | .map entries => uptoBulkEntries entries + 1
  | .held _ => 1
def uptoBulkAll {H : Type} : List (DataW H) → Nat
  | [] => 0
  | d :: r => uptoBulk d + uptoBulkAll r
def uptoBulkEntries {H : Type} : List (Lit × DataW H) → Nat
  | [] => 0
  | x :: r => uptoBulkEntry x + uptoBulkEntries r
def uptoBulkEntry {H : Type} : Lit × DataW H → Nat
  | (.string bytes, d) => bytes.length + uptoBulk d + 1
  | (_, d) => uptoBulk d + 1
 end
def uptoSmall : (H : Type) → List (DataW H) → Bool := fun _ ds => decide (uptoBulkAll ds ≤ 1048576)
def OpenSpec.upto (s : _root_.Go.ChangeSpec) : _root_.Go.OpenSpec := { _root_.Go.OpenSpec.ofChange s with cond := some uptoSmall }

/-- 'laws.FnExactIsField', WHERE WHAT IT READS IS OF BULK AT MOST 1048576: true; the input reads as it did. -/
def fnExactIsFieldUptoRow : OpenClaim := { program := "ytcgohoclbjgmkaa", sum := "f1ffb34ed84c817a4e1f1d339f2fe75f167bab2ca97aaaf183bd96efe282d1f6", func := "loop.example/g01245/laws.FnExactIsField", spec := "fnExactIsField", unfollowed := true, recurses := true, apart := false, narrowed := true }
def FnExactIsFieldUptoSaid : Prop := fnExactIsFieldUptoRow.holds Try.pinned (OpenSpec.upto fnExactIsFieldSpec)

/-- 'laws.FnExactIsIrreducible', WHERE WHAT IT READS IS OF BULK AT MOST 1048576: true; the input reads as it did. -/
def fnExactIsIrreducibleUptoRow : OpenClaim := { program := "ytcgohoclbjgmkaa", sum := "f1ffb34ed84c817a4e1f1d339f2fe75f167bab2ca97aaaf183bd96efe282d1f6", func := "loop.example/g01245/laws.FnExactIsIrreducible", spec := "fnExactIsIrreducible", unfollowed := true, recurses := true, apart := false, narrowed := true }
def FnExactIsIrreducibleUptoSaid : Prop := fnExactIsIrreducibleUptoRow.holds Try.pinned (OpenSpec.upto fnExactIsIrreducibleSpec)

/-- 'laws.FnExactFactorsOf', WHERE WHAT IT READS IS OF BULK AT MOST 1048576: true; the input reads as it did. -/
def fnExactFactorsOfUptoRow : OpenClaim := { program := "ytcgohoclbjgmkaa", sum := "f1ffb34ed84c817a4e1f1d339f2fe75f167bab2ca97aaaf183bd96efe282d1f6", func := "loop.example/g01245/laws.FnExactFactorsOf", spec := "fnExactFactorsOf", unfollowed := true, recurses := true, apart := false, narrowed := true }
def FnExactFactorsOfUptoSaid : Prop := fnExactFactorsOfUptoRow.holds Try.pinned (OpenSpec.upto fnExactFactorsOfSpec)

/-- 'laws.FnExactMoebiusOf', WHERE WHAT IT READS IS OF BULK AT MOST 1048576: true; the input reads as it did. -/
def fnExactMoebiusOfUptoRow : OpenClaim := { program := "ytcgohoclbjgmkaa", sum := "f1ffb34ed84c817a4e1f1d339f2fe75f167bab2ca97aaaf183bd96efe282d1f6", func := "loop.example/g01245/laws.FnExactMoebiusOf", spec := "fnExactMoebiusOf", unfollowed := true, recurses := true, apart := false, narrowed := true }
def FnExactMoebiusOfUptoSaid : Prop := fnExactMoebiusOfUptoRow.holds Try.pinned (OpenSpec.upto fnExactMoebiusOfSpec)

/-- 'laws.FnExactEulerOf', WHERE WHAT IT READS IS OF BULK AT MOST 1048576: true; the input reads as it did. -/
def fnExactEulerOfUptoRow : OpenClaim := { program := "ytcgohoclbjgmkaa", sum := "f1ffb34ed84c817a4e1f1d339f2fe75f167bab2ca97aaaf183bd96efe282d1f6", func := "loop.example/g01245/laws.FnExactEulerOf", spec := "fnExactEulerOf", unfollowed := true, recurses := true, apart := false, narrowed := true }
def FnExactEulerOfUptoSaid : Prop := fnExactEulerOfUptoRow.holds Try.pinned (OpenSpec.upto fnExactEulerOfSpec)

/-- 'laws.FnExactIrreduciblesOf', WHERE WHAT IT READS IS OF BULK AT MOST 1048576: true; the input reads as it did. -/
def fnExactIrreduciblesOfUptoRow : OpenClaim := { program := "ytcgohoclbjgmkaa", sum := "f1ffb34ed84c817a4e1f1d339f2fe75f167bab2ca97aaaf183bd96efe282d1f6", func := "loop.example/g01245/laws.FnExactIrreduciblesOf", spec := "fnExactIrreduciblesOf", unfollowed := true, recurses := true, apart := false, narrowed := true }
def FnExactIrreduciblesOfUptoSaid : Prop := fnExactIrreduciblesOfUptoRow.holds Try.pinned (OpenSpec.upto fnExactIrreduciblesOfSpec)

/-- 'laws.FnExactIsSkew', WHERE WHAT IT READS IS OF BULK AT MOST 1048576: true; the input reads as it did. -/
def fnExactIsSkewUptoRow : OpenClaim := { program := "ytcgohoclbjgmkaa", sum := "f1ffb34ed84c817a4e1f1d339f2fe75f167bab2ca97aaaf183bd96efe282d1f6", func := "loop.example/g01245/laws.FnExactIsSkew", spec := "fnExactIsSkew", unfollowed := true, recurses := true, apart := false, narrowed := true }
def FnExactIsSkewUptoSaid : Prop := fnExactIsSkewUptoRow.holds Try.pinned (OpenSpec.upto fnExactIsSkewSpec)

/-- 'laws.FnExactIsDrinfeld', WHERE WHAT IT READS IS OF BULK AT MOST 1048576: true; the input reads as it did. -/
def fnExactIsDrinfeldUptoRow : OpenClaim := { program := "ytcgohoclbjgmkaa", sum := "f1ffb34ed84c817a4e1f1d339f2fe75f167bab2ca97aaaf183bd96efe282d1f6", func := "loop.example/g01245/laws.FnExactIsDrinfeld", spec := "fnExactIsDrinfeld", unfollowed := true, recurses := true, apart := false, narrowed := true }
def FnExactIsDrinfeldUptoSaid : Prop := fnExactIsDrinfeldUptoRow.holds Try.pinned (OpenSpec.upto fnExactIsDrinfeldSpec)

/-- 'laws.FnExactSkewDegree', WHERE WHAT IT READS IS OF BULK AT MOST 1048576: true; the input reads as it did. -/
def fnExactSkewDegreeUptoRow : OpenClaim := { program := "ytcgohoclbjgmkaa", sum := "f1ffb34ed84c817a4e1f1d339f2fe75f167bab2ca97aaaf183bd96efe282d1f6", func := "loop.example/g01245/laws.FnExactSkewDegree", spec := "fnExactSkewDegree", unfollowed := true, recurses := true, apart := false, narrowed := true }
def FnExactSkewDegreeUptoSaid : Prop := fnExactSkewDegreeUptoRow.holds Try.pinned (OpenSpec.upto fnExactSkewDegreeSpec)

/-- 'laws.FnExactNormOf', WHERE WHAT IT READS IS OF BULK AT MOST 1048576: true; the input reads as it did. -/
def fnExactNormOfUptoRow : OpenClaim := { program := "ytcgohoclbjgmkaa", sum := "f1ffb34ed84c817a4e1f1d339f2fe75f167bab2ca97aaaf183bd96efe282d1f6", func := "loop.example/g01245/laws.FnExactNormOf", spec := "fnExactNormOf", unfollowed := true, recurses := true, apart := false, narrowed := true }
def FnExactNormOfUptoSaid : Prop := fnExactNormOfUptoRow.holds Try.pinned (OpenSpec.upto fnExactNormOfSpec)

/-- 'laws.FnExactAreIsomorphic', WHERE WHAT IT READS IS OF BULK AT MOST 1048576: true; the input reads as it did. -/
def fnExactAreIsomorphicUptoRow : OpenClaim := { program := "ytcgohoclbjgmkaa", sum := "f1ffb34ed84c817a4e1f1d339f2fe75f167bab2ca97aaaf183bd96efe282d1f6", func := "loop.example/g01245/laws.FnExactAreIsomorphic", spec := "fnExactAreIsomorphic", unfollowed := true, recurses := true, apart := false, narrowed := true }
def FnExactAreIsomorphicUptoSaid : Prop := fnExactAreIsomorphicUptoRow.holds Try.pinned (OpenSpec.upto fnExactAreIsomorphicSpec)

end Rows
end Go.Proofs.Ytcgohoclbjgmkaa
