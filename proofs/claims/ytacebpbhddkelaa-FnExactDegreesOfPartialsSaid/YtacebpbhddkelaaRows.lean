/-
  No cell of these rows narrows 'for every input' (looked for: loops, veiled, ifaces, maps, wideKeys, modest, calm, conditions, laid).
  DERIVED. THE GIVEN ROWS OF THIS SEAT. 12 by the template 'for every input the law returns true; each argument reads behind the call as it read before'; 0 by the template 'total and deterministic' (their statements: YtacebpbhddkelaaTotals.lean).
  GIVEN WITH THE SEED: the statements are not yours to turn. If you find one false, say at which input.
  Laid BY PROGRAM, IN A SANDBOX (cutbox-rows.mjs): the forced cells as the released guide's own fill.sh prints them over the translation 78e117342a95e728… (all of the seat's roots in one cut). By AI agents, Wed Nov 11 2026. No macro, syntax, notation, axiom, sorry.
-/
import Derived.Test.YtacebpbhddkelaaChecked
import GoSem.Claim
import GoSem.ClaimJoined
import GoSem.ClaimMapViews
import Derived.JoinedTies
import Derived.KernelRfl
namespace Go.Proofs.Ytacebpbhddkelaa
/- THE CELL 'sum', in the pinned program and in every row, IS THE sha256 OF THE DUMP (.gsa) THAT YtacebpbhddkelaaProg.lean LOADS. Nothing in Lean hashes anything: it is a label: what it is worth is what the hold of that sum in a sandbox is worth. -/
noncomputable def Try.pinned : Pinned := { name := "ytacebpbhddkelaa", sum := "78e117342a95e728ea5ecec3eb26c3e35dfbaf25205f28f24ea12c82665484b7", checked := Try.checked }
namespace Rows
def none {H : Type} : Left H := { results := [], args := [] }

/-- 'laws.FnExactNewDesk': WHATEVER THE INPUT: true; the input reads as it did. -/
def fnExactNewDeskSpec : ChangeSpec := { name := "fnExactNewDesk", fn := fun _ => fun
  | [] => { results := [.lit (.bool true)], args := [] }
  | _ => none }
def fnExactNewDeskRow : OpenClaim := { program := "ytacebpbhddkelaa", sum := "78e117342a95e728ea5ecec3eb26c3e35dfbaf25205f28f24ea12c82665484b7", func := "loop.example/g01245/laws.FnExactNewDesk", spec := "fnExactNewDesk", apart := false }
def FnExactNewDeskSaid : Prop := fnExactNewDeskRow.holds Try.pinned (OpenSpec.ofChange fnExactNewDeskSpec)

/-- ITS FALSE NEIGHBOUR: 'it returns false'. Refute it at one input. -/
def fnExactNewDeskWrong : ChangeSpec := { name := "fnExactNewDesk", fn := fun _ => fun
  | [] => { results := [.lit (.bool false)], args := [] }
  | _ => none }
def FnExactNewDeskWrongFalsely : Prop := fnExactNewDeskRow.holds Try.pinned (OpenSpec.ofChange fnExactNewDeskWrong)

/-- 'laws.FnExactDigitSum': WHATEVER THE INPUT: true; the input reads as it did. -/
def fnExactDigitSumSpec : ChangeSpec := { name := "fnExactDigitSum", fn := fun _ => fun
  | [d1, d2] => { results := [.lit (.bool true)], args := [d1, d2] }
  | _ => none }
def fnExactDigitSumRow : OpenClaim := { program := "ytacebpbhddkelaa", sum := "78e117342a95e728ea5ecec3eb26c3e35dfbaf25205f28f24ea12c82665484b7", func := "loop.example/g01245/laws.FnExactDigitSum", spec := "fnExactDigitSum", apart := false }
def FnExactDigitSumSaid : Prop := fnExactDigitSumRow.holds Try.pinned (OpenSpec.ofChange fnExactDigitSumSpec)

/-- ITS FALSE NEIGHBOUR: 'it returns false'. Refute it at one input. -/
def fnExactDigitSumWrong : ChangeSpec := { name := "fnExactDigitSum", fn := fun _ => fun
  | [d1, d2] => { results := [.lit (.bool false)], args := [d1, d2] }
  | _ => none }
def FnExactDigitSumWrongFalsely : Prop := fnExactDigitSumRow.holds Try.pinned (OpenSpec.ofChange fnExactDigitSumWrong)

/-- 'laws.FnExactPolyOfNumber': WHATEVER THE INPUT: true; the input reads as it did. -/
def fnExactPolyOfNumberSpec : ChangeSpec := { name := "fnExactPolyOfNumber", fn := fun _ => fun
  | [d1, d2] => { results := [.lit (.bool true)], args := [d1, d2] }
  | _ => none }
def fnExactPolyOfNumberRow : OpenClaim := { program := "ytacebpbhddkelaa", sum := "78e117342a95e728ea5ecec3eb26c3e35dfbaf25205f28f24ea12c82665484b7", func := "loop.example/g01245/laws.FnExactPolyOfNumber", spec := "fnExactPolyOfNumber", apart := false }
def FnExactPolyOfNumberSaid : Prop := fnExactPolyOfNumberRow.holds Try.pinned (OpenSpec.ofChange fnExactPolyOfNumberSpec)

/-- ITS FALSE NEIGHBOUR: 'it returns false'. Refute it at one input. -/
def fnExactPolyOfNumberWrong : ChangeSpec := { name := "fnExactPolyOfNumber", fn := fun _ => fun
  | [d1, d2] => { results := [.lit (.bool false)], args := [d1, d2] }
  | _ => none }
def FnExactPolyOfNumberWrongFalsely : Prop := fnExactPolyOfNumberRow.holds Try.pinned (OpenSpec.ofChange fnExactPolyOfNumberWrong)

/-- 'laws.FnExactIsDesk': WHATEVER THE INPUT: true; the input reads as it did. -/
def fnExactIsDeskSpec : ChangeSpec := { name := "fnExactIsDesk", fn := fun _ => fun
  | [d] => { results := [.lit (.bool true)], args := [d] }
  | _ => none }
def fnExactIsDeskRow : OpenClaim := { program := "ytacebpbhddkelaa", sum := "78e117342a95e728ea5ecec3eb26c3e35dfbaf25205f28f24ea12c82665484b7", func := "loop.example/g01245/laws.FnExactIsDesk", spec := "fnExactIsDesk", unfollowed := true, recurses := true, apart := false }
def FnExactIsDeskSaid : Prop := fnExactIsDeskRow.holds Try.pinned (OpenSpec.ofChange fnExactIsDeskSpec)

/-- ITS FALSE NEIGHBOUR: 'it returns false'. Refute it at one input. -/
def fnExactIsDeskWrong : ChangeSpec := { name := "fnExactIsDesk", fn := fun _ => fun
  | [d] => { results := [.lit (.bool false)], args := [d] }
  | _ => none }
def FnExactIsDeskWrongFalsely : Prop := fnExactIsDeskRow.holds Try.pinned (OpenSpec.ofChange fnExactIsDeskWrong)

/-- 'laws.FnExactMonicPolys': WHATEVER THE INPUT: true; the input reads as it did. -/
def fnExactMonicPolysSpec : ChangeSpec := { name := "fnExactMonicPolys", fn := fun _ => fun
  | [d1, d2] => { results := [.lit (.bool true)], args := [d1, d2] }
  | _ => none }
def fnExactMonicPolysRow : OpenClaim := { program := "ytacebpbhddkelaa", sum := "78e117342a95e728ea5ecec3eb26c3e35dfbaf25205f28f24ea12c82665484b7", func := "loop.example/g01245/laws.FnExactMonicPolys", spec := "fnExactMonicPolys", apart := false }
def FnExactMonicPolysSaid : Prop := fnExactMonicPolysRow.holds Try.pinned (OpenSpec.ofChange fnExactMonicPolysSpec)

/-- ITS FALSE NEIGHBOUR: 'it returns false'. Refute it at one input. -/
def fnExactMonicPolysWrong : ChangeSpec := { name := "fnExactMonicPolys", fn := fun _ => fun
  | [d1, d2] => { results := [.lit (.bool false)], args := [d1, d2] }
  | _ => none }
def FnExactMonicPolysWrongFalsely : Prop := fnExactMonicPolysRow.holds Try.pinned (OpenSpec.ofChange fnExactMonicPolysWrong)

/-- 'laws.FnExactDigitsOfRoot': WHATEVER THE INPUT: true; the input reads as it did. -/
def fnExactDigitsOfRootSpec : ChangeSpec := { name := "fnExactDigitsOfRoot", fn := fun _ => fun
  | [d1, d2, d3] => { results := [.lit (.bool true)], args := [d1, d2, d3] }
  | _ => none }
def fnExactDigitsOfRootRow : OpenClaim := { program := "ytacebpbhddkelaa", sum := "78e117342a95e728ea5ecec3eb26c3e35dfbaf25205f28f24ea12c82665484b7", func := "loop.example/g01245/laws.FnExactDigitsOfRoot", spec := "fnExactDigitsOfRoot", unfollowed := true, recurses := true, apart := false }
def FnExactDigitsOfRootSaid : Prop := fnExactDigitsOfRootRow.holds Try.pinned (OpenSpec.ofChange fnExactDigitsOfRootSpec)

/-- ITS FALSE NEIGHBOUR: 'it returns false'. Refute it at one input. -/
def fnExactDigitsOfRootWrong : ChangeSpec := { name := "fnExactDigitsOfRoot", fn := fun _ => fun
  | [d1, d2, d3] => { results := [.lit (.bool false)], args := [d1, d2, d3] }
  | _ => none }
def FnExactDigitsOfRootWrongFalsely : Prop := fnExactDigitsOfRootRow.holds Try.pinned (OpenSpec.ofChange fnExactDigitsOfRootWrong)

/-- 'laws.FnExactNormOf': WHATEVER THE INPUT: true; the input reads as it did. -/
def fnExactNormOfSpec : ChangeSpec := { name := "fnExactNormOf", fn := fun _ => fun
  | [d1, d2] => { results := [.lit (.bool true)], args := [d1, d2] }
  | _ => none }
def fnExactNormOfRow : OpenClaim := { program := "ytacebpbhddkelaa", sum := "78e117342a95e728ea5ecec3eb26c3e35dfbaf25205f28f24ea12c82665484b7", func := "loop.example/g01245/laws.FnExactNormOf", spec := "fnExactNormOf", unfollowed := true, recurses := true, apart := false }
def FnExactNormOfSaid : Prop := fnExactNormOfRow.holds Try.pinned (OpenSpec.ofChange fnExactNormOfSpec)

/-- ITS FALSE NEIGHBOUR: 'it returns false'. Refute it at one input. -/
def fnExactNormOfWrong : ChangeSpec := { name := "fnExactNormOf", fn := fun _ => fun
  | [d1, d2] => { results := [.lit (.bool false)], args := [d1, d2] }
  | _ => none }
def FnExactNormOfWrongFalsely : Prop := fnExactNormOfRow.holds Try.pinned (OpenSpec.ofChange fnExactNormOfWrong)

/-- 'laws.FnExactIsSquarePoly': WHATEVER THE INPUT: true; the input reads as it did. -/
def fnExactIsSquarePolySpec : ChangeSpec := { name := "fnExactIsSquarePoly", fn := fun _ => fun
  | [d1, d2] => { results := [.lit (.bool true)], args := [d1, d2] }
  | _ => none }
def fnExactIsSquarePolyRow : OpenClaim := { program := "ytacebpbhddkelaa", sum := "78e117342a95e728ea5ecec3eb26c3e35dfbaf25205f28f24ea12c82665484b7", func := "loop.example/g01245/laws.FnExactIsSquarePoly", spec := "fnExactIsSquarePoly", unfollowed := true, recurses := true, apart := false }
def FnExactIsSquarePolySaid : Prop := fnExactIsSquarePolyRow.holds Try.pinned (OpenSpec.ofChange fnExactIsSquarePolySpec)

/-- ITS FALSE NEIGHBOUR: 'it returns false'. Refute it at one input. -/
def fnExactIsSquarePolyWrong : ChangeSpec := { name := "fnExactIsSquarePoly", fn := fun _ => fun
  | [d1, d2] => { results := [.lit (.bool false)], args := [d1, d2] }
  | _ => none }
def FnExactIsSquarePolyWrongFalsely : Prop := fnExactIsSquarePolyRow.holds Try.pinned (OpenSpec.ofChange fnExactIsSquarePolyWrong)

/-- 'laws.FnExactPowerSum': WHATEVER THE INPUT: true; the input reads as it did. -/
def fnExactPowerSumSpec : ChangeSpec := { name := "fnExactPowerSum", fn := fun _ => fun
  | [d1, d2, d3] => { results := [.lit (.bool true)], args := [d1, d2, d3] }
  | _ => none }
def fnExactPowerSumRow : OpenClaim := { program := "ytacebpbhddkelaa", sum := "78e117342a95e728ea5ecec3eb26c3e35dfbaf25205f28f24ea12c82665484b7", func := "loop.example/g01245/laws.FnExactPowerSum", spec := "fnExactPowerSum", apart := false }
def FnExactPowerSumSaid : Prop := fnExactPowerSumRow.holds Try.pinned (OpenSpec.ofChange fnExactPowerSumSpec)

/-- ITS FALSE NEIGHBOUR: 'it returns false'. Refute it at one input. -/
def fnExactPowerSumWrong : ChangeSpec := { name := "fnExactPowerSum", fn := fun _ => fun
  | [d1, d2, d3] => { results := [.lit (.bool false)], args := [d1, d2, d3] }
  | _ => none }
def FnExactPowerSumWrongFalsely : Prop := fnExactPowerSumRow.holds Try.pinned (OpenSpec.ofChange fnExactPowerSumWrong)

/-- 'laws.FnExactFirstFactorial': WHATEVER THE INPUT: true; the input reads as it did. -/
def fnExactFirstFactorialSpec : ChangeSpec := { name := "fnExactFirstFactorial", fn := fun _ => fun
  | [d1, d2] => { results := [.lit (.bool true)], args := [d1, d2] }
  | _ => none }
def fnExactFirstFactorialRow : OpenClaim := { program := "ytacebpbhddkelaa", sum := "78e117342a95e728ea5ecec3eb26c3e35dfbaf25205f28f24ea12c82665484b7", func := "loop.example/g01245/laws.FnExactFirstFactorial", spec := "fnExactFirstFactorial", apart := false }
def FnExactFirstFactorialSaid : Prop := fnExactFirstFactorialRow.holds Try.pinned (OpenSpec.ofChange fnExactFirstFactorialSpec)

/-- ITS FALSE NEIGHBOUR: 'it returns false'. Refute it at one input. -/
def fnExactFirstFactorialWrong : ChangeSpec := { name := "fnExactFirstFactorial", fn := fun _ => fun
  | [d1, d2] => { results := [.lit (.bool false)], args := [d1, d2] }
  | _ => none }
def FnExactFirstFactorialWrongFalsely : Prop := fnExactFirstFactorialRow.holds Try.pinned (OpenSpec.ofChange fnExactFirstFactorialWrong)

/-- 'laws.FnExactSecondFactorial': WHATEVER THE INPUT: true; the input reads as it did. -/
def fnExactSecondFactorialSpec : ChangeSpec := { name := "fnExactSecondFactorial", fn := fun _ => fun
  | [d1, d2] => { results := [.lit (.bool true)], args := [d1, d2] }
  | _ => none }
def fnExactSecondFactorialRow : OpenClaim := { program := "ytacebpbhddkelaa", sum := "78e117342a95e728ea5ecec3eb26c3e35dfbaf25205f28f24ea12c82665484b7", func := "loop.example/g01245/laws.FnExactSecondFactorial", spec := "fnExactSecondFactorial", apart := false }
def FnExactSecondFactorialSaid : Prop := fnExactSecondFactorialRow.holds Try.pinned (OpenSpec.ofChange fnExactSecondFactorialSpec)

/-- ITS FALSE NEIGHBOUR: 'it returns false'. Refute it at one input. -/
def fnExactSecondFactorialWrong : ChangeSpec := { name := "fnExactSecondFactorial", fn := fun _ => fun
  | [d1, d2] => { results := [.lit (.bool false)], args := [d1, d2] }
  | _ => none }
def FnExactSecondFactorialWrongFalsely : Prop := fnExactSecondFactorialRow.holds Try.pinned (OpenSpec.ofChange fnExactSecondFactorialWrong)

/-- 'laws.FnExactDegreesOfPartials': WHATEVER THE INPUT: true; the input reads as it did. -/
def fnExactDegreesOfPartialsSpec : ChangeSpec := { name := "fnExactDegreesOfPartials", fn := fun _ => fun
  | [d1, d2, d3] => { results := [.lit (.bool true)], args := [d1, d2, d3] }
  | _ => none }
def fnExactDegreesOfPartialsRow : OpenClaim := { program := "ytacebpbhddkelaa", sum := "78e117342a95e728ea5ecec3eb26c3e35dfbaf25205f28f24ea12c82665484b7", func := "loop.example/g01245/laws.FnExactDegreesOfPartials", spec := "fnExactDegreesOfPartials", unfollowed := true, recurses := true, apart := false }
def FnExactDegreesOfPartialsSaid : Prop := fnExactDegreesOfPartialsRow.holds Try.pinned (OpenSpec.ofChange fnExactDegreesOfPartialsSpec)

/-- ITS FALSE NEIGHBOUR: 'it returns false'. Refute it at one input. -/
def fnExactDegreesOfPartialsWrong : ChangeSpec := { name := "fnExactDegreesOfPartials", fn := fun _ => fun
  | [d1, d2, d3] => { results := [.lit (.bool false)], args := [d1, d2, d3] }
  | _ => none }
def FnExactDegreesOfPartialsWrongFalsely : Prop := fnExactDegreesOfPartialsRow.holds Try.pinned (OpenSpec.ofChange fnExactDegreesOfPartialsWrong)

/- THE SECOND FORM. 'bulk': how many values and letters a reading holds, each counted each time it is reached (what is shared counts as often as it is met; a slice's spare places count too). A statement '..UptoSaid' is the law's where the arguments, and the package variables that the reading takes, are together of bulk at most 1048576: NARROWER than '..Said'. Prove '..Said' where nothing that the law and all that it calls make is longer than what came in: it says more and counts as full. Else prove '..UptoSaid'. A law counts once. -/
mutual
def uptoBulk {H : Type} : DataW H → Nat
  | .lit (.string bytes) => bytes.length + 1
  | .lit _ => 1
  | .nil => 1
  | .ptr d => uptoBulk d + 1
  | .slice elems spare => uptoBulkAll elems + uptoBulkAll spare + 1
  | .agg parts => uptoBulkAll parts + 1
  | .iface _ d => uptoBulk d + 1
  | .map entries => uptoBulkEntries entries + 1
  | .held _ => 1
def uptoBulkAll {H : Type} : List (DataW H) → Nat
  | [] => 0
  | d :: r => uptoBulk d + uptoBulkAll r
def uptoBulkEntries {H : Type} : List (Lit × DataW H) → Nat
  | [] => 0
  | x :: r => uptoBulkEntry x + uptoBulkEntries r
def uptoBulkEntry {H : Type} : Lit × DataW H → Nat
  | (.string bytes, d) => bytes.length + uptoBulk d + 1
  | (_, d) => uptoBulk d + 1
 end
def uptoSmall : (H : Type) → List (DataW H) → Bool := fun _ ds => decide (uptoBulkAll ds ≤ 1048576)
def OpenSpec.upto (s : _root_.Go.ChangeSpec) : _root_.Go.OpenSpec := { _root_.Go.OpenSpec.ofChange s with cond := some uptoSmall }

/-- 'laws.FnExactNewDesk', WHERE WHAT IT READS IS OF BULK AT MOST 1048576: true; the input reads as it did. -/
def fnExactNewDeskUptoRow : OpenClaim := { program := "ytacebpbhddkelaa", sum := "78e117342a95e728ea5ecec3eb26c3e35dfbaf25205f28f24ea12c82665484b7", func := "loop.example/g01245/laws.FnExactNewDesk", spec := "fnExactNewDesk", apart := false, narrowed := true }
def FnExactNewDeskUptoSaid : Prop := fnExactNewDeskUptoRow.holds Try.pinned (OpenSpec.upto fnExactNewDeskSpec)

/-- 'laws.FnExactDigitSum', WHERE WHAT IT READS IS OF BULK AT MOST 1048576: true; the input reads as it did. -/
def fnExactDigitSumUptoRow : OpenClaim := { program := "ytacebpbhddkelaa", sum := "78e117342a95e728ea5ecec3eb26c3e35dfbaf25205f28f24ea12c82665484b7", func := "loop.example/g01245/laws.FnExactDigitSum", spec := "fnExactDigitSum", apart := false, narrowed := true }
def FnExactDigitSumUptoSaid : Prop := fnExactDigitSumUptoRow.holds Try.pinned (OpenSpec.upto fnExactDigitSumSpec)

/-- 'laws.FnExactPolyOfNumber', WHERE WHAT IT READS IS OF BULK AT MOST 1048576: true; the input reads as it did. -/
def fnExactPolyOfNumberUptoRow : OpenClaim := { program := "ytacebpbhddkelaa", sum := "78e117342a95e728ea5ecec3eb26c3e35dfbaf25205f28f24ea12c82665484b7", func := "loop.example/g01245/laws.FnExactPolyOfNumber", spec := "fnExactPolyOfNumber", apart := false, narrowed := true }
def FnExactPolyOfNumberUptoSaid : Prop := fnExactPolyOfNumberUptoRow.holds Try.pinned (OpenSpec.upto fnExactPolyOfNumberSpec)

/-- 'laws.FnExactIsDesk', WHERE WHAT IT READS IS OF BULK AT MOST 1048576: true; the input reads as it did. -/
def fnExactIsDeskUptoRow : OpenClaim := { program := "ytacebpbhddkelaa", sum := "78e117342a95e728ea5ecec3eb26c3e35dfbaf25205f28f24ea12c82665484b7", func := "loop.example/g01245/laws.FnExactIsDesk", spec := "fnExactIsDesk", unfollowed := true, recurses := true, apart := false, narrowed := true }
def FnExactIsDeskUptoSaid : Prop := fnExactIsDeskUptoRow.holds Try.pinned (OpenSpec.upto fnExactIsDeskSpec)

/-- 'laws.FnExactMonicPolys', WHERE WHAT IT READS IS OF BULK AT MOST 1048576: true; the input reads as it did. -/
def fnExactMonicPolysUptoRow : OpenClaim := { program := "ytacebpbhddkelaa", sum := "78e117342a95e728ea5ecec3eb26c3e35dfbaf25205f28f24ea12c82665484b7", func := "loop.example/g01245/laws.FnExactMonicPolys", spec := "fnExactMonicPolys", apart := false, narrowed := true }
def FnExactMonicPolysUptoSaid : Prop := fnExactMonicPolysUptoRow.holds Try.pinned (OpenSpec.upto fnExactMonicPolysSpec)

/-- 'laws.FnExactDigitsOfRoot', WHERE WHAT IT READS IS OF BULK AT MOST 1048576: true; the input reads as it did. -/
def fnExactDigitsOfRootUptoRow : OpenClaim := { program := "ytacebpbhddkelaa", sum := "78e117342a95e728ea5ecec3eb26c3e35dfbaf25205f28f24ea12c82665484b7", func := "loop.example/g01245/laws.FnExactDigitsOfRoot", spec := "fnExactDigitsOfRoot", unfollowed := true, recurses := true, apart := false, narrowed := true }
def FnExactDigitsOfRootUptoSaid : Prop := fnExactDigitsOfRootUptoRow.holds Try.pinned (OpenSpec.upto fnExactDigitsOfRootSpec)

/-- 'laws.FnExactNormOf', WHERE WHAT IT READS IS OF BULK AT MOST 1048576: true; the input reads as it did. -/
def fnExactNormOfUptoRow : OpenClaim := { program := "ytacebpbhddkelaa", sum := "78e117342a95e728ea5ecec3eb26c3e35dfbaf25205f28f24ea12c82665484b7", func := "loop.example/g01245/laws.FnExactNormOf", spec := "fnExactNormOf", unfollowed := true, recurses := true, apart := false, narrowed := true }
def FnExactNormOfUptoSaid : Prop := fnExactNormOfUptoRow.holds Try.pinned (OpenSpec.upto fnExactNormOfSpec)

/-- 'laws.FnExactIsSquarePoly', WHERE WHAT IT READS IS OF BULK AT MOST 1048576: true; the input reads as it did. -/
def fnExactIsSquarePolyUptoRow : OpenClaim := { program := "ytacebpbhddkelaa", sum := "78e117342a95e728ea5ecec3eb26c3e35dfbaf25205f28f24ea12c82665484b7", func := "loop.example/g01245/laws.FnExactIsSquarePoly", spec := "fnExactIsSquarePoly", unfollowed := true, recurses := true, apart := false, narrowed := true }
def FnExactIsSquarePolyUptoSaid : Prop := fnExactIsSquarePolyUptoRow.holds Try.pinned (OpenSpec.upto fnExactIsSquarePolySpec)

/-- 'laws.FnExactPowerSum', WHERE WHAT IT READS IS OF BULK AT MOST 1048576: true; the input reads as it did. -/
def fnExactPowerSumUptoRow : OpenClaim := { program := "ytacebpbhddkelaa", sum := "78e117342a95e728ea5ecec3eb26c3e35dfbaf25205f28f24ea12c82665484b7", func := "loop.example/g01245/laws.FnExactPowerSum", spec := "fnExactPowerSum", apart := false, narrowed := true }
def FnExactPowerSumUptoSaid : Prop := fnExactPowerSumUptoRow.holds Try.pinned (OpenSpec.upto fnExactPowerSumSpec)

/-- 'laws.FnExactFirstFactorial', WHERE WHAT IT READS IS OF BULK AT MOST 1048576: true; the input reads as it did. -/
def fnExactFirstFactorialUptoRow : OpenClaim := { program := "ytacebpbhddkelaa", sum := "78e117342a95e728ea5ecec3eb26c3e35dfbaf25205f28f24ea12c82665484b7", func := "loop.example/g01245/laws.FnExactFirstFactorial", spec := "fnExactFirstFactorial", apart := false, narrowed := true }
def FnExactFirstFactorialUptoSaid : Prop := fnExactFirstFactorialUptoRow.holds Try.pinned (OpenSpec.upto fnExactFirstFactorialSpec)

/-- 'laws.FnExactSecondFactorial', WHERE WHAT IT READS IS OF BULK AT MOST 1048576: true; the input reads as it did. -/
def fnExactSecondFactorialUptoRow : OpenClaim := { program := "ytacebpbhddkelaa", sum := "78e117342a95e728ea5ecec3eb26c3e35dfbaf25205f28f24ea12c82665484b7", func := "loop.example/g01245/laws.FnExactSecondFactorial", spec := "fnExactSecondFactorial", apart := false, narrowed := true }
def FnExactSecondFactorialUptoSaid : Prop := fnExactSecondFactorialUptoRow.holds Try.pinned (OpenSpec.upto fnExactSecondFactorialSpec)

/-- 'laws.FnExactDegreesOfPartials', WHERE WHAT IT READS IS OF BULK AT MOST 1048576: true; the input reads as it did. -/
def fnExactDegreesOfPartialsUptoRow : OpenClaim := { program := "ytacebpbhddkelaa", sum := "78e117342a95e728ea5ecec3eb26c3e35dfbaf25205f28f24ea12c82665484b7", func := "loop.example/g01245/laws.FnExactDegreesOfPartials", spec := "fnExactDegreesOfPartials", unfollowed := true, recurses := true, apart := false, narrowed := true }
def FnExactDegreesOfPartialsUptoSaid : Prop := fnExactDegreesOfPartialsUptoRow.holds Try.pinned (OpenSpec.upto fnExactDegreesOfPartialsSpec)

end Rows
end Go.Proofs.Ytacebpbhddkelaa
