/- The types that the functions use. Printed by gen.py. -/
import Derived.Test.YtebfhlnfmkhmcaaGreatAbsZ
import Derived.Test.YtebfhlnfmkhmcaaGreatProg
import Derived.KernelRfl
namespace Go.Proofs.YtebfhlnfmkhmcaaGreat
open Go.Abs Go.Proofs
set_option linter.unusedSimpArgs false
set_option linter.unusedVariables false

def xJ (x : (List Int)) : AV := .sl 1 false (x.map (AV.int .u8))
def zB (x : ((List Int) × Int × Int)) : AV := .struct [1, 1, 1] [xJ x.1, (AV.int .i64) x.2.1, (AV.int .u64) x.2.2]
def zI (x : (List Int)) : AV := .sl 1 false (x.map (AV.int .i64))
def zJ (x : (Vec Int 64)) : AV := .arr 1 64 (x.1.map (AV.int .u8))
abbrev yF : AV := zJ (yH 64 (0 : Int))
def wF (x : (List (Vec Int 64))) : AV := .sl 64 false (x.map zJ)
def zA (x : ((Vec Int 64) × (Vec Int 64))) : AV := .struct [64, 64] [zJ x.1, zJ x.2]
abbrev xA : AV := zA (yH 64 (0 : Int), yH 64 (0 : Int))
def zL (x : (List ((Vec Int 64) × (Vec Int 64)))) : AV := .sl 128 false (x.map zA)
def zK (x : (Int × (List Int))) : AV := .struct [1, 1] [(AV.int .i64) x.1, zI x.2]
def zC (x : ((List Int) × (List Int))) : AV := .struct [1, 1] [zI x.1, zI x.2]
def nY (x : (List (List Int))) : AV := .sl 1 false (x.map zI)
def vG (x : (List ((List Int) × (List Int)))) : AV := .sl 2 false (x.map zC)
theorem yS {n m : Nat} (h : Nat.ble n m = true) : n ≤ m := Nat.le_of_ble_eq_true h
def tys : Tys := [(2, ⟨.int .i64, 1, 8, (.int .i64 0)⟩),
  (3, ⟨.int .i64, 1, 8, (.int .i64 0)⟩),
  (4, ⟨.bool, 1, 1, (.bool false)⟩),
  (5, ⟨.int .u8, 1, 1, (.int .u8 0)⟩),
  (22, ⟨.slice 5, 1, 24, (xJ [])⟩),
  (25, ⟨.arr 64 5, 64, 64, (zJ (yH 64 (0 : Int)))⟩),
  (27, ⟨.struct [(0, 25), (64, 25)], 128, 128, (zA ((yH 64 (0 : Int)), (yH 64 (0 : Int))))⟩),
  (45, ⟨.ptr 87, 1, 8, (.raw (.pointer none))⟩),
  (51, ⟨.slice 2, 1, 24, (zI [])⟩),
  (52, ⟨.slice 2, 1, 24, (zI [])⟩),
  (54, ⟨.struct [(0, 52), (1, 52)], 2, 48, (zC ([], []))⟩),
  (55, ⟨.int .i64, 1, 8, (.int .i64 0)⟩),
  (57, ⟨.struct [(0, 55), (1, 52)], 2, 32, (zK ((0 : Int), []))⟩),
  (66, ⟨.slice 27, 1, 24, (zL [])⟩),
  (85, ⟨.int .u64, 1, 8, (.int .u64 0)⟩),
  (87, ⟨.struct [(0, 22), (1, 3), (2, 85)], 3, 40, (zB ([], (0 : Int), (0 : Int)))⟩),
  (97, ⟨.other, 1, 8, (.raw .nilFunc)⟩),
  (107, ⟨.slice 54, 1, 24, (vG [])⟩),
  (110, ⟨.other, 1, 8, (.raw .nilFunc)⟩),
  (113, ⟨.other, 1, 8, (.raw .nilFunc)⟩),
  (123, ⟨.slice 52, 1, 24, (nY [])⟩),
  (127, ⟨.slice 25, 1, 24, (wF [])⟩)]
theorem z6x : TysOk Tryz.prog tys := by
  intro t a h
  have : (t, a) ∈ tys := zce _ _ _ h
  simp only [tys, List.mem_cons, List.not_mem_nil, or_false, Prod.mk.injEq] at this
  rcases this with ⟨rfl, rfl⟩ | ⟨rfl, rfl⟩ | ⟨rfl, rfl⟩ | ⟨rfl, rfl⟩ | ⟨rfl, rfl⟩ | ⟨rfl, rfl⟩ | ⟨rfl, rfl⟩ | ⟨rfl, rfl⟩ | ⟨rfl, rfl⟩ | ⟨rfl, rfl⟩ | ⟨rfl, rfl⟩ | ⟨rfl, rfl⟩ | ⟨rfl, rfl⟩ | ⟨rfl, rfl⟩ | ⟨rfl, rfl⟩ | ⟨rfl, rfl⟩ | ⟨rfl, rfl⟩ | ⟨rfl, rfl⟩ | ⟨rfl, rfl⟩ | ⟨rfl, rfl⟩ | ⟨rfl, rfl⟩ | ⟨rfl, rfl⟩
  · exact ⟨by kernel_rfl, by kernel_rfl, by kernel_rfl, by kernel_rfl, by kernel_rfl, by kernel_rfl⟩
  · exact ⟨by kernel_rfl, by kernel_rfl, by kernel_rfl, by kernel_rfl, by kernel_rfl, by kernel_rfl⟩
  · exact ⟨by kernel_rfl, by kernel_rfl, by kernel_rfl, by kernel_rfl, by kernel_rfl, by kernel_rfl⟩
  · exact ⟨by kernel_rfl, by kernel_rfl, by kernel_rfl, by kernel_rfl, by kernel_rfl, by kernel_rfl⟩
  · exact ⟨by kernel_rfl, by kernel_rfl, by kernel_rfl, by kernel_rfl, by kernel_rfl, by kernel_rfl⟩
  · exact ⟨by kernel_rfl, by kernel_rfl, by kernel_rfl, by kernel_rfl, by kernel_rfl, by kernel_rfl⟩
  · exact ⟨by kernel_rfl, by kernel_rfl, by kernel_rfl, by kernel_rfl, by kernel_rfl, by kernel_rfl⟩
  · exact ⟨by kernel_rfl, by kernel_rfl, by kernel_rfl, by kernel_rfl, by kernel_rfl, by kernel_rfl⟩
  · exact ⟨by kernel_rfl, by kernel_rfl, by kernel_rfl, by kernel_rfl, by kernel_rfl, by kernel_rfl⟩
  · exact ⟨by kernel_rfl, by kernel_rfl, by kernel_rfl, by kernel_rfl, by kernel_rfl, by kernel_rfl⟩
  · exact ⟨by kernel_rfl, by kernel_rfl, by kernel_rfl, by kernel_rfl, by kernel_rfl, by kernel_rfl⟩
  · exact ⟨by kernel_rfl, by kernel_rfl, by kernel_rfl, by kernel_rfl, by kernel_rfl, by kernel_rfl⟩
  · exact ⟨by kernel_rfl, by kernel_rfl, by kernel_rfl, by kernel_rfl, by kernel_rfl, by kernel_rfl⟩
  · exact ⟨by kernel_rfl, by kernel_rfl, by kernel_rfl, by kernel_rfl, by kernel_rfl, by kernel_rfl⟩
  · exact ⟨by kernel_rfl, by kernel_rfl, by kernel_rfl, by kernel_rfl, by kernel_rfl, by kernel_rfl⟩
  · exact ⟨by kernel_rfl, by kernel_rfl, by kernel_rfl, by kernel_rfl, by kernel_rfl, by kernel_rfl⟩
  · exact ⟨by kernel_rfl, by kernel_rfl, by kernel_rfl, by kernel_rfl, by kernel_rfl, by kernel_rfl⟩
  · exact ⟨by kernel_rfl, by kernel_rfl, by kernel_rfl, by kernel_rfl, by kernel_rfl, by kernel_rfl⟩
  · exact ⟨by kernel_rfl, by kernel_rfl, by kernel_rfl, by kernel_rfl, by kernel_rfl, by kernel_rfl⟩
  · exact ⟨by kernel_rfl, by kernel_rfl, by kernel_rfl, by kernel_rfl, by kernel_rfl, by kernel_rfl⟩
  · exact ⟨by kernel_rfl, by kernel_rfl, by kernel_rfl, by kernel_rfl, by kernel_rfl, by kernel_rfl⟩
  · exact ⟨by kernel_rfl, by kernel_rfl, by kernel_rfl, by kernel_rfl, by kernel_rfl, by kernel_rfl⟩
theorem z5z : ∀ t n e s b z, Abs.look tys t = some ⟨.arr n e, s, b, z⟩ → 0 < n := by
  intro t n e s b z h
  have : (t, _) ∈ tys := zce _ _ _ h
  simp only [tys, List.mem_cons, List.not_mem_nil, or_false, Prod.mk.injEq, TyA.mk.injEq, TyD.arr.injEq, reduceCtorEq, false_and, and_false, false_or] at this
  omega
theorem xL : Abs.Good Tryz.prog tys := ⟨z6x, z5z, by kernel_rfl⟩
end Go.Proofs.YtebfhlnfmkhmcaaGreat
