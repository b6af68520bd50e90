/- The types that the functions use. Printed by gen.py. -/
import Derived.Test.YtkbnegemdlnncaaAbsZ
import Derived.Test.YtkbnegemdlnncaaProg
import Derived.KernelRfl
namespace Go.Proofs.Ytkbnegemdlnncaa
open Go.Abs Go.Proofs
set_option linter.unusedSimpArgs false
set_option linter.unusedVariables false

def eSu8 (x : (List Int)) : AV := .sl 1 false (x.map (AV.int .u8))
def eT_Su8_i64_u64_Z (x : ((List Int) × Int × Int)) : AV := .struct [1, 1, 1] [eSu8 x.1, (AV.int .i64) x.2.1, (AV.int .u64) x.2.2]
def eSi64 (x : (List Int)) : AV := .sl 1 false (x.map (AV.int .i64))
def eVb (x : (Vec Int 64)) : AV := .arr 1 64 (x.1.map (AV.int .u8))
def eSA64u8 (x : (List (Vec Int 64))) : AV := .sl 64 false (x.map eVb)
def eSSi64 (x : (List (List Int))) : AV := .sl 1 false (x.map eSi64)
def eSstr (x : (List ByteArray)) : AV := .sl 1 false (x.map AV.str)
def tys : Tys := [(2, ⟨.int .i64, 1, 8, (.int .i64 0)⟩),
  (3, ⟨.int .i64, 1, 8, (.int .i64 0)⟩),
  (4, ⟨.bool, 1, 1, (.bool false)⟩),
  (5, ⟨.int .u8, 1, 1, (.int .u8 0)⟩),
  (9, ⟨.string, 1, 16, (.str ByteArray.empty)⟩),
  (22, ⟨.slice 5, 1, 24, (eSu8 [])⟩),
  (25, ⟨.arr 64 5, 64, 64, (eVb (vrep 64 (0 : Int)))⟩),
  (55, ⟨.slice 25, 1, 24, (eSA64u8 [])⟩),
  (59, ⟨.slice 2, 1, 24, (eSi64 [])⟩),
  (80, ⟨.slice 2, 1, 24, (eSi64 [])⟩),
  (81, ⟨.int .i64, 1, 8, (.int .i64 0)⟩),
  (96, ⟨.ptr 155, 1, 8, (.raw (.pointer none))⟩),
  (108, ⟨.slice 80, 1, 24, (eSSi64 [])⟩),
  (147, ⟨.other, 1, 8, (.raw .nilFunc)⟩),
  (149, ⟨.other, 1, 8, (.raw .nilFunc)⟩),
  (153, ⟨.int .u64, 1, 8, (.int .u64 0)⟩),
  (155, ⟨.struct [(0, 22), (1, 3), (2, 153)], 3, 40, (eT_Su8_i64_u64_Z ([], (0 : Int), (0 : Int)))⟩),
  (164, ⟨.slice 9, 1, 24, (eSstr [])⟩)]
theorem tysOk : TysOk Try.prog tys := by
  intro t a h
  have : (t, a) ∈ tys := look_mem _ _ _ h
  simp only [tys, List.mem_cons, List.not_mem_nil, or_false, Prod.mk.injEq] at this
  rcases this with ⟨rfl, rfl⟩ | ⟨rfl, rfl⟩ | ⟨rfl, rfl⟩ | ⟨rfl, rfl⟩ | ⟨rfl, rfl⟩ | ⟨rfl, rfl⟩ | ⟨rfl, rfl⟩ | ⟨rfl, rfl⟩ | ⟨rfl, rfl⟩ | ⟨rfl, rfl⟩ | ⟨rfl, rfl⟩ | ⟨rfl, rfl⟩ | ⟨rfl, rfl⟩ | ⟨rfl, rfl⟩ | ⟨rfl, rfl⟩ | ⟨rfl, rfl⟩ | ⟨rfl, rfl⟩ | ⟨rfl, rfl⟩
  · exact ⟨by kernel_rfl, by kernel_rfl, by kernel_rfl, by kernel_rfl, by kernel_rfl, by kernel_rfl⟩
  · exact ⟨by kernel_rfl, by kernel_rfl, by kernel_rfl, by kernel_rfl, by kernel_rfl, by kernel_rfl⟩
  · exact ⟨by kernel_rfl, by kernel_rfl, by kernel_rfl, by kernel_rfl, by kernel_rfl, by kernel_rfl⟩
  · exact ⟨by kernel_rfl, by kernel_rfl, by kernel_rfl, by kernel_rfl, by kernel_rfl, by kernel_rfl⟩
  · exact ⟨by kernel_rfl, by kernel_rfl, by kernel_rfl, by kernel_rfl, by kernel_rfl, by kernel_rfl⟩
  · exact ⟨by kernel_rfl, by kernel_rfl, by kernel_rfl, by kernel_rfl, by kernel_rfl, by kernel_rfl⟩
  · exact ⟨by kernel_rfl, by kernel_rfl, by kernel_rfl, by kernel_rfl, by kernel_rfl, by kernel_rfl⟩
  · exact ⟨by kernel_rfl, by kernel_rfl, by kernel_rfl, by kernel_rfl, by kernel_rfl, by kernel_rfl⟩
  · exact ⟨by kernel_rfl, by kernel_rfl, by kernel_rfl, by kernel_rfl, by kernel_rfl, by kernel_rfl⟩
  · exact ⟨by kernel_rfl, by kernel_rfl, by kernel_rfl, by kernel_rfl, by kernel_rfl, by kernel_rfl⟩
  · exact ⟨by kernel_rfl, by kernel_rfl, by kernel_rfl, by kernel_rfl, by kernel_rfl, by kernel_rfl⟩
  · exact ⟨by kernel_rfl, by kernel_rfl, by kernel_rfl, by kernel_rfl, by kernel_rfl, by kernel_rfl⟩
  · exact ⟨by kernel_rfl, by kernel_rfl, by kernel_rfl, by kernel_rfl, by kernel_rfl, by kernel_rfl⟩
  · exact ⟨by kernel_rfl, by kernel_rfl, by kernel_rfl, by kernel_rfl, by kernel_rfl, by kernel_rfl⟩
  · exact ⟨by kernel_rfl, by kernel_rfl, by kernel_rfl, by kernel_rfl, by kernel_rfl, by kernel_rfl⟩
  · exact ⟨by kernel_rfl, by kernel_rfl, by kernel_rfl, by kernel_rfl, by kernel_rfl, by kernel_rfl⟩
  · exact ⟨by kernel_rfl, by kernel_rfl, by kernel_rfl, by kernel_rfl, by kernel_rfl, by kernel_rfl⟩
  · exact ⟨by kernel_rfl, by kernel_rfl, by kernel_rfl, by kernel_rfl, by kernel_rfl, by kernel_rfl⟩
theorem tysPos : ∀ t n e s b z, Abs.look tys t = some ⟨.arr n e, s, b, z⟩ → 0 < n := by
  intro t n e s b z h
  have : (t, _) ∈ tys := look_mem _ _ _ h
  simp only [tys, List.mem_cons, List.not_mem_nil, or_false, Prod.mk.injEq, TyA.mk.injEq, TyD.arr.injEq, reduceCtorEq, false_and, and_false, false_or] at this
  omega
theorem good : Abs.Good Try.prog tys := ⟨tysOk, tysPos, by kernel_rfl⟩
end Go.Proofs.Ytkbnegemdlnncaa
