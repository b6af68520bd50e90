/- The types that the functions use. Printed by gen.py. -/
import Derived.Test.YtkbnegemdlnncaaGreatAbsZ
import Derived.Test.YtkbnegemdlnncaaGreatProg
import Derived.KernelRfl
namespace Go.Proofs.YtkbnegemdlnncaaGreat
open Go.Abs Go.Proofs
set_option linter.unusedSimpArgs false
set_option linter.unusedVariables false

def eSu8 (x : (List Int)) : AV := .sl 1 false (x.map (AV.int .u8))
def eT_Su8_i64_u64_Z (x : ((List Int) × Int × Int)) : AV := .struct [1, 1, 1] [eSu8 x.1, (AV.int .i64) x.2.1, (AV.int .u64) x.2.2]
def eSi64 (x : (List Int)) : AV := .sl 1 false (x.map (AV.int .i64))
def eVb (x : (Vec Int 64)) : AV := .arr 1 64 (x.1.map (AV.int .u8))
abbrev eV0 : AV := eVb (vrep 64 (0 : Int))
def eSA64u8 (x : (List (Vec Int 64))) : AV := .sl 64 false (x.map eVb)
def eSSi64 (x : (List (List Int))) : AV := .sl 1 false (x.map eSi64)
def tys : Tys := [(2, ⟨.int .i64, 1, 8, (.int .i64 0)⟩),
  (3, ⟨.int .i64, 1, 8, (.int .i64 0)⟩),
  (4, ⟨.bool, 1, 1, (.bool false)⟩),
  (5, ⟨.int .u8, 1, 1, (.int .u8 0)⟩),
  (22, ⟨.slice 5, 1, 24, (eSu8 [])⟩),
  (25, ⟨.arr 64 5, 64, 64, (eVb (vrep 64 (0 : Int)))⟩),
  (34, ⟨.slice 2, 1, 24, (eSi64 [])⟩),
  (62, ⟨.slice 2, 1, 24, (eSi64 [])⟩),
  (63, ⟨.int .i64, 1, 8, (.int .i64 0)⟩),
  (73, ⟨.ptr 127, 1, 8, (.raw (.pointer none))⟩),
  (85, ⟨.other, 1, 8, (.raw .nilFunc)⟩),
  (87, ⟨.struct [(0, 63), (1, 62), (2, 62), (3, 2), (4, 85)], 5, 72, (.struct [1, 1, 1, 1, 1] [(.int .i64 0), (eSi64 []), (eSi64 []), (.int .i64 0), (.raw .nilFunc)])⟩),
  (122, ⟨.other, 1, 8, (.raw .nilFunc)⟩),
  (125, ⟨.int .u64, 1, 8, (.int .u64 0)⟩),
  (127, ⟨.struct [(0, 22), (1, 3), (2, 125)], 3, 40, (eT_Su8_i64_u64_Z ([], (0 : Int), (0 : Int)))⟩),
  (130, ⟨.slice 62, 1, 24, (eSSi64 [])⟩),
  (146, ⟨.slice 25, 1, 24, (eSA64u8 [])⟩),
  (160, ⟨.other, 1, 8, (.raw .nilFunc)⟩)]
theorem tysOk : TysOk Tryz.prog tys := by
  intro t a h
  have : (t, a) ∈ tys := look_mem _ _ _ h
  simp only [tys, List.mem_cons, List.not_mem_nil, or_false, Prod.mk.injEq] at this
  rcases this with ⟨rfl, rfl⟩ | ⟨rfl, rfl⟩ | ⟨rfl, rfl⟩ | ⟨rfl, rfl⟩ | ⟨rfl, rfl⟩ | ⟨rfl, rfl⟩ | ⟨rfl, rfl⟩ | ⟨rfl, rfl⟩ | ⟨rfl, rfl⟩ | ⟨rfl, rfl⟩ | ⟨rfl, rfl⟩ | ⟨rfl, rfl⟩ | ⟨rfl, rfl⟩ | ⟨rfl, rfl⟩ | ⟨rfl, rfl⟩ | ⟨rfl, rfl⟩ | ⟨rfl, rfl⟩ | ⟨rfl, rfl⟩
  · exact ⟨by kernel_rfl, by kernel_rfl, by kernel_rfl, by kernel_rfl, by kernel_rfl, by kernel_rfl⟩
  · exact ⟨by kernel_rfl, by kernel_rfl, by kernel_rfl, by kernel_rfl, by kernel_rfl, by kernel_rfl⟩
  · exact ⟨by kernel_rfl, by kernel_rfl, by kernel_rfl, by kernel_rfl, by kernel_rfl, by kernel_rfl⟩
  · exact ⟨by kernel_rfl, by kernel_rfl, by kernel_rfl, by kernel_rfl, by kernel_rfl, by kernel_rfl⟩
  · exact ⟨by kernel_rfl, by kernel_rfl, by kernel_rfl, by kernel_rfl, by kernel_rfl, by kernel_rfl⟩
  · exact ⟨by kernel_rfl, by kernel_rfl, by kernel_rfl, by kernel_rfl, by kernel_rfl, by kernel_rfl⟩
  · exact ⟨by kernel_rfl, by kernel_rfl, by kernel_rfl, by kernel_rfl, by kernel_rfl, by kernel_rfl⟩
  · exact ⟨by kernel_rfl, by kernel_rfl, by kernel_rfl, by kernel_rfl, by kernel_rfl, by kernel_rfl⟩
  · exact ⟨by kernel_rfl, by kernel_rfl, by kernel_rfl, by kernel_rfl, by kernel_rfl, by kernel_rfl⟩
  · exact ⟨by kernel_rfl, by kernel_rfl, by kernel_rfl, by kernel_rfl, by kernel_rfl, by kernel_rfl⟩
  · exact ⟨by kernel_rfl, by kernel_rfl, by kernel_rfl, by kernel_rfl, by kernel_rfl, by kernel_rfl⟩
  · exact ⟨by kernel_rfl, by kernel_rfl, by kernel_rfl, by kernel_rfl, by kernel_rfl, by kernel_rfl⟩
  · exact ⟨by kernel_rfl, by kernel_rfl, by kernel_rfl, by kernel_rfl, by kernel_rfl, by kernel_rfl⟩
  · exact ⟨by kernel_rfl, by kernel_rfl, by kernel_rfl, by kernel_rfl, by kernel_rfl, by kernel_rfl⟩
  · exact ⟨by kernel_rfl, by kernel_rfl, by kernel_rfl, by kernel_rfl, by kernel_rfl, by kernel_rfl⟩
  · exact ⟨by kernel_rfl, by kernel_rfl, by kernel_rfl, by kernel_rfl, by kernel_rfl, by kernel_rfl⟩
  · exact ⟨by kernel_rfl, by kernel_rfl, by kernel_rfl, by kernel_rfl, by kernel_rfl, by kernel_rfl⟩
  · exact ⟨by kernel_rfl, by kernel_rfl, by kernel_rfl, by kernel_rfl, by kernel_rfl, by kernel_rfl⟩
theorem tysPos : ∀ t n e s b z, Abs.look tys t = some ⟨.arr n e, s, b, z⟩ → 0 < n := by
  intro t n e s b z h
  have : (t, _) ∈ tys := look_mem _ _ _ h
  simp only [tys, List.mem_cons, List.not_mem_nil, or_false, Prod.mk.injEq, TyA.mk.injEq, TyD.arr.injEq, reduceCtorEq, false_and, and_false, false_or] at this
  omega
theorem good : Abs.Good Tryz.prog tys := ⟨tysOk, tysPos, by kernel_rfl⟩
end Go.Proofs.YtkbnegemdlnncaaGreat
