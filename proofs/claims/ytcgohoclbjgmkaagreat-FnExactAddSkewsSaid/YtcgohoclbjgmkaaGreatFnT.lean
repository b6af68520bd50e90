/- The types that the functions use. Printed by gen.py. -/
import Derived.Test.YtcgohoclbjgmkaaGreatAbsZ
import Derived.Test.YtcgohoclbjgmkaaGreatProg
import Derived.KernelRfl
namespace Go.Proofs.YtcgohoclbjgmkaaGreat
open Go.Abs Go.Proofs
set_option linter.unusedSimpArgs false
set_option linter.unusedVariables false

def eA64u8 (x : (Vec Int 64)) : AV := .arr 1 64 (x.1.map (AV.int .u8))
def eA8A64u8 (x : (Vec (Vec Int 64) 8)) : AV := .arr 64 8 (x.1.map eA64u8)
def eSA8A64u8 (x : (List (Vec (Vec Int 64) 8))) : AV := .sl 512 false (x.map eA8A64u8)
def eSi64 (x : (List Int)) : AV := .sl 1 false (x.map (AV.int .i64))
def eSu8 (x : (List Int)) : AV := .sl 1 false (x.map (AV.int .u8))
def eT_Si64_i64_Z (x : ((List Int) × Int)) : AV := .struct [1, 1] [eSi64 x.1, (AV.int .i64) x.2]
def eST_Si64_i64_Z (x : (List ((List Int) × Int))) : AV := .sl 2 false (x.map eT_Si64_i64_Z)
def eT_i64_Si64_Z (x : (Int × (List Int))) : AV := .struct [1, 1] [(AV.int .i64) x.1, eSi64 x.2]
def eSA64u8 (x : (List (Vec Int 64))) : AV := .sl 64 false (x.map eA64u8)
def eSSi64 (x : (List (List Int))) : AV := .sl 1 false (x.map eSi64)
def tys : Tys := [(2, ⟨.int .i64, 1, 8, (.int .i64 0)⟩),
  (3, ⟨.int .i64, 1, 8, (.int .i64 0)⟩),
  (4, ⟨.bool, 1, 1, (.bool false)⟩),
  (5, ⟨.int .u8, 1, 1, (.int .u8 0)⟩),
  (9, ⟨.string, 1, 16, (.str ByteArray.empty)⟩),
  (22, ⟨.arr 64 5, 64, 64, (eA64u8 (vrep 64 (0 : Int)))⟩),
  (23, ⟨.arr 8 22, 512, 512, (eA8A64u8 (vrep 8 (vrep 64 (0 : Int))))⟩),
  (24, ⟨.arr 64 5, 64, 64, (eA64u8 (vrep 64 (0 : Int)))⟩),
  (26, ⟨.arr 8 24, 512, 512, (eA8A64u8 (vrep 8 (vrep 64 (0 : Int))))⟩),
  (37, ⟨.slice 40, 1, 24, (eSSi64 [])⟩),
  (38, ⟨.int .i64, 1, 8, (.int .i64 0)⟩),
  (40, ⟨.slice 2, 1, 24, (eSi64 [])⟩),
  (42, ⟨.struct [(0, 38), (1, 40)], 2, 32, (eT_i64_Si64_Z ((0 : Int), []))⟩),
  (47, ⟨.slice 26, 1, 24, (eSA8A64u8 [])⟩),
  (52, ⟨.other, 1, 8, (.raw .nilFunc)⟩),
  (59, ⟨.other, 1, 8, (.raw .nilFunc)⟩),
  (65, ⟨.slice 24, 1, 24, (eSA64u8 [])⟩),
  (72, ⟨.slice 75, 1, 24, (eST_Si64_i64_Z [])⟩),
  (75, ⟨.struct [(0, 40), (1, 2)], 2, 32, (eT_Si64_i64_Z ([], (0 : Int)))⟩),
  (83, ⟨.slice 5, 1, 24, (eSu8 [])⟩),
  (84, ⟨.other, 1, 8, (.raw .nilFunc)⟩),
  (97, ⟨.int .u64, 1, 8, (.int .u64 0)⟩),
  (121, ⟨.int .u64, 1, 8, (.int .u64 0)⟩)]
theorem tysOk : TysOk Tryz.prog tys := by
  intro t a h
  have : (t, a) ∈ tys := look_mem _ _ _ h
  simp only [tys, List.mem_cons, List.not_mem_nil, or_false, Prod.mk.injEq] at this
  rcases this with ⟨rfl, rfl⟩ | ⟨rfl, rfl⟩ | ⟨rfl, rfl⟩ | ⟨rfl, rfl⟩ | ⟨rfl, rfl⟩ | ⟨rfl, rfl⟩ | ⟨rfl, rfl⟩ | ⟨rfl, rfl⟩ | ⟨rfl, rfl⟩ | ⟨rfl, rfl⟩ | ⟨rfl, rfl⟩ | ⟨rfl, rfl⟩ | ⟨rfl, rfl⟩ | ⟨rfl, rfl⟩ | ⟨rfl, rfl⟩ | ⟨rfl, rfl⟩ | ⟨rfl, rfl⟩ | ⟨rfl, rfl⟩ | ⟨rfl, rfl⟩ | ⟨rfl, rfl⟩ | ⟨rfl, rfl⟩ | ⟨rfl, rfl⟩ | ⟨rfl, rfl⟩
  · exact ⟨by kernel_rfl, by kernel_rfl, by kernel_rfl, by kernel_rfl, by kernel_rfl, by kernel_rfl⟩
  · exact ⟨by kernel_rfl, by kernel_rfl, by kernel_rfl, by kernel_rfl, by kernel_rfl, by kernel_rfl⟩
  · exact ⟨by kernel_rfl, by kernel_rfl, by kernel_rfl, by kernel_rfl, by kernel_rfl, by kernel_rfl⟩
  · exact ⟨by kernel_rfl, by kernel_rfl, by kernel_rfl, by kernel_rfl, by kernel_rfl, by kernel_rfl⟩
  · exact ⟨by kernel_rfl, by kernel_rfl, by kernel_rfl, by kernel_rfl, by kernel_rfl, by kernel_rfl⟩
  · exact ⟨by kernel_rfl, by kernel_rfl, by kernel_rfl, by kernel_rfl, by kernel_rfl, by kernel_rfl⟩
  · exact ⟨by kernel_rfl, by kernel_rfl, by kernel_rfl, by kernel_rfl, by kernel_rfl, by kernel_rfl⟩
  · exact ⟨by kernel_rfl, by kernel_rfl, by kernel_rfl, by kernel_rfl, by kernel_rfl, by kernel_rfl⟩
  · exact ⟨by kernel_rfl, by kernel_rfl, by kernel_rfl, by kernel_rfl, by kernel_rfl, by kernel_rfl⟩
  · exact ⟨by kernel_rfl, by kernel_rfl, by kernel_rfl, by kernel_rfl, by kernel_rfl, by kernel_rfl⟩
  · exact ⟨by kernel_rfl, by kernel_rfl, by kernel_rfl, by kernel_rfl, by kernel_rfl, by kernel_rfl⟩
  · exact ⟨by kernel_rfl, by kernel_rfl, by kernel_rfl, by kernel_rfl, by kernel_rfl, by kernel_rfl⟩
  · exact ⟨by kernel_rfl, by kernel_rfl, by kernel_rfl, by kernel_rfl, by kernel_rfl, by kernel_rfl⟩
  · exact ⟨by kernel_rfl, by kernel_rfl, by kernel_rfl, by kernel_rfl, by kernel_rfl, by kernel_rfl⟩
  · exact ⟨by kernel_rfl, by kernel_rfl, by kernel_rfl, by kernel_rfl, by kernel_rfl, by kernel_rfl⟩
  · exact ⟨by kernel_rfl, by kernel_rfl, by kernel_rfl, by kernel_rfl, by kernel_rfl, by kernel_rfl⟩
  · exact ⟨by kernel_rfl, by kernel_rfl, by kernel_rfl, by kernel_rfl, by kernel_rfl, by kernel_rfl⟩
  · exact ⟨by kernel_rfl, by kernel_rfl, by kernel_rfl, by kernel_rfl, by kernel_rfl, by kernel_rfl⟩
  · exact ⟨by kernel_rfl, by kernel_rfl, by kernel_rfl, by kernel_rfl, by kernel_rfl, by kernel_rfl⟩
  · exact ⟨by kernel_rfl, by kernel_rfl, by kernel_rfl, by kernel_rfl, by kernel_rfl, by kernel_rfl⟩
  · exact ⟨by kernel_rfl, by kernel_rfl, by kernel_rfl, by kernel_rfl, by kernel_rfl, by kernel_rfl⟩
  · exact ⟨by kernel_rfl, by kernel_rfl, by kernel_rfl, by kernel_rfl, by kernel_rfl, by kernel_rfl⟩
  · exact ⟨by kernel_rfl, by kernel_rfl, by kernel_rfl, by kernel_rfl, by kernel_rfl, by kernel_rfl⟩
theorem tysPos : ∀ t n e s b z, Abs.look tys t = some ⟨.arr n e, s, b, z⟩ → 0 < n := by
  intro t n e s b z h
  have : (t, _) ∈ tys := look_mem _ _ _ h
  simp only [tys, List.mem_cons, List.not_mem_nil, or_false, Prod.mk.injEq, TyA.mk.injEq, TyD.arr.injEq, reduceCtorEq, false_and, and_false, false_or] at this
  omega
theorem good : Abs.Good Tryz.prog tys := ⟨tysOk, tysPos, by kernel_rfl⟩
end Go.Proofs.YtcgohoclbjgmkaaGreat
