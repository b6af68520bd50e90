/- The types that the functions use. Printed by gen.py. -/
import Derived.Test.YtpjdjfhbfcekaaaAbsZ
import Derived.Test.YtpjdjfhbfcekaaaProg
import Derived.KernelRfl
namespace Go.Proofs.Ytpjdjfhbfcekaaa
open Go.Abs Go.Proofs
set_option linter.unusedSimpArgs false
set_option linter.unusedVariables false

def eA64u8 (x : (Vec Int 64)) : AV := .arr 1 64 (x.1.map (AV.int .u8))
def eSA64u8 (x : (List (Vec Int 64))) : AV := .sl 64 false (x.map eA64u8)
def eSi64 (x : (List Int)) : AV := .sl 1 false (x.map (AV.int .i64))
def eT_Si64_i64_Z (x : ((List Int) × Int)) : AV := .struct [1, 1] [eSi64 x.1, (AV.int .i64) x.2]
def eST_Si64_i64_Z (x : (List ((List Int) × Int))) : AV := .sl 2 false (x.map eT_Si64_i64_Z)
def eSSi64 (x : (List (List Int))) : AV := .sl 1 false (x.map eSi64)
def tys : Tys := [(2, ⟨.int .i64, 1, 8, (.int .i64 0)⟩),
  (3, ⟨.int .i64, 1, 8, (.int .i64 0)⟩),
  (4, ⟨.bool, 1, 1, (.bool false)⟩),
  (5, ⟨.int .u8, 1, 1, (.int .u8 0)⟩),
  (9, ⟨.string, 1, 16, (.str ByteArray.empty)⟩),
  (22, ⟨.slice 32, 1, 24, (eSA64u8 [])⟩),
  (32, ⟨.arr 64 5, 64, 64, (eA64u8 (vrep 64 (0 : Int)))⟩),
  (35, ⟨.int .i64, 1, 8, (.int .i64 0)⟩),
  (36, ⟨.slice 39, 1, 24, (eSSi64 [])⟩),
  (39, ⟨.slice 2, 1, 24, (eSi64 [])⟩),
  (52, ⟨.slice 55, 1, 24, (eST_Si64_i64_Z [])⟩),
  (55, ⟨.struct [(0, 39), (1, 2)], 2, 32, (eT_Si64_i64_Z ([], (0 : Int)))⟩),
  (75, ⟨.int .u64, 1, 8, (.int .u64 0)⟩),
  (97, ⟨.int .u64, 1, 8, (.int .u64 0)⟩)]
theorem tysOk : TysOk Try.prog tys := by
  intro t a h
  have : (t, a) ∈ tys := look_mem _ _ _ h
  simp only [tys, List.mem_cons, List.not_mem_nil, or_false, Prod.mk.injEq] at this
  rcases this with ⟨rfl, rfl⟩ | ⟨rfl, rfl⟩ | ⟨rfl, rfl⟩ | ⟨rfl, rfl⟩ | ⟨rfl, rfl⟩ | ⟨rfl, rfl⟩ | ⟨rfl, rfl⟩ | ⟨rfl, rfl⟩ | ⟨rfl, rfl⟩ | ⟨rfl, rfl⟩ | ⟨rfl, rfl⟩ | ⟨rfl, rfl⟩ | ⟨rfl, rfl⟩ | ⟨rfl, rfl⟩
  · exact ⟨by kernel_rfl, by kernel_rfl, by kernel_rfl, by kernel_rfl, by kernel_rfl, by kernel_rfl⟩
  · exact ⟨by kernel_rfl, by kernel_rfl, by kernel_rfl, by kernel_rfl, by kernel_rfl, by kernel_rfl⟩
  · exact ⟨by kernel_rfl, by kernel_rfl, by kernel_rfl, by kernel_rfl, by kernel_rfl, by kernel_rfl⟩
  · exact ⟨by kernel_rfl, by kernel_rfl, by kernel_rfl, by kernel_rfl, by kernel_rfl, by kernel_rfl⟩
  · exact ⟨by kernel_rfl, by kernel_rfl, by kernel_rfl, by kernel_rfl, by kernel_rfl, by kernel_rfl⟩
  · exact ⟨by kernel_rfl, by kernel_rfl, by kernel_rfl, by kernel_rfl, by kernel_rfl, by kernel_rfl⟩
  · exact ⟨by kernel_rfl, by kernel_rfl, by kernel_rfl, by kernel_rfl, by kernel_rfl, by kernel_rfl⟩
  · exact ⟨by kernel_rfl, by kernel_rfl, by kernel_rfl, by kernel_rfl, by kernel_rfl, by kernel_rfl⟩
  · exact ⟨by kernel_rfl, by kernel_rfl, by kernel_rfl, by kernel_rfl, by kernel_rfl, by kernel_rfl⟩
  · exact ⟨by kernel_rfl, by kernel_rfl, by kernel_rfl, by kernel_rfl, by kernel_rfl, by kernel_rfl⟩
  · exact ⟨by kernel_rfl, by kernel_rfl, by kernel_rfl, by kernel_rfl, by kernel_rfl, by kernel_rfl⟩
  · exact ⟨by kernel_rfl, by kernel_rfl, by kernel_rfl, by kernel_rfl, by kernel_rfl, by kernel_rfl⟩
  · exact ⟨by kernel_rfl, by kernel_rfl, by kernel_rfl, by kernel_rfl, by kernel_rfl, by kernel_rfl⟩
  · exact ⟨by kernel_rfl, by kernel_rfl, by kernel_rfl, by kernel_rfl, by kernel_rfl, by kernel_rfl⟩
theorem tysPos : ∀ t n e s b z, Abs.look tys t = some ⟨.arr n e, s, b, z⟩ → 0 < n := by
  intro t n e s b z h
  have : (t, _) ∈ tys := look_mem _ _ _ h
  simp only [tys, List.mem_cons, List.not_mem_nil, or_false, Prod.mk.injEq, TyA.mk.injEq, TyD.arr.injEq, reduceCtorEq, false_and, and_false, false_or] at this
  omega
theorem good : Abs.Good Try.prog tys := ⟨tysOk, tysPos, by kernel_rfl⟩
end Go.Proofs.Ytpjdjfhbfcekaaa
