/- The types that the functions use. Printed by gen.py. -/
import Derived.Test.YtebfhlnfmkhmcaaAbsZ
import Derived.Test.YtebfhlnfmkhmcaaProg
import Derived.KernelRfl
namespace Go.Proofs.Ytebfhlnfmkhmcaa
open Go.Abs Go.Proofs
set_option linter.unusedSimpArgs false
set_option linter.unusedVariables false

def eA64u8 (x : (Vec Int 64)) : AV := .arr 1 64 (x.1.map (AV.int .u8))
def eSA64u8 (x : (List (Vec Int 64))) : AV := .sl 64 false (x.map eA64u8)
def eSu8 (x : (List Int)) : AV := .sl 1 false (x.map (AV.int .u8))
def eSi64 (x : (List Int)) : AV := .sl 1 false (x.map (AV.int .i64))
def eSSi64 (x : (List (List Int))) : AV := .sl 1 false (x.map eSi64)
def tys : Tys := [(2, ⟨.int .i64, 1, 8, (.int .i64 0)⟩),
  (3, ⟨.int .i64, 1, 8, (.int .i64 0)⟩),
  (4, ⟨.bool, 1, 1, (.bool false)⟩),
  (5, ⟨.int .u8, 1, 1, (.int .u8 0)⟩),
  (22, ⟨.arr 64 5, 64, 64, (eA64u8 (vrep 64 (0 : Int)))⟩),
  (26, ⟨.arr 64 5, 64, 64, (eA64u8 (vrep 64 (0 : Int)))⟩),
  (41, ⟨.int .i64, 1, 8, (.int .i64 0)⟩),
  (42, ⟨.slice 2, 1, 24, (eSi64 [])⟩),
  (62, ⟨.slice 26, 1, 24, (eSA64u8 [])⟩),
  (71, ⟨.slice 42, 1, 24, (eSSi64 [])⟩),
  (76, ⟨.other, 1, 8, (.raw .nilFunc)⟩),
  (109, ⟨.slice 5, 1, 24, (eSu8 [])⟩),
  (110, ⟨.other, 1, 8, (.raw .nilFunc)⟩)]
theorem tysOk : TysOk Try.prog tys := by
  intro t a h
  have : (t, a) ∈ tys := look_mem _ _ _ h
  simp only [tys, List.mem_cons, List.not_mem_nil, or_false, Prod.mk.injEq] at this
  rcases this with ⟨rfl, rfl⟩ | ⟨rfl, rfl⟩ | ⟨rfl, rfl⟩ | ⟨rfl, rfl⟩ | ⟨rfl, rfl⟩ | ⟨rfl, rfl⟩ | ⟨rfl, rfl⟩ | ⟨rfl, rfl⟩ | ⟨rfl, rfl⟩ | ⟨rfl, rfl⟩ | ⟨rfl, rfl⟩ | ⟨rfl, rfl⟩ | ⟨rfl, rfl⟩
  · exact ⟨by kernel_rfl, by kernel_rfl, by kernel_rfl, by kernel_rfl, by kernel_rfl, by kernel_rfl⟩
  · exact ⟨by kernel_rfl, by kernel_rfl, by kernel_rfl, by kernel_rfl, by kernel_rfl, by kernel_rfl⟩
  · exact ⟨by kernel_rfl, by kernel_rfl, by kernel_rfl, by kernel_rfl, by kernel_rfl, by kernel_rfl⟩
  · exact ⟨by kernel_rfl, by kernel_rfl, by kernel_rfl, by kernel_rfl, by kernel_rfl, by kernel_rfl⟩
  · exact ⟨by kernel_rfl, by kernel_rfl, by kernel_rfl, by kernel_rfl, by kernel_rfl, by kernel_rfl⟩
  · exact ⟨by kernel_rfl, by kernel_rfl, by kernel_rfl, by kernel_rfl, by kernel_rfl, by kernel_rfl⟩
  · exact ⟨by kernel_rfl, by kernel_rfl, by kernel_rfl, by kernel_rfl, by kernel_rfl, by kernel_rfl⟩
  · exact ⟨by kernel_rfl, by kernel_rfl, by kernel_rfl, by kernel_rfl, by kernel_rfl, by kernel_rfl⟩
  · exact ⟨by kernel_rfl, by kernel_rfl, by kernel_rfl, by kernel_rfl, by kernel_rfl, by kernel_rfl⟩
  · exact ⟨by kernel_rfl, by kernel_rfl, by kernel_rfl, by kernel_rfl, by kernel_rfl, by kernel_rfl⟩
  · exact ⟨by kernel_rfl, by kernel_rfl, by kernel_rfl, by kernel_rfl, by kernel_rfl, by kernel_rfl⟩
  · exact ⟨by kernel_rfl, by kernel_rfl, by kernel_rfl, by kernel_rfl, by kernel_rfl, by kernel_rfl⟩
  · exact ⟨by kernel_rfl, by kernel_rfl, by kernel_rfl, by kernel_rfl, by kernel_rfl, by kernel_rfl⟩
theorem tysPos : ∀ t n e s b z, Abs.look tys t = some ⟨.arr n e, s, b, z⟩ → 0 < n := by
  intro t n e s b z h
  have : (t, _) ∈ tys := look_mem _ _ _ h
  simp only [tys, List.mem_cons, List.not_mem_nil, or_false, Prod.mk.injEq, TyA.mk.injEq, TyD.arr.injEq, reduceCtorEq, false_and, and_false, false_or] at this
  omega
theorem good : Abs.Good Try.prog tys := ⟨tysOk, tysPos, by kernel_rfl⟩
end Go.Proofs.Ytebfhlnfmkhmcaa
