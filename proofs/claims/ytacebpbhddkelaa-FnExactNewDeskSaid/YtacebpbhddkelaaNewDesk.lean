/- FnExactNewDesk. -/
import Derived.Test.YtacebpbhddkelaaNum
namespace Go.Proofs.Ytacebpbhddkelaa
open Go.Abs

theorem eqDesk_is (a b : Int × V64 × V64 × V64) : laws_eqDesk a b = some (decide (a = b)) := by
  obtain ⟨a1, a2, a3, a4⟩ := a
  obtain ⟨b1, b2, b3, b4⟩ := b
  simp only [laws_eqDesk, eqPoly_is, Option.bind_some]
  by_cases h1 : a1 = b1 <;> by_cases h2 : a2 = b2 <;> by_cases h3 : a3 = b3 <;> by_cases h4 : a4 = b4 <;> simp [h1, h2, h3, h4]

theorem newDesk_law : laws_FnExactNewDesk = some true := by
  have e1 : impl_row_poly [0, 1] = some (pad [0, 1]) := poly_is (by unfold Bytes; simp) (by simp)
  have e2 : impl_row_poly [1] = some (pad [1]) := poly_is (by unfold Bytes; simp) (by simp)
  have e3 : impl_row_poly [1, 0, 1] = some (pad [1, 0, 1]) := poly_is (by unfold Bytes; simp) (by simp)
  have p1 : vset (vset (vrep 64 (0 : Int)) 0 0) 1 1 = pad [0, 1] := by rw [← pad_nil]; exact (congrArg (fun v => vset v 1 1) (pad_set [] 0 (by simp))).trans (pad_set [0] 1 (by simp))
  have p2 : vset (vrep 64 (0 : Int)) 0 1 = pad [1] := by rw [← pad_nil]; exact pad_set [] 1 (by simp)
  have p3 : vset (vset (vset (vrep 64 (0 : Int)) 0 1) 1 0) 2 1 = pad [1, 0, 1] := by
    rw [← pad_nil]
    exact (congrArg (fun v => vset (vset v 1 0) 2 1) (pad_set [] 1 (by simp))).trans ((congrArg (fun v => vset v 2 1) (pad_set [1] 0 (by simp))).trans (pad_set [1, 0] 1 (by simp)))
  simp only [laws_FnExactNewDesk, spec_NewDesk, spec_l11New, spec_l01T, spec_l01One, impl_NewDesk, e1, e2, e3, p1, p2, letp, Option.bind_some, eqDesk_is]
  simp
  rw [← p2]; exact p3.symm
end Go.Proofs.Ytacebpbhddkelaa
