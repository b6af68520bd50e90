/- Functions of the program: plain Lean functions, and that the program computes them. Printed by gen.py. -/
import Derived.Test.YtgodhgbnjlflmaaFnT
import Derived.Test.YtgodhgbnjlflmaaFn4
import Derived.Test.YtgodhgbnjlflmaaFn5
import Derived.Test.YtgodhgbnjlflmaaFn6
namespace Go.Proofs.Ytgodhgbnjlflmaa
open Go.Abs Go.Proofs
set_option linter.unusedSimpArgs false
set_option linter.unusedVariables false
attribute [local irreducible] Abs.acode Abs.aops Abs.aopsT Abs.thenK Abs.blockK

def impl_curve_isForm_c : ACode := (.seq (.region 0 [⟨some 2, .box 129 (.tmp 0), none, []⟩, ⟨some 3, .box 133 (.tmp 1), none, []⟩, ⟨some 4, .asg 0 (.const (.bool false)) 4, none, []⟩] false) (.seq (.region 1 [⟨some 5, .fieldAddr 133 (.tmp 3) 0, none, []⟩, ⟨some 6, .load 64 (.tmp 5), none, [0]⟩, ⟨some 7, .call 0 (.func 123) [(.tmp 6)], none, [1]⟩, ⟨some 8, .bin .eql 2 (.tmp 7) (.const (.int .i64 1)), none, [2]⟩, ⟨some 9, .mov (.tmp 8), none, [3, 2]⟩, ⟨some 10, .fieldAddr 133 (.tmp 3) 0, some (9, true), [4]⟩, ⟨some 11, .load 64 (.tmp 10), some (9, true), [5, 4]⟩, ⟨some 12, .call 0 (.func 89) [(.tmp 11)], some (9, true), [6, 4, 4]⟩, ⟨some 13, .bin .leq 2 (.tmp 12) (.const (.int .i64 12)), some (9, true), [7, 4]⟩, ⟨some 14, .pick (.tmp 9) (.tmp 13) (.const (.bool false)), none, [4, 8]⟩, ⟨some 15, .mov (.tmp 14), none, [9, 7]⟩, ⟨some 16, .fieldAddr 133 (.tmp 3) 1, some (15, true), [10]⟩, ⟨some 17, .load 64 (.tmp 16), some (15, true), [11, 10]⟩, ⟨some 18, .call 0 (.func 89) [(.tmp 17)], some (15, true), [12, 10, 10]⟩, ⟨some 19, .fieldAddr 133 (.tmp 3) 0, some (15, true), [10]⟩, ⟨some 20, .load 64 (.tmp 19), some (15, true), [14, 10]⟩, ⟨some 21, .call 0 (.func 89) [(.tmp 20)], some (15, true), [15, 13, 10]⟩, ⟨some 22, .bin .lss 2 (.tmp 18) (.tmp 21), some (15, true), [13, 16, 10]⟩, ⟨some 23, .pick (.tmp 15) (.tmp 22) (.const (.bool false)), none, [10, 17]⟩, ⟨some 24, .mov (.tmp 23), none, [18, 16]⟩, ⟨some 25, .fieldAddr 129 (.tmp 2) 0, some (24, true), [19]⟩, ⟨some 26, .load 63 (.tmp 25), some (24, true), [20, 19]⟩, ⟨some 27, .fieldAddr 129 (.tmp 2) 0, some (24, true), [19]⟩, ⟨some 28, .load 63 (.tmp 27), some (24, true), [22, 19]⟩, ⟨some 29, .fieldAddr 129 (.tmp 2) 0, some (24, true), [19]⟩, ⟨some 30, .load 63 (.tmp 29), some (24, true), [24, 19]⟩, ⟨some 31, .fieldAddr 133 (.tmp 3) 1, some (24, true), [19]⟩, ⟨some 32, .load 64 (.tmp 31), some (24, true), [26, 19]⟩, ⟨some 33, .fieldAddr 133 (.tmp 3) 1, some (24, true), [19]⟩, ⟨some 34, .load 64 (.tmp 33), some (24, true), [28, 19]⟩, ⟨some 35, .call 0 (.func 59) [(.tmp 30), (.tmp 32), (.tmp 34)], some (24, true), [25, 27, 29, 19, 19]⟩, ⟨some 36, .fieldAddr 129 (.tmp 2) 1, some (24, true), [19]⟩, ⟨some 37, .load 64 (.tmp 36), some (24, true), [31, 19]⟩, ⟨some 38, .call 0 (.func 56) [(.tmp 28), (.tmp 35), (.tmp 37), (.const (.int .i64 (-1)))], some (24, true), [23, 30, 32, 30, 19]⟩, ⟨some 39, .fieldAddr 133 (.tmp 3) 0, some (24, true), [19]⟩, ⟨some 40, .load 64 (.tmp 39), some (24, true), [34, 19]⟩, ⟨some 41, .call 0 (.func 90) [(.tmp 26), (.tmp 38), (.tmp 40)], some (24, true), [21, 33, 35, 33, 19]⟩, ⟨some 42, .blt 0 .len [(.tmp 41)] [64], some (24, true), [36, 19]⟩, ⟨some 43, .bin .eql 3 (.tmp 42) (.const (.int .i64 0)), some (24, true), [37, 19]⟩, ⟨some 44, .pick (.tmp 24) (.tmp 43) (.const (.bool false)), none, [19, 38]⟩, ⟨some 45, .mov (.tmp 44), none, [39, 36]⟩, ⟨some 46, .fieldAddr 133 (.tmp 3) 0, some (45, false), [40]⟩, ⟨some 47, .load 64 (.tmp 46), some (45, false), [41, 40]⟩, ⟨some 48, .call 0 (.func 162) [(.tmp 47)], some (45, false), [42, 40, 40]⟩, ⟨some 49, .mov (.tmp 48), some (45, false), [43, 43, 40]⟩, ⟨some 50, .fieldAddr 133 (.tmp 3) 1, some (49, true), [44]⟩, ⟨some 51, .load 64 (.tmp 50), some (49, true), [45, 44]⟩, ⟨some 52, .blt 0 .len [(.tmp 51)] [64], some (49, true), [46, 44]⟩, ⟨some 53, .bin .eql 3 (.tmp 52) (.const (.int .i64 0)), some (49, true), [47, 44]⟩, ⟨some 54, .pick (.tmp 49) (.tmp 53) (.const (.bool false)), some (45, false), [44, 48, 40]⟩, ⟨some 55, .pick (.tmp 45) (.const (.bool true)) (.tmp 54), none, [40, 49]⟩, ⟨some 4, .asg 0 (.tmp 55) 4, none, [50, 44, 0, 1, 2, 3, 4, 5, 6, 7, 8, 9, 10, 11, 12, 13, 14, 15, 16, 17, 18, 19, 20, 21, 22, 23, 24, 25, 26, 27, 28, 29, 30, 31, 32, 33, 34, 35, 36, 37, 38, 39, 40, 41, 42, 43, 44, 45, 46, 47, 48, 49, 50]⟩] true) .ret))
def impl_curve_isForm_L : Live := [(0, [0, 1]), (1, [2, 3])]
theorem impl_curve_isForm_body : Try.f154.body = some (Try.f154.body.getD .skip) := by kernel_rfl
theorem impl_curve_isForm_strip : strip [] (Try.f154.body.getD .skip) = impl_curve_isForm_c := by kernel_rfl
noncomputable def impl_curve_isForm (a0 : (Int × (List Int))) (a1 : ((List Int) × (List Int))) : Option Bool :=
  (Option.bind (impl_row_lead a1.1) fun r51 => (if (r51 == 1) then (Option.bind (impl_row_degree a1.1) fun r60 => (if (decide (r60 ≤ 12)) then (Option.bind (impl_row_degree a1.2) fun r69 => (Option.bind (impl_row_degree a1.1) fun r72 => (if (decide (r69 < r72)) then (Option.bind (impl_prime_times a0.1 a1.2 a1.2) fun r85 => (Option.bind (impl_prime_combine a0.1 r85 a0.2 (-1)) fun r88 => (Option.bind (impl_prime_rest a0.1 r88 a1.1) fun r91 => (if ((r91.length : Int) == 0) then (some true) else (Option.bind (impl_isOne a1.1) fun r95 => (if r95 then (some (((a1.2.length : Int) == 0))) else (some false))))))) else (Option.bind (impl_isOne a1.1) fun r76 => (if r76 then (some (((a1.2.length : Int) == 0))) else (some false)))))) else (Option.bind (impl_isOne a1.1) fun r64 => (if r64 then (some (((a1.2.length : Int) == 0))) else (some false))))) else (Option.bind (impl_isOne a1.1) fun r55 => (if r55 then (some (((a1.2.length : Int) == 0))) else (some false)))))
set_option maxHeartbeats 16000000 in
theorem impl_curve_isForm_ok (a0 : (Int × (List Int))) (a1 : ((List Int) × (List Int))) (r : Bool) (h : impl_curve_isForm a0 a1 = some r) : Den Try.prog 154 [(eT_i64_Si64_Z a0), (eT_Si64_Si64_Z a1)] { r := (.bool r) } := by
  refine den_of (rs := [(.bool r)]) (ac := impl_curve_isForm_c) (L := impl_curve_isForm_L) (n := 56) (m := []) good Try.func154 impl_curve_isForm_body (by kernel_rfl) Try.ntmps154 rfl rfl impl_curve_isForm_strip rfl rfl ?_
  refine a_st (σ' := ⟨[(0, (eT_i64_Si64_Z a0)), (1, (eT_Si64_Si64_Z a1))], []⟩) (by kernel_rfl) ?_
  unfold impl_curve_isForm_c
  refine a_seq ?_
  refine a_region ?_
  refine a_val (v := (.own 1200 [] [])) (u := [(1200, some ⟨(eT_i64_Si64_Z a0), false⟩)]) rfl trivial rfl ?_
  refine a_val (v := (.own 1300 [] [])) (u := [(1300, some ⟨(eT_Si64_Si64_Z a1), false⟩)]) rfl trivial rfl ?_
  refine a_val (v := (.bool false)) (u := []) rfl trivial rfl ?_
  refine a_nil ?_
  refine a_next (σ' := ⟨[(2, (.own 2 [] [])), (3, (.own 3 [] []))], [(2, some ⟨(eT_i64_Si64_Z a0), false⟩), (3, some ⟨(eT_Si64_Si64_Z a1), false⟩)]⟩) (by kernel_rfl) ?_
  refine a_seq ?_
  refine a_draw [⟨[3], [], [3], []⟩, ⟨[3], [], [], [0]⟩, ⟨[], [], [], [0, 1]⟩, ⟨[], [], [], [0, 1, 2]⟩, ⟨[], [], [], [0, 1, 2, 3]⟩, ⟨[3], [], [3], [0, 1, 2, 3, 4]⟩, ⟨[3], [], [], [0, 1, 2, 3, 4, 5]⟩, ⟨[], [], [], [0, 1, 2, 3, 4, 5, 6]⟩, ⟨[], [], [], [0, 1, 2, 3, 4, 5, 6, 7]⟩, ⟨[], [], [], [0, 1, 2, 3, 4, 5, 6, 7, 8]⟩, ⟨[], [], [], [0, 1, 2, 3, 4, 5, 6, 7, 8, 9]⟩, ⟨[3], [], [3], [0, 1, 2, 3, 4, 5, 6, 7, 8, 9, 10]⟩, ⟨[3], [], [], [0, 1, 2, 3, 4, 5, 6, 7, 8, 9, 10, 11]⟩, ⟨[], [], [], [0, 1, 2, 3, 4, 5, 6, 7, 8, 9, 10, 11, 12]⟩, ⟨[3], [], [3], [0, 1, 2, 3, 4, 5, 6, 7, 8, 9, 10]⟩, ⟨[3], [], [], [0, 1, 2, 3, 4, 5, 6, 7, 8, 9, 10, 14]⟩, ⟨[], [], [], [0, 1, 2, 3, 4, 5, 6, 7, 8, 9, 10, 11, 12, 13, 14, 15]⟩, ⟨[], [], [], [0, 1, 2, 3, 4, 5, 6, 7, 8, 9, 10, 11, 12, 13, 14, 15, 16]⟩, ⟨[], [], [], [0, 1, 2, 3, 4, 5, 6, 7, 8, 9, 10, 11, 12, 13, 14, 15, 16, 17]⟩, ⟨[], [], [], [0, 1, 2, 3, 4, 5, 6, 7, 8, 9, 10, 11, 12, 13, 14, 15, 16, 17, 18]⟩, ⟨[2], [], [2], [0, 1, 2, 3, 4, 5, 6, 7, 8, 9, 10, 11, 12, 13, 14, 15, 16, 17, 18, 19]⟩, ⟨[2], [], [], [0, 1, 2, 3, 4, 5, 6, 7, 8, 9, 10, 11, 12, 13, 14, 15, 16, 17, 18, 19, 20]⟩, ⟨[2], [], [2], [0, 1, 2, 3, 4, 5, 6, 7, 8, 9, 10, 11, 12, 13, 14, 15, 16, 17, 18, 19]⟩, ⟨[2], [], [], [0, 1, 2, 3, 4, 5, 6, 7, 8, 9, 10, 11, 12, 13, 14, 15, 16, 17, 18, 19, 22]⟩, ⟨[2], [], [2], [0, 1, 2, 3, 4, 5, 6, 7, 8, 9, 10, 11, 12, 13, 14, 15, 16, 17, 18, 19]⟩, ⟨[2], [], [], [0, 1, 2, 3, 4, 5, 6, 7, 8, 9, 10, 11, 12, 13, 14, 15, 16, 17, 18, 19, 24]⟩, ⟨[3], [], [3], [0, 1, 2, 3, 4, 5, 6, 7, 8, 9, 10, 11, 12, 13, 14, 15, 16, 17, 18, 19]⟩, ⟨[3], [], [], [0, 1, 2, 3, 4, 5, 6, 7, 8, 9, 10, 11, 12, 13, 14, 15, 16, 17, 18, 19, 26]⟩, ⟨[3], [], [3], [0, 1, 2, 3, 4, 5, 6, 7, 8, 9, 10, 11, 12, 13, 14, 15, 16, 17, 18, 19]⟩, ⟨[3], [], [], [0, 1, 2, 3, 4, 5, 6, 7, 8, 9, 10, 11, 12, 13, 14, 15, 16, 17, 18, 19, 28]⟩, ⟨[], [], [], [0, 1, 2, 3, 4, 5, 6, 7, 8, 9, 10, 11, 12, 13, 14, 15, 16, 17, 18, 19, 24, 25, 26, 27, 28, 29]⟩, ⟨[2], [], [2], [0, 1, 2, 3, 4, 5, 6, 7, 8, 9, 10, 11, 12, 13, 14, 15, 16, 17, 18, 19]⟩, ⟨[2], [], [], [0, 1, 2, 3, 4, 5, 6, 7, 8, 9, 10, 11, 12, 13, 14, 15, 16, 17, 18, 19, 31]⟩, ⟨[], [], [], [0, 1, 2, 3, 4, 5, 6, 7, 8, 9, 10, 11, 12, 13, 14, 15, 16, 17, 18, 19, 22, 23, 24, 25, 26, 27, 28, 29, 30, 31, 32]⟩, ⟨[3], [], [3], [0, 1, 2, 3, 4, 5, 6, 7, 8, 9, 10, 11, 12, 13, 14, 15, 16, 17, 18, 19]⟩, ⟨[3], [], [], [0, 1, 2, 3, 4, 5, 6, 7, 8, 9, 10, 11, 12, 13, 14, 15, 16, 17, 18, 19, 34]⟩, ⟨[], [], [], [0, 1, 2, 3, 4, 5, 6, 7, 8, 9, 10, 11, 12, 13, 14, 15, 16, 17, 18, 19, 20, 21, 22, 23, 24, 25, 26, 27, 28, 29, 30, 31, 32, 33, 34, 35]⟩, ⟨[], [], [], [0, 1, 2, 3, 4, 5, 6, 7, 8, 9, 10, 11, 12, 13, 14, 15, 16, 17, 18, 19, 20, 21, 22, 23, 24, 25, 26, 27, 28, 29, 30, 31, 32, 33, 34, 35, 36]⟩, ⟨[], [], [], [0, 1, 2, 3, 4, 5, 6, 7, 8, 9, 10, 11, 12, 13, 14, 15, 16, 17, 18, 19, 20, 21, 22, 23, 24, 25, 26, 27, 28, 29, 30, 31, 32, 33, 34, 35, 36, 37]⟩, ⟨[], [], [], [0, 1, 2, 3, 4, 5, 6, 7, 8, 9, 10, 11, 12, 13, 14, 15, 16, 17, 18, 19, 20, 21, 22, 23, 24, 25, 26, 27, 28, 29, 30, 31, 32, 33, 34, 35, 36, 37, 38]⟩, ⟨[], [], [], [0, 1, 2, 3, 4, 5, 6, 7, 8, 9, 10, 11, 12, 13, 14, 15, 16, 17, 18, 19, 20, 21, 22, 23, 24, 25, 26, 27, 28, 29, 30, 31, 32, 33, 34, 35, 36, 37, 38, 39]⟩, ⟨[3], [], [3], [0, 1, 2, 3, 4, 5, 6, 7, 8, 9, 10, 11, 12, 13, 14, 15, 16, 17, 18, 19, 20, 21, 22, 23, 24, 25, 26, 27, 28, 29, 30, 31, 32, 33, 34, 35, 36, 37, 38, 39, 40]⟩, ⟨[3], [], [], [0, 1, 2, 3, 4, 5, 6, 7, 8, 9, 10, 11, 12, 13, 14, 15, 16, 17, 18, 19, 20, 21, 22, 23, 24, 25, 26, 27, 28, 29, 30, 31, 32, 33, 34, 35, 36, 37, 38, 39, 40, 41]⟩, ⟨[], [], [], [0, 1, 2, 3, 4, 5, 6, 7, 8, 9, 10, 11, 12, 13, 14, 15, 16, 17, 18, 19, 20, 21, 22, 23, 24, 25, 26, 27, 28, 29, 30, 31, 32, 33, 34, 35, 36, 37, 38, 39, 40, 41, 42]⟩, ⟨[], [], [], [0, 1, 2, 3, 4, 5, 6, 7, 8, 9, 10, 11, 12, 13, 14, 15, 16, 17, 18, 19, 20, 21, 22, 23, 24, 25, 26, 27, 28, 29, 30, 31, 32, 33, 34, 35, 36, 37, 38, 39, 40, 41, 42, 43]⟩, ⟨[3], [], [3], [0, 1, 2, 3, 4, 5, 6, 7, 8, 9, 10, 11, 12, 13, 14, 15, 16, 17, 18, 19, 20, 21, 22, 23, 24, 25, 26, 27, 28, 29, 30, 31, 32, 33, 34, 35, 36, 37, 38, 39, 40, 41, 42, 43, 44]⟩, ⟨[3], [], [], [0, 1, 2, 3, 4, 5, 6, 7, 8, 9, 10, 11, 12, 13, 14, 15, 16, 17, 18, 19, 20, 21, 22, 23, 24, 25, 26, 27, 28, 29, 30, 31, 32, 33, 34, 35, 36, 37, 38, 39, 40, 41, 42, 43, 44, 45]⟩, ⟨[], [], [], [0, 1, 2, 3, 4, 5, 6, 7, 8, 9, 10, 11, 12, 13, 14, 15, 16, 17, 18, 19, 20, 21, 22, 23, 24, 25, 26, 27, 28, 29, 30, 31, 32, 33, 34, 35, 36, 37, 38, 39, 40, 41, 42, 43, 44, 45, 46]⟩, ⟨[], [], [], [0, 1, 2, 3, 4, 5, 6, 7, 8, 9, 10, 11, 12, 13, 14, 15, 16, 17, 18, 19, 20, 21, 22, 23, 24, 25, 26, 27, 28, 29, 30, 31, 32, 33, 34, 35, 36, 37, 38, 39, 40, 41, 42, 43, 44, 45, 46, 47]⟩, ⟨[], [], [], [0, 1, 2, 3, 4, 5, 6, 7, 8, 9, 10, 11, 12, 13, 14, 15, 16, 17, 18, 19, 20, 21, 22, 23, 24, 25, 26, 27, 28, 29, 30, 31, 32, 33, 34, 35, 36, 37, 38, 39, 40, 41, 42, 43, 44, 45, 46, 47, 48]⟩, ⟨[], [], [], [0, 1, 2, 3, 4, 5, 6, 7, 8, 9, 10, 11, 12, 13, 14, 15, 16, 17, 18, 19, 20, 21, 22, 23, 24, 25, 26, 27, 28, 29, 30, 31, 32, 33, 34, 35, 36, 37, 38, 39, 40, 41, 42, 43, 44, 45, 46, 47, 48, 49]⟩, ⟨[], [], [], [0, 1, 2, 3, 4, 5, 6, 7, 8, 9, 10, 11, 12, 13, 14, 15, 16, 17, 18, 19, 20, 21, 22, 23, 24, 25, 26, 27, 28, 29, 30, 31, 32, 33, 34, 35, 36, 37, 38, 39, 40, 41, 42, 43, 44, 45, 46, 47, 48, 49, 50]⟩] (by kernel_rfl) ?_
  refine d_cons ?_
  refine a_val (v := (.own 3 [0] [0])) (u := []) rfl (Nat.le_of_ble_eq_true rfl) rfl ?_
  refine d_next (by kernel_rfl) ?_
  refine d_cons ?_
  have hl50 : LdOk [0] (eT_Si64_Si64_Z a1) [0] 1 false (eSi64 a1.1) := (.fld rfl rfl rfl rfl (.nil rfl rfl rfl))
  refine a_val (v := (eSi64 a1.1)) (u := []) (ld_own (i := ⟨.slice 2, 1, 24, (eSi64 [])⟩) rfl rfl rfl hl50) hl50.c rfl ?_
  refine d_next (by kernel_rfl) ?_
  refine d_cons ?_
  obtain ⟨r51, hr52, h⟩ := bind_some h
  refine a_call (args := [(eSi64 a1.1)]) (u := []) (r := (.int .i64 r51)) rfl rfl (impl_row_lead_ok a1.1 r51 hr52) rfl ?_
  refine d_next (by kernel_rfl) ?_
  refine d_cons ?_
  refine a_val (v := (.bool (r51 == 1))) (u := []) rfl trivial rfl ?_
  refine d_next (by kernel_rfl) ?_
  refine d_cons ?_
  refine a_val (v := (.bool (r51 == 1))) (u := []) rfl trivial rfl ?_
  refine d_next (by kernel_rfl) ?_
  cases hb53 : (r51 == 1)
  · have h := ite_f hb53 h
    refine d_cons ?_
    refine a_gskip rfl ?_
    refine d_next (by kernel_rfl) ?_
    refine d_cons ?_
    refine a_gskip rfl ?_
    refine d_next (by kernel_rfl) ?_
    refine d_cons ?_
    refine a_gskip rfl ?_
    refine d_next (by kernel_rfl) ?_
    refine d_cons ?_
    refine a_gskip rfl ?_
    refine d_next (by kernel_rfl) ?_
    refine d_cons ?_
    refine a_val (v := (.bool false)) (u := []) rfl trivial rfl ?_
    refine d_next (by kernel_rfl) ?_
    refine d_cons ?_
    refine a_val (v := (.bool false)) (u := []) rfl trivial rfl ?_
    refine d_next (by kernel_rfl) ?_
    refine d_cons ?_
    refine a_gskip rfl ?_
    refine d_next (by kernel_rfl) ?_
    refine d_cons ?_
    refine a_gskip rfl ?_
    refine d_next (by kernel_rfl) ?_
    refine d_cons ?_
    refine a_gskip rfl ?_
    refine d_next (by kernel_rfl) ?_
    refine d_cons ?_
    refine a_gskip rfl ?_
    refine d_next (by kernel_rfl) ?_
    refine d_cons ?_
    refine a_gskip rfl ?_
    refine d_next (by kernel_rfl) ?_
    refine d_cons ?_
    refine a_gskip rfl ?_
    refine d_next (by kernel_rfl) ?_
    refine d_cons ?_
    refine a_gskip rfl ?_
    refine d_next (by kernel_rfl) ?_
    refine d_cons ?_
    refine a_val (v := (.bool false)) (u := []) rfl trivial rfl ?_
    refine d_next (by kernel_rfl) ?_
    refine d_cons ?_
    refine a_val (v := (.bool false)) (u := []) rfl trivial rfl ?_
    refine d_next (by kernel_rfl) ?_
    refine d_cons ?_
    refine a_gskip rfl ?_
    refine d_next (by kernel_rfl) ?_
    refine d_cons ?_
    refine a_gskip rfl ?_
    refine d_next (by kernel_rfl) ?_
    refine d_cons ?_
    refine a_gskip rfl ?_
    refine d_next (by kernel_rfl) ?_
    refine d_cons ?_
    refine a_gskip rfl ?_
    refine d_next (by kernel_rfl) ?_
    refine d_cons ?_
    refine a_gskip rfl ?_
    refine d_next (by kernel_rfl) ?_
    refine d_cons ?_
    refine a_gskip rfl ?_
    refine d_next (by kernel_rfl) ?_
    refine d_cons ?_
    refine a_gskip rfl ?_
    refine d_next (by kernel_rfl) ?_
    refine d_cons ?_
    refine a_gskip rfl ?_
    refine d_next (by kernel_rfl) ?_
    refine d_cons ?_
    refine a_gskip rfl ?_
    refine d_next (by kernel_rfl) ?_
    refine d_cons ?_
    refine a_gskip rfl ?_
    refine d_next (by kernel_rfl) ?_
    refine d_cons ?_
    refine a_gskip rfl ?_
    refine d_next (by kernel_rfl) ?_
    refine d_cons ?_
    refine a_gskip rfl ?_
    refine d_next (by kernel_rfl) ?_
    refine d_cons ?_
    refine a_gskip rfl ?_
    refine d_next (by kernel_rfl) ?_
    refine d_cons ?_
    refine a_gskip rfl ?_
    refine d_next (by kernel_rfl) ?_
    refine d_cons ?_
    refine a_gskip rfl ?_
    refine d_next (by kernel_rfl) ?_
    refine d_cons ?_
    refine a_gskip rfl ?_
    refine d_next (by kernel_rfl) ?_
    refine d_cons ?_
    refine a_gskip rfl ?_
    refine d_next (by kernel_rfl) ?_
    refine d_cons ?_
    refine a_gskip rfl ?_
    refine d_next (by kernel_rfl) ?_
    refine d_cons ?_
    refine a_gskip rfl ?_
    refine d_next (by kernel_rfl) ?_
    refine d_cons ?_
    refine a_val (v := (.bool false)) (u := []) rfl trivial rfl ?_
    refine d_next (by kernel_rfl) ?_
    refine d_cons ?_
    refine a_val (v := (.bool false)) (u := []) rfl trivial rfl ?_
    refine d_next (by kernel_rfl) ?_
    refine d_cons ?_
    refine a_gval rfl (v := (.own 3 [0] [0])) (u := []) rfl (Nat.le_of_ble_eq_true rfl) rfl ?_
    refine d_next (by kernel_rfl) ?_
    refine d_cons ?_
    have hl54 : LdOk [0] (eT_Si64_Si64_Z a1) [0] 1 false (eSi64 a1.1) := (.fld rfl rfl rfl rfl (.nil rfl rfl rfl))
    refine a_gval rfl (v := (eSi64 a1.1)) (u := []) (ld_own (i := ⟨.slice 2, 1, 24, (eSi64 [])⟩) rfl rfl rfl hl54) hl54.c rfl ?_
    refine d_next (by kernel_rfl) ?_
    refine d_cons ?_
    obtain ⟨r55, hr56, h⟩ := bind_some h
    refine a_gcall rfl (args := [(eSi64 a1.1)]) (u := []) (r := (.bool r55)) rfl rfl (impl_isOne_ok a1.1 r55 hr56) rfl ?_
    refine d_next (by kernel_rfl) ?_
    refine d_cons ?_
    refine a_gval rfl (v := (.bool r55)) (u := []) rfl trivial rfl ?_
    refine d_next (by kernel_rfl) ?_
    cases hb57 : r55
    · have h := ite_f hb57 h
      refine d_cons ?_
      refine a_gskip rfl ?_
      refine d_next (by kernel_rfl) ?_
      refine d_cons ?_
      refine a_gskip rfl ?_
      refine d_next (by kernel_rfl) ?_
      refine d_cons ?_
      refine a_gskip rfl ?_
      refine d_next (by kernel_rfl) ?_
      refine d_cons ?_
      refine a_gskip rfl ?_
      refine d_next (by kernel_rfl) ?_
      refine d_cons ?_
      refine a_gval rfl (v := (.bool false)) (u := []) rfl trivial rfl ?_
      refine d_next (by kernel_rfl) ?_
      refine d_cons ?_
      refine a_val (v := (.bool false)) (u := []) rfl trivial rfl ?_
      refine d_next (by kernel_rfl) ?_
      refine d_cons ?_
      refine a_val (v := (.bool false)) (u := []) rfl trivial rfl ?_
      refine d_next (by kernel_rfl) ?_
      refine d_nil ?_
      refine a_next rfl ?_
      refine a_ret ?_
      refine ⟨.inr rfl, ?_⟩
      rw [Try.results154]
      cases h
      exact ⟨_, _, _, _, _, rfl, trivial, .inl ⟨rfl, .inl rfl⟩, rfl, rfl⟩
    · have h := ite_t hb57 h
      refine d_cons ?_
      refine a_gval rfl (v := (.own 3 [1] [1])) (u := []) rfl (Nat.le_of_ble_eq_true rfl) rfl ?_
      refine d_next (by kernel_rfl) ?_
      refine d_cons ?_
      have hl58 : LdOk [1] (eT_Si64_Si64_Z a1) [1] 1 false (eSi64 a1.2) := (.fld rfl rfl rfl rfl (.nil rfl rfl rfl))
      refine a_gval rfl (v := (eSi64 a1.2)) (u := []) (ld_own (i := ⟨.slice 2, 1, 24, (eSi64 [])⟩) rfl rfl rfl hl58) hl58.c rfl ?_
      refine d_next (by kernel_rfl) ?_
      refine d_cons ?_
      refine a_gval rfl (v := (.int .i64 (a1.2.length : Int))) (u := []) (len_run rfl rfl) trivial rfl ?_
      refine d_next (by kernel_rfl) ?_
      refine d_cons ?_
      refine a_gval rfl (v := (.bool (((a1.2.length : Int) == 0)))) (u := []) rfl trivial rfl ?_
      refine d_next (by kernel_rfl) ?_
      refine d_cons ?_
      refine a_gval rfl (v := (.bool (((a1.2.length : Int) == 0)))) (u := []) rfl trivial rfl ?_
      refine d_next (by kernel_rfl) ?_
      refine d_cons ?_
      refine a_val (v := (.bool (((a1.2.length : Int) == 0)))) (u := []) rfl trivial rfl ?_
      refine d_next (by kernel_rfl) ?_
      refine d_cons ?_
      refine a_val (v := (.bool (((a1.2.length : Int) == 0)))) (u := []) rfl trivial rfl ?_
      refine d_next (by kernel_rfl) ?_
      refine d_nil ?_
      refine a_next rfl ?_
      refine a_ret ?_
      refine ⟨.inr rfl, ?_⟩
      rw [Try.results154]
      cases h
      exact ⟨_, _, _, _, _, rfl, trivial, .inl ⟨rfl, .inl rfl⟩, rfl, rfl⟩
  · have h := ite_t hb53 h
    refine d_cons ?_
    refine a_gval rfl (v := (.own 3 [0] [0])) (u := []) rfl (Nat.le_of_ble_eq_true rfl) rfl ?_
    refine d_next (by kernel_rfl) ?_
    refine d_cons ?_
    have hl59 : LdOk [0] (eT_Si64_Si64_Z a1) [0] 1 false (eSi64 a1.1) := (.fld rfl rfl rfl rfl (.nil rfl rfl rfl))
    refine a_gval rfl (v := (eSi64 a1.1)) (u := []) (ld_own (i := ⟨.slice 2, 1, 24, (eSi64 [])⟩) rfl rfl rfl hl59) hl59.c rfl ?_
    refine d_next (by kernel_rfl) ?_
    refine d_cons ?_
    obtain ⟨r60, hr61, h⟩ := bind_some h
    refine a_gcall rfl (args := [(eSi64 a1.1)]) (u := []) (r := (.int .i64 r60)) rfl rfl (impl_row_degree_ok a1.1 r60 hr61) rfl ?_
    refine d_next (by kernel_rfl) ?_
    refine d_cons ?_
    refine a_gval rfl (v := (.bool ((decide (r60 ≤ 12))))) (u := []) rfl trivial rfl ?_
    refine d_next (by kernel_rfl) ?_
    refine d_cons ?_
    refine a_val (v := (.bool ((decide (r60 ≤ 12))))) (u := []) rfl trivial rfl ?_
    refine d_next (by kernel_rfl) ?_
    refine d_cons ?_
    refine a_val (v := (.bool ((decide (r60 ≤ 12))))) (u := []) rfl trivial rfl ?_
    refine d_next (by kernel_rfl) ?_
    cases hb62 : (decide (r60 ≤ 12))
    · have h := ite_f hb62 h
      refine d_cons ?_
      refine a_gskip rfl ?_
      refine d_next (by kernel_rfl) ?_
      refine d_cons ?_
      refine a_gskip rfl ?_
      refine d_next (by kernel_rfl) ?_
      refine d_cons ?_
      refine a_gskip rfl ?_
      refine d_next (by kernel_rfl) ?_
      refine d_cons ?_
      refine a_gskip rfl ?_
      refine d_next (by kernel_rfl) ?_
      refine d_cons ?_
      refine a_gskip rfl ?_
      refine d_next (by kernel_rfl) ?_
      refine d_cons ?_
      refine a_gskip rfl ?_
      refine d_next (by kernel_rfl) ?_
      refine d_cons ?_
      refine a_gskip rfl ?_
      refine d_next (by kernel_rfl) ?_
      refine d_cons ?_
      refine a_val (v := (.bool false)) (u := []) rfl trivial rfl ?_
      refine d_next (by kernel_rfl) ?_
      refine d_cons ?_
      refine a_val (v := (.bool false)) (u := []) rfl trivial rfl ?_
      refine d_next (by kernel_rfl) ?_
      refine d_cons ?_
      refine a_gskip rfl ?_
      refine d_next (by kernel_rfl) ?_
      refine d_cons ?_
      refine a_gskip rfl ?_
      refine d_next (by kernel_rfl) ?_
      refine d_cons ?_
      refine a_gskip rfl ?_
      refine d_next (by kernel_rfl) ?_
      refine d_cons ?_
      refine a_gskip rfl ?_
      refine d_next (by kernel_rfl) ?_
      refine d_cons ?_
      refine a_gskip rfl ?_
      refine d_next (by kernel_rfl) ?_
      refine d_cons ?_
      refine a_gskip rfl ?_
      refine d_next (by kernel_rfl) ?_
      refine d_cons ?_
      refine a_gskip rfl ?_
      refine d_next (by kernel_rfl) ?_
      refine d_cons ?_
      refine a_gskip rfl ?_
      refine d_next (by kernel_rfl) ?_
      refine d_cons ?_
      refine a_gskip rfl ?_
      refine d_next (by kernel_rfl) ?_
      refine d_cons ?_
      refine a_gskip rfl ?_
      refine d_next (by kernel_rfl) ?_
      refine d_cons ?_
      refine a_gskip rfl ?_
      refine d_next (by kernel_rfl) ?_
      refine d_cons ?_
      refine a_gskip rfl ?_
      refine d_next (by kernel_rfl) ?_
      refine d_cons ?_
      refine a_gskip rfl ?_
      refine d_next (by kernel_rfl) ?_
      refine d_cons ?_
      refine a_gskip rfl ?_
      refine d_next (by kernel_rfl) ?_
      refine d_cons ?_
      refine a_gskip rfl ?_
      refine d_next (by kernel_rfl) ?_
      refine d_cons ?_
      refine a_gskip rfl ?_
      refine d_next (by kernel_rfl) ?_
      refine d_cons ?_
      refine a_gskip rfl ?_
      refine d_next (by kernel_rfl) ?_
      refine d_cons ?_
      refine a_gskip rfl ?_
      refine d_next (by kernel_rfl) ?_
      refine d_cons ?_
      refine a_gskip rfl ?_
      refine d_next (by kernel_rfl) ?_
      refine d_cons ?_
      refine a_val (v := (.bool false)) (u := []) rfl trivial rfl ?_
      refine d_next (by kernel_rfl) ?_
      refine d_cons ?_
      refine a_val (v := (.bool false)) (u := []) rfl trivial rfl ?_
      refine d_next (by kernel_rfl) ?_
      refine d_cons ?_
      refine a_gval rfl (v := (.own 3 [0] [0])) (u := []) rfl (Nat.le_of_ble_eq_true rfl) rfl ?_
      refine d_next (by kernel_rfl) ?_
      refine d_cons ?_
      have hl63 : LdOk [0] (eT_Si64_Si64_Z a1) [0] 1 false (eSi64 a1.1) := (.fld rfl rfl rfl rfl (.nil rfl rfl rfl))
      refine a_gval rfl (v := (eSi64 a1.1)) (u := []) (ld_own (i := ⟨.slice 2, 1, 24, (eSi64 [])⟩) rfl rfl rfl hl63) hl63.c rfl ?_
      refine d_next (by kernel_rfl) ?_
      refine d_cons ?_
      obtain ⟨r64, hr65, h⟩ := bind_some h
      refine a_gcall rfl (args := [(eSi64 a1.1)]) (u := []) (r := (.bool r64)) rfl rfl (impl_isOne_ok a1.1 r64 hr65) rfl ?_
      refine d_next (by kernel_rfl) ?_
      refine d_cons ?_
      refine a_gval rfl (v := (.bool r64)) (u := []) rfl trivial rfl ?_
      refine d_next (by kernel_rfl) ?_
      cases hb66 : r64
      · have h := ite_f hb66 h
        refine d_cons ?_
        refine a_gskip rfl ?_
        refine d_next (by kernel_rfl) ?_
        refine d_cons ?_
        refine a_gskip rfl ?_
        refine d_next (by kernel_rfl) ?_
        refine d_cons ?_
        refine a_gskip rfl ?_
        refine d_next (by kernel_rfl) ?_
        refine d_cons ?_
        refine a_gskip rfl ?_
        refine d_next (by kernel_rfl) ?_
        refine d_cons ?_
        refine a_gval rfl (v := (.bool false)) (u := []) rfl trivial rfl ?_
        refine d_next (by kernel_rfl) ?_
        refine d_cons ?_
        refine a_val (v := (.bool false)) (u := []) rfl trivial rfl ?_
        refine d_next (by kernel_rfl) ?_
        refine d_cons ?_
        refine a_val (v := (.bool false)) (u := []) rfl trivial rfl ?_
        refine d_next (by kernel_rfl) ?_
        refine d_nil ?_
        refine a_next rfl ?_
        refine a_ret ?_
        refine ⟨.inr rfl, ?_⟩
        rw [Try.results154]
        cases h
        exact ⟨_, _, _, _, _, rfl, trivial, .inl ⟨rfl, .inl rfl⟩, rfl, rfl⟩
      · have h := ite_t hb66 h
        refine d_cons ?_
        refine a_gval rfl (v := (.own 3 [1] [1])) (u := []) rfl (Nat.le_of_ble_eq_true rfl) rfl ?_
        refine d_next (by kernel_rfl) ?_
        refine d_cons ?_
        have hl67 : LdOk [1] (eT_Si64_Si64_Z a1) [1] 1 false (eSi64 a1.2) := (.fld rfl rfl rfl rfl (.nil rfl rfl rfl))
        refine a_gval rfl (v := (eSi64 a1.2)) (u := []) (ld_own (i := ⟨.slice 2, 1, 24, (eSi64 [])⟩) rfl rfl rfl hl67) hl67.c rfl ?_
        refine d_next (by kernel_rfl) ?_
        refine d_cons ?_
        refine a_gval rfl (v := (.int .i64 (a1.2.length : Int))) (u := []) (len_run rfl rfl) trivial rfl ?_
        refine d_next (by kernel_rfl) ?_
        refine d_cons ?_
        refine a_gval rfl (v := (.bool (((a1.2.length : Int) == 0)))) (u := []) rfl trivial rfl ?_
        refine d_next (by kernel_rfl) ?_
        refine d_cons ?_
        refine a_gval rfl (v := (.bool (((a1.2.length : Int) == 0)))) (u := []) rfl trivial rfl ?_
        refine d_next (by kernel_rfl) ?_
        refine d_cons ?_
        refine a_val (v := (.bool (((a1.2.length : Int) == 0)))) (u := []) rfl trivial rfl ?_
        refine d_next (by kernel_rfl) ?_
        refine d_cons ?_
        refine a_val (v := (.bool (((a1.2.length : Int) == 0)))) (u := []) rfl trivial rfl ?_
        refine d_next (by kernel_rfl) ?_
        refine d_nil ?_
        refine a_next rfl ?_
        refine a_ret ?_
        refine ⟨.inr rfl, ?_⟩
        rw [Try.results154]
        cases h
        exact ⟨_, _, _, _, _, rfl, trivial, .inl ⟨rfl, .inl rfl⟩, rfl, rfl⟩
    · have h := ite_t hb62 h
      refine d_cons ?_
      refine a_gval rfl (v := (.own 3 [1] [1])) (u := []) rfl (Nat.le_of_ble_eq_true rfl) rfl ?_
      refine d_next (by kernel_rfl) ?_
      refine d_cons ?_
      have hl68 : LdOk [1] (eT_Si64_Si64_Z a1) [1] 1 false (eSi64 a1.2) := (.fld rfl rfl rfl rfl (.nil rfl rfl rfl))
      refine a_gval rfl (v := (eSi64 a1.2)) (u := []) (ld_own (i := ⟨.slice 2, 1, 24, (eSi64 [])⟩) rfl rfl rfl hl68) hl68.c rfl ?_
      refine d_next (by kernel_rfl) ?_
      refine d_cons ?_
      obtain ⟨r69, hr70, h⟩ := bind_some h
      refine a_gcall rfl (args := [(eSi64 a1.2)]) (u := []) (r := (.int .i64 r69)) rfl rfl (impl_row_degree_ok a1.2 r69 hr70) rfl ?_
      refine d_next (by kernel_rfl) ?_
      refine d_cons ?_
      refine a_gval rfl (v := (.own 3 [0] [0])) (u := []) rfl (Nat.le_of_ble_eq_true rfl) rfl ?_
      refine d_next (by kernel_rfl) ?_
      refine d_cons ?_
      have hl71 : LdOk [0] (eT_Si64_Si64_Z a1) [0] 1 false (eSi64 a1.1) := (.fld rfl rfl rfl rfl (.nil rfl rfl rfl))
      refine a_gval rfl (v := (eSi64 a1.1)) (u := []) (ld_own (i := ⟨.slice 2, 1, 24, (eSi64 [])⟩) rfl rfl rfl hl71) hl71.c rfl ?_
      refine d_next (by kernel_rfl) ?_
      refine d_cons ?_
      obtain ⟨r72, hr73, h⟩ := bind_some h
      refine a_gcall rfl (args := [(eSi64 a1.1)]) (u := []) (r := (.int .i64 r72)) rfl rfl (impl_row_degree_ok a1.1 r72 hr73) rfl ?_
      refine d_next (by kernel_rfl) ?_
      refine d_cons ?_
      refine a_gval rfl (v := (.bool ((decide (r69 < r72))))) (u := []) rfl trivial rfl ?_
      refine d_next (by kernel_rfl) ?_
      refine d_cons ?_
      refine a_val (v := (.bool ((decide (r69 < r72))))) (u := []) rfl trivial rfl ?_
      refine d_next (by kernel_rfl) ?_
      refine d_cons ?_
      refine a_val (v := (.bool ((decide (r69 < r72))))) (u := []) rfl trivial rfl ?_
      refine d_next (by kernel_rfl) ?_
      cases hb74 : (decide (r69 < r72))
      · have h := ite_f hb74 h
        refine d_cons ?_
        refine a_gskip rfl ?_
        refine d_next (by kernel_rfl) ?_
        refine d_cons ?_
        refine a_gskip rfl ?_
        refine d_next (by kernel_rfl) ?_
        refine d_cons ?_
        refine a_gskip rfl ?_
        refine d_next (by kernel_rfl) ?_
        refine d_cons ?_
        refine a_gskip rfl ?_
        refine d_next (by kernel_rfl) ?_
        refine d_cons ?_
        refine a_gskip rfl ?_
        refine d_next (by kernel_rfl) ?_
        refine d_cons ?_
        refine a_gskip rfl ?_
        refine d_next (by kernel_rfl) ?_
        refine d_cons ?_
        refine a_gskip rfl ?_
        refine d_next (by kernel_rfl) ?_
        refine d_cons ?_
        refine a_gskip rfl ?_
        refine d_next (by kernel_rfl) ?_
        refine d_cons ?_
        refine a_gskip rfl ?_
        refine d_next (by kernel_rfl) ?_
        refine d_cons ?_
        refine a_gskip rfl ?_
        refine d_next (by kernel_rfl) ?_
        refine d_cons ?_
        refine a_gskip rfl ?_
        refine d_next (by kernel_rfl) ?_
        refine d_cons ?_
        refine a_gskip rfl ?_
        refine d_next (by kernel_rfl) ?_
        refine d_cons ?_
        refine a_gskip rfl ?_
        refine d_next (by kernel_rfl) ?_
        refine d_cons ?_
        refine a_gskip rfl ?_
        refine d_next (by kernel_rfl) ?_
        refine d_cons ?_
        refine a_gskip rfl ?_
        refine d_next (by kernel_rfl) ?_
        refine d_cons ?_
        refine a_gskip rfl ?_
        refine d_next (by kernel_rfl) ?_
        refine d_cons ?_
        refine a_gskip rfl ?_
        refine d_next (by kernel_rfl) ?_
        refine d_cons ?_
        refine a_gskip rfl ?_
        refine d_next (by kernel_rfl) ?_
        refine d_cons ?_
        refine a_gskip rfl ?_
        refine d_next (by kernel_rfl) ?_
        refine d_cons ?_
        refine a_val (v := (.bool false)) (u := []) rfl trivial rfl ?_
        refine d_next (by kernel_rfl) ?_
        refine d_cons ?_
        refine a_val (v := (.bool false)) (u := []) rfl trivial rfl ?_
        refine d_next (by kernel_rfl) ?_
        refine d_cons ?_
        refine a_gval rfl (v := (.own 3 [0] [0])) (u := []) rfl (Nat.le_of_ble_eq_true rfl) rfl ?_
        refine d_next (by kernel_rfl) ?_
        refine d_cons ?_
        have hl75 : LdOk [0] (eT_Si64_Si64_Z a1) [0] 1 false (eSi64 a1.1) := (.fld rfl rfl rfl rfl (.nil rfl rfl rfl))
        refine a_gval rfl (v := (eSi64 a1.1)) (u := []) (ld_own (i := ⟨.slice 2, 1, 24, (eSi64 [])⟩) rfl rfl rfl hl75) hl75.c rfl ?_
        refine d_next (by kernel_rfl) ?_
        refine d_cons ?_
        obtain ⟨r76, hr77, h⟩ := bind_some h
        refine a_gcall rfl (args := [(eSi64 a1.1)]) (u := []) (r := (.bool r76)) rfl rfl (impl_isOne_ok a1.1 r76 hr77) rfl ?_
        refine d_next (by kernel_rfl) ?_
        refine d_cons ?_
        refine a_gval rfl (v := (.bool r76)) (u := []) rfl trivial rfl ?_
        refine d_next (by kernel_rfl) ?_
        cases hb78 : r76
        · have h := ite_f hb78 h
          refine d_cons ?_
          refine a_gskip rfl ?_
          refine d_next (by kernel_rfl) ?_
          refine d_cons ?_
          refine a_gskip rfl ?_
          refine d_next (by kernel_rfl) ?_
          refine d_cons ?_
          refine a_gskip rfl ?_
          refine d_next (by kernel_rfl) ?_
          refine d_cons ?_
          refine a_gskip rfl ?_
          refine d_next (by kernel_rfl) ?_
          refine d_cons ?_
          refine a_gval rfl (v := (.bool false)) (u := []) rfl trivial rfl ?_
          refine d_next (by kernel_rfl) ?_
          refine d_cons ?_
          refine a_val (v := (.bool false)) (u := []) rfl trivial rfl ?_
          refine d_next (by kernel_rfl) ?_
          refine d_cons ?_
          refine a_val (v := (.bool false)) (u := []) rfl trivial rfl ?_
          refine d_next (by kernel_rfl) ?_
          refine d_nil ?_
          refine a_next rfl ?_
          refine a_ret ?_
          refine ⟨.inr rfl, ?_⟩
          rw [Try.results154]
          cases h
          exact ⟨_, _, _, _, _, rfl, trivial, .inl ⟨rfl, .inl rfl⟩, rfl, rfl⟩
        · have h := ite_t hb78 h
          refine d_cons ?_
          refine a_gval rfl (v := (.own 3 [1] [1])) (u := []) rfl (Nat.le_of_ble_eq_true rfl) rfl ?_
          refine d_next (by kernel_rfl) ?_
          refine d_cons ?_
          have hl79 : LdOk [1] (eT_Si64_Si64_Z a1) [1] 1 false (eSi64 a1.2) := (.fld rfl rfl rfl rfl (.nil rfl rfl rfl))
          refine a_gval rfl (v := (eSi64 a1.2)) (u := []) (ld_own (i := ⟨.slice 2, 1, 24, (eSi64 [])⟩) rfl rfl rfl hl79) hl79.c rfl ?_
          refine d_next (by kernel_rfl) ?_
          refine d_cons ?_
          refine a_gval rfl (v := (.int .i64 (a1.2.length : Int))) (u := []) (len_run rfl rfl) trivial rfl ?_
          refine d_next (by kernel_rfl) ?_
          refine d_cons ?_
          refine a_gval rfl (v := (.bool (((a1.2.length : Int) == 0)))) (u := []) rfl trivial rfl ?_
          refine d_next (by kernel_rfl) ?_
          refine d_cons ?_
          refine a_gval rfl (v := (.bool (((a1.2.length : Int) == 0)))) (u := []) rfl trivial rfl ?_
          refine d_next (by kernel_rfl) ?_
          refine d_cons ?_
          refine a_val (v := (.bool (((a1.2.length : Int) == 0)))) (u := []) rfl trivial rfl ?_
          refine d_next (by kernel_rfl) ?_
          refine d_cons ?_
          refine a_val (v := (.bool (((a1.2.length : Int) == 0)))) (u := []) rfl trivial rfl ?_
          refine d_next (by kernel_rfl) ?_
          refine d_nil ?_
          refine a_next rfl ?_
          refine a_ret ?_
          refine ⟨.inr rfl, ?_⟩
          rw [Try.results154]
          cases h
          exact ⟨_, _, _, _, _, rfl, trivial, .inl ⟨rfl, .inl rfl⟩, rfl, rfl⟩
      · have h := ite_t hb74 h
        refine d_cons ?_
        refine a_gval rfl (v := (.own 2 [0] [0])) (u := []) rfl (Nat.le_of_ble_eq_true rfl) rfl ?_
        refine d_next (by kernel_rfl) ?_
        refine d_cons ?_
        have hl80 : LdOk [0] (eT_i64_Si64_Z a0) [0] 1 false (.int .i64 a0.1) := (.fld rfl rfl rfl rfl (.nil rfl rfl rfl))
        refine a_gval rfl (v := (.int .i64 a0.1)) (u := []) (ld_own (i := ⟨.int .i64, 1, 8, (.int .i64 0)⟩) rfl rfl rfl hl80) hl80.c rfl ?_
        refine d_next (by kernel_rfl) ?_
        refine d_cons ?_
        refine a_gval rfl (v := (.own 2 [0] [0])) (u := []) rfl (Nat.le_of_ble_eq_true rfl) rfl ?_
        refine d_next (by kernel_rfl) ?_
        refine d_cons ?_
        have hl81 : LdOk [0] (eT_i64_Si64_Z a0) [0] 1 false (.int .i64 a0.1) := (.fld rfl rfl rfl rfl (.nil rfl rfl rfl))
        refine a_gval rfl (v := (.int .i64 a0.1)) (u := []) (ld_own (i := ⟨.int .i64, 1, 8, (.int .i64 0)⟩) rfl rfl rfl hl81) hl81.c rfl ?_
        refine d_next (by kernel_rfl) ?_
        refine d_cons ?_
        refine a_gval rfl (v := (.own 2 [0] [0])) (u := []) rfl (Nat.le_of_ble_eq_true rfl) rfl ?_
        refine d_next (by kernel_rfl) ?_
        refine d_cons ?_
        have hl82 : LdOk [0] (eT_i64_Si64_Z a0) [0] 1 false (.int .i64 a0.1) := (.fld rfl rfl rfl rfl (.nil rfl rfl rfl))
        refine a_gval rfl (v := (.int .i64 a0.1)) (u := []) (ld_own (i := ⟨.int .i64, 1, 8, (.int .i64 0)⟩) rfl rfl rfl hl82) hl82.c rfl ?_
        refine d_next (by kernel_rfl) ?_
        refine d_cons ?_
        refine a_gval rfl (v := (.own 3 [1] [1])) (u := []) rfl (Nat.le_of_ble_eq_true rfl) rfl ?_
        refine d_next (by kernel_rfl) ?_
        refine d_cons ?_
        have hl83 : LdOk [1] (eT_Si64_Si64_Z a1) [1] 1 false (eSi64 a1.2) := (.fld rfl rfl rfl rfl (.nil rfl rfl rfl))
        refine a_gval rfl (v := (eSi64 a1.2)) (u := []) (ld_own (i := ⟨.slice 2, 1, 24, (eSi64 [])⟩) rfl rfl rfl hl83) hl83.c rfl ?_
        refine d_next (by kernel_rfl) ?_
        refine d_cons ?_
        refine a_gval rfl (v := (.own 3 [1] [1])) (u := []) rfl (Nat.le_of_ble_eq_true rfl) rfl ?_
        refine d_next (by kernel_rfl) ?_
        refine d_cons ?_
        have hl84 : LdOk [1] (eT_Si64_Si64_Z a1) [1] 1 false (eSi64 a1.2) := (.fld rfl rfl rfl rfl (.nil rfl rfl rfl))
        refine a_gval rfl (v := (eSi64 a1.2)) (u := []) (ld_own (i := ⟨.slice 2, 1, 24, (eSi64 [])⟩) rfl rfl rfl hl84) hl84.c rfl ?_
        refine d_next (by kernel_rfl) ?_
        refine d_cons ?_
        obtain ⟨r85, hr86, h⟩ := bind_some h
        refine a_gcall rfl (args := [(.int .i64 a0.1), (eSi64 a1.2), (eSi64 a1.2)]) (u := []) (r := (eSi64 r85)) rfl rfl (impl_prime_times_ok a0.1 a1.2 a1.2 r85 hr86) rfl ?_
        refine d_next (by kernel_rfl) ?_
        refine d_cons ?_
        refine a_gval rfl (v := (.own 2 [1] [1])) (u := []) rfl (Nat.le_of_ble_eq_true rfl) rfl ?_
        refine d_next (by kernel_rfl) ?_
        refine d_cons ?_
        have hl87 : LdOk [1] (eT_i64_Si64_Z a0) [1] 1 false (eSi64 a0.2) := (.fld rfl rfl rfl rfl (.nil rfl rfl rfl))
        refine a_gval rfl (v := (eSi64 a0.2)) (u := []) (ld_own (i := ⟨.slice 2, 1, 24, (eSi64 [])⟩) rfl rfl rfl hl87) hl87.c rfl ?_
        refine d_next (by kernel_rfl) ?_
        refine d_cons ?_
        obtain ⟨r88, hr89, h⟩ := bind_some h
        refine a_gcall rfl (args := [(.int .i64 a0.1), (eSi64 r85), (eSi64 a0.2), (.int .i64 (-1))]) (u := []) (r := (eSi64 r88)) rfl rfl (impl_prime_combine_ok a0.1 r85 a0.2 (-1) r88 hr89) rfl ?_
        refine d_next (by kernel_rfl) ?_
        refine d_cons ?_
        refine a_gval rfl (v := (.own 3 [0] [0])) (u := []) rfl (Nat.le_of_ble_eq_true rfl) rfl ?_
        refine d_next (by kernel_rfl) ?_
        refine d_cons ?_
        have hl90 : LdOk [0] (eT_Si64_Si64_Z a1) [0] 1 false (eSi64 a1.1) := (.fld rfl rfl rfl rfl (.nil rfl rfl rfl))
        refine a_gval rfl (v := (eSi64 a1.1)) (u := []) (ld_own (i := ⟨.slice 2, 1, 24, (eSi64 [])⟩) rfl rfl rfl hl90) hl90.c rfl ?_
        refine d_next (by kernel_rfl) ?_
        refine d_cons ?_
        obtain ⟨r91, hr92, h⟩ := bind_some h
        refine a_gcall rfl (args := [(.int .i64 a0.1), (eSi64 r88), (eSi64 a1.1)]) (u := []) (r := (eSi64 r91)) rfl rfl (impl_prime_rest_ok a0.1 r88 a1.1 r91 hr92) rfl ?_
        refine d_next (by kernel_rfl) ?_
        refine d_cons ?_
        refine a_gval rfl (v := (.int .i64 (r91.length : Int))) (u := []) (len_run rfl rfl) trivial rfl ?_
        refine d_next (by kernel_rfl) ?_
        refine d_cons ?_
        refine a_gval rfl (v := (.bool (((r91.length : Int) == 0)))) (u := []) rfl trivial rfl ?_
        refine d_next (by kernel_rfl) ?_
        refine d_cons ?_
        refine a_val (v := (.bool (((r91.length : Int) == 0)))) (u := []) rfl trivial rfl ?_
        refine d_next (by kernel_rfl) ?_
        refine d_cons ?_
        refine a_val (v := (.bool (((r91.length : Int) == 0)))) (u := []) rfl trivial rfl ?_
        refine d_next (by kernel_rfl) ?_
        cases hb93 : ((r91.length : Int) == 0)
        · have h := ite_f hb93 h
          refine d_cons ?_
          refine a_gval rfl (v := (.own 3 [0] [0])) (u := []) rfl (Nat.le_of_ble_eq_true rfl) rfl ?_
          refine d_next (by kernel_rfl) ?_
          refine d_cons ?_
          have hl94 : LdOk [0] (eT_Si64_Si64_Z a1) [0] 1 false (eSi64 a1.1) := (.fld rfl rfl rfl rfl (.nil rfl rfl rfl))
          refine a_gval rfl (v := (eSi64 a1.1)) (u := []) (ld_own (i := ⟨.slice 2, 1, 24, (eSi64 [])⟩) rfl rfl rfl hl94) hl94.c rfl ?_
          refine d_next (by kernel_rfl) ?_
          refine d_cons ?_
          obtain ⟨r95, hr96, h⟩ := bind_some h
          refine a_gcall rfl (args := [(eSi64 a1.1)]) (u := []) (r := (.bool r95)) rfl rfl (impl_isOne_ok a1.1 r95 hr96) rfl ?_
          refine d_next (by kernel_rfl) ?_
          refine d_cons ?_
          refine a_gval rfl (v := (.bool r95)) (u := []) rfl trivial rfl ?_
          refine d_next (by kernel_rfl) ?_
          cases hb97 : r95
          · have h := ite_f hb97 h
            refine d_cons ?_
            refine a_gskip rfl ?_
            refine d_next (by kernel_rfl) ?_
            refine d_cons ?_
            refine a_gskip rfl ?_
            refine d_next (by kernel_rfl) ?_
            refine d_cons ?_
            refine a_gskip rfl ?_
            refine d_next (by kernel_rfl) ?_
            refine d_cons ?_
            refine a_gskip rfl ?_
            refine d_next (by kernel_rfl) ?_
            refine d_cons ?_
            refine a_gval rfl (v := (.bool false)) (u := []) rfl trivial rfl ?_
            refine d_next (by kernel_rfl) ?_
            refine d_cons ?_
            refine a_val (v := (.bool false)) (u := []) rfl trivial rfl ?_
            refine d_next (by kernel_rfl) ?_
            refine d_cons ?_
            refine a_val (v := (.bool false)) (u := []) rfl trivial rfl ?_
            refine d_next (by kernel_rfl) ?_
            refine d_nil ?_
            refine a_next rfl ?_
            refine a_ret ?_
            refine ⟨.inr rfl, ?_⟩
            rw [Try.results154]
            cases h
            exact ⟨_, _, _, _, _, rfl, trivial, .inl ⟨rfl, .inl rfl⟩, rfl, rfl⟩
          · have h := ite_t hb97 h
            refine d_cons ?_
            refine a_gval rfl (v := (.own 3 [1] [1])) (u := []) rfl (Nat.le_of_ble_eq_true rfl) rfl ?_
            refine d_next (by kernel_rfl) ?_
            refine d_cons ?_
            have hl98 : LdOk [1] (eT_Si64_Si64_Z a1) [1] 1 false (eSi64 a1.2) := (.fld rfl rfl rfl rfl (.nil rfl rfl rfl))
            refine a_gval rfl (v := (eSi64 a1.2)) (u := []) (ld_own (i := ⟨.slice 2, 1, 24, (eSi64 [])⟩) rfl rfl rfl hl98) hl98.c rfl ?_
            refine d_next (by kernel_rfl) ?_
            refine d_cons ?_
            refine a_gval rfl (v := (.int .i64 (a1.2.length : Int))) (u := []) (len_run rfl rfl) trivial rfl ?_
            refine d_next (by kernel_rfl) ?_
            refine d_cons ?_
            refine a_gval rfl (v := (.bool (((a1.2.length : Int) == 0)))) (u := []) rfl trivial rfl ?_
            refine d_next (by kernel_rfl) ?_
            refine d_cons ?_
            refine a_gval rfl (v := (.bool (((a1.2.length : Int) == 0)))) (u := []) rfl trivial rfl ?_
            refine d_next (by kernel_rfl) ?_
            refine d_cons ?_
            refine a_val (v := (.bool (((a1.2.length : Int) == 0)))) (u := []) rfl trivial rfl ?_
            refine d_next (by kernel_rfl) ?_
            refine d_cons ?_
            refine a_val (v := (.bool (((a1.2.length : Int) == 0)))) (u := []) rfl trivial rfl ?_
            refine d_next (by kernel_rfl) ?_
            refine d_nil ?_
            refine a_next rfl ?_
            refine a_ret ?_
            refine ⟨.inr rfl, ?_⟩
            rw [Try.results154]
            cases h
            exact ⟨_, _, _, _, _, rfl, trivial, .inl ⟨rfl, .inl rfl⟩, rfl, rfl⟩
        · have h := ite_t hb93 h
          refine d_cons ?_
          refine a_gskip rfl ?_
          refine d_next (by kernel_rfl) ?_
          refine d_cons ?_
          refine a_gskip rfl ?_
          refine d_next (by kernel_rfl) ?_
          refine d_cons ?_
          refine a_gskip rfl ?_
          refine d_next (by kernel_rfl) ?_
          refine d_cons ?_
          refine a_gskip rfl ?_
          refine d_next (by kernel_rfl) ?_
          refine d_cons ?_
          refine a_gskip0 rfl ?_
          refine d_next (by kernel_rfl) ?_
          refine d_cons ?_
          refine a_gskip0 rfl ?_
          refine d_next (by kernel_rfl) ?_
          refine d_cons ?_
          refine a_gskip0 rfl ?_
          refine d_next (by kernel_rfl) ?_
          refine d_cons ?_
          refine a_gskip0 rfl ?_
          refine d_next (by kernel_rfl) ?_
          refine d_cons ?_
          refine a_gskip rfl ?_
          refine d_next (by kernel_rfl) ?_
          refine d_cons ?_
          refine a_val (v := (.bool true)) (u := []) rfl trivial rfl ?_
          refine d_next (by kernel_rfl) ?_
          refine d_cons ?_
          refine a_val (v := (.bool true)) (u := []) rfl trivial rfl ?_
          refine d_next (by kernel_rfl) ?_
          refine d_nil ?_
          refine a_next rfl ?_
          refine a_ret ?_
          refine ⟨.inr rfl, ?_⟩
          rw [Try.results154]
          cases h
          exact ⟨_, _, _, _, _, rfl, trivial, .inl ⟨rfl, .inl rfl⟩, rfl, rfl⟩
def impl_IsForm_c : ACode := (.seq (.region 0 [⟨some 4, .box 23 (.tmp 1), none, []⟩, ⟨some 5, .box 124 (.tmp 2), none, []⟩, ⟨some 6, .asg 0 (.const (.bool false)) 4, none, []⟩] false) (.seq (.region 1 [⟨some 7, .mov (.tmp 0), none, []⟩, ⟨some 8, .load 23 (.tmp 4), none, []⟩, ⟨some 9, .call 0 (.func 146) [(.tmp 7), (.tmp 8)], none, [0, 1]⟩, ⟨some 10, .mov (.tmp 9), none, [2, 2]⟩, ⟨some 11, .mov (.tmp 0), some (10, true), [3]⟩, ⟨some 12, .fieldAddr 124 (.tmp 5) 0, some (10, true), [3]⟩, ⟨some 13, .load 23 (.tmp 12), some (10, true), [5, 3]⟩, ⟨some 14, .call 0 (.func 119) [(.tmp 11), (.tmp 13)], some (10, true), [4, 6, 3, 3]⟩, ⟨some 15, .pick (.tmp 10) (.tmp 14) (.const (.bool false)), none, [3, 7]⟩, ⟨some 16, .mov (.tmp 15), none, [8, 7]⟩, ⟨some 17, .mov (.tmp 0), some (16, true), [9]⟩, ⟨some 18, .fieldAddr 124 (.tmp 5) 1, some (16, true), [9]⟩, ⟨some 19, .load 23 (.tmp 18), some (16, true), [11, 9]⟩, ⟨some 20, .call 0 (.func 119) [(.tmp 17), (.tmp 19)], some (16, true), [10, 12, 9, 9]⟩, ⟨some 21, .pick (.tmp 16) (.tmp 20) (.const (.bool false)), none, [9, 13]⟩, ⟨some 22, .mov (.tmp 21), none, [14, 13]⟩, ⟨some 23, .mov (.tmp 0), some (22, true), [15]⟩, ⟨some 24, .load 23 (.tmp 4), some (22, true), [15]⟩, ⟨some 25, .call 0 (.func 130) [(.tmp 23), (.tmp 24)], some (22, true), [16, 17, 15, 15]⟩, ⟨some 26, .load 124 (.tmp 5), some (22, true), [15]⟩, ⟨some 27, .call 0 (.func 152) [(.tmp 26)], some (22, true), [19, 18, 15]⟩, ⟨some 28, .call 0 (.func 154) [(.tmp 25), (.tmp 27)], some (22, true), [18, 20, 20, 15]⟩, ⟨some 29, .pick (.tmp 22) (.tmp 28) (.const (.bool false)), none, [15, 21]⟩, ⟨some 6, .asg 0 (.tmp 29) 4, none, [22, 21, 0, 1, 2, 3, 4, 5, 6, 7, 8, 9, 10, 11, 12, 13, 14, 15, 16, 17, 18, 19, 20, 21, 22]⟩] true) .ret))
def impl_IsForm_L : Live := [(0, [0, 1, 2]), (1, [0, 4, 5])]
theorem impl_IsForm_body : Try.f149.body = some (Try.f149.body.getD .skip) := by kernel_rfl
theorem impl_IsForm_strip : strip [] (Try.f149.body.getD .skip) = impl_IsForm_c := by kernel_rfl
noncomputable def impl_IsForm (a0 : Int) (a1 : (Vec Int 64)) (a2 : ((Vec Int 64) × (Vec Int 64))) : Option Bool :=
  (Option.bind (impl_IsDiscriminant a0 a1) fun r22 => (if r22 then (Option.bind (impl_isPoly a0 a2.1) fun r26 => (if r26 then (Option.bind (impl_isPoly a0 a2.2) fun r30 => (if r30 then (Option.bind (impl_curveOf a0 a1) fun r34 => (Option.bind (impl_formOf a2) fun r37 => (Option.bind (impl_curve_isForm r34 r37) fun r39 => (some r39)))) else (some false))) else (some false))) else (some false)))
set_option maxHeartbeats 16000000 in
theorem impl_IsForm_ok (a0 : Int) (a1 : (Vec Int 64)) (a2 : ((Vec Int 64) × (Vec Int 64))) (r : Bool) (h : impl_IsForm a0 a1 a2 = some r) : Den Try.prog 149 [(.int .i64 a0), (eA64u8 a1), (eT_A64u8_A64u8_Z a2)] { r := (.bool r) } := by
  refine den_of (rs := [(.bool r)]) (ac := impl_IsForm_c) (L := impl_IsForm_L) (n := 30) (m := []) good Try.func149 impl_IsForm_body (by kernel_rfl) Try.ntmps149 rfl rfl impl_IsForm_strip rfl rfl ?_
  refine a_st (σ' := ⟨[(0, (.int .i64 a0)), (1, (eA64u8 a1)), (2, (eT_A64u8_A64u8_Z a2))], []⟩) (by kernel_rfl) ?_
  unfold impl_IsForm_c
  refine a_seq ?_
  refine a_region ?_
  refine a_val (v := (.own 1400 [] [])) (u := [(1400, some ⟨(eA64u8 a1), false⟩)]) rfl trivial rfl ?_
  refine a_val (v := (.own 1500 [] [])) (u := [(1500, some ⟨(eT_A64u8_A64u8_Z a2), false⟩)]) rfl trivial rfl ?_
  refine a_val (v := (.bool false)) (u := []) rfl trivial rfl ?_
  refine a_nil ?_
  refine a_next (σ' := ⟨[(0, (.int .i64 a0)), (4, (.own 4 [] [])), (5, (.own 5 [] []))], [(4, some ⟨(eA64u8 a1), false⟩), (5, some ⟨(eT_A64u8_A64u8_Z a2), false⟩)]⟩) (by kernel_rfl) ?_
  refine a_seq ?_
  refine a_draw [⟨[], [], [], []⟩, ⟨[4], [], [], []⟩, ⟨[], [], [], [0, 1]⟩, ⟨[], [], [], [0, 1, 2]⟩, ⟨[], [], [], [0, 1, 2, 3]⟩, ⟨[5], [], [5], [0, 1, 2, 3]⟩, ⟨[5], [], [], [0, 1, 2, 3, 5]⟩, ⟨[], [], [], [0, 1, 2, 3, 4, 5, 6]⟩, ⟨[], [], [], [0, 1, 2, 3, 4, 5, 6, 7]⟩, ⟨[], [], [], [0, 1, 2, 3, 4, 5, 6, 7, 8]⟩, ⟨[], [], [], [0, 1, 2, 3, 4, 5, 6, 7, 8, 9]⟩, ⟨[5], [], [5], [0, 1, 2, 3, 4, 5, 6, 7, 8, 9]⟩, ⟨[5], [], [], [0, 1, 2, 3, 4, 5, 6, 7, 8, 9, 11]⟩, ⟨[], [], [], [0, 1, 2, 3, 4, 5, 6, 7, 8, 9, 10, 11, 12]⟩, ⟨[], [], [], [0, 1, 2, 3, 4, 5, 6, 7, 8, 9, 10, 11, 12, 13]⟩, ⟨[], [], [], [0, 1, 2, 3, 4, 5, 6, 7, 8, 9, 10, 11, 12, 13, 14]⟩, ⟨[], [], [], [0, 1, 2, 3, 4, 5, 6, 7, 8, 9, 10, 11, 12, 13, 14, 15]⟩, ⟨[4], [], [], [0, 1, 2, 3, 4, 5, 6, 7, 8, 9, 10, 11, 12, 13, 14, 15]⟩, ⟨[], [], [], [0, 1, 2, 3, 4, 5, 6, 7, 8, 9, 10, 11, 12, 13, 14, 15, 16, 17]⟩, ⟨[5], [], [], [0, 1, 2, 3, 4, 5, 6, 7, 8, 9, 10, 11, 12, 13, 14, 15]⟩, ⟨[], [], [], [0, 1, 2, 3, 4, 5, 6, 7, 8, 9, 10, 11, 12, 13, 14, 15, 16, 17, 18, 19]⟩, ⟨[], [], [], [0, 1, 2, 3, 4, 5, 6, 7, 8, 9, 10, 11, 12, 13, 14, 15, 16, 17, 18, 19, 20]⟩, ⟨[], [], [], [0, 1, 2, 3, 4, 5, 6, 7, 8, 9, 10, 11, 12, 13, 14, 15, 16, 17, 18, 19, 20, 21]⟩, ⟨[], [], [], [0, 1, 2, 3, 4, 5, 6, 7, 8, 9, 10, 11, 12, 13, 14, 15, 16, 17, 18, 19, 20, 21, 22]⟩] (by kernel_rfl) ?_
  refine d_cons ?_
  refine a_val (v := (.int .i64 a0)) (u := []) rfl trivial rfl ?_
  refine d_next (by kernel_rfl) ?_
  refine d_cons ?_
  have hl21 : LdOk [] (eA64u8 a1) [] 64 true (eA64u8 a1) := (.nil rfl rfl rfl)
  refine a_val (v := (eA64u8 a1)) (u := []) (ld_own (i := ⟨.arr 64 5, 64, 64, (eA64u8 (vrep 64 (0 : Int)))⟩) rfl rfl rfl hl21) hl21.c rfl ?_
  refine d_next (by kernel_rfl) ?_
  refine d_cons ?_
  obtain ⟨r22, hr23, h⟩ := bind_some h
  refine a_call (args := [(.int .i64 a0), (eA64u8 a1)]) (u := []) (r := (.bool r22)) rfl rfl (impl_IsDiscriminant_ok a0 a1 r22 hr23) rfl ?_
  refine d_next (by kernel_rfl) ?_
  refine d_cons ?_
  refine a_val (v := (.bool r22)) (u := []) rfl trivial rfl ?_
  refine d_next (by kernel_rfl) ?_
  cases hb24 : r22
  · have h := ite_f hb24 h
    refine d_cons ?_
    refine a_gskip rfl ?_
    refine d_next (by kernel_rfl) ?_
    refine d_cons ?_
    refine a_gskip rfl ?_
    refine d_next (by kernel_rfl) ?_
    refine d_cons ?_
    refine a_gskip rfl ?_
    refine d_next (by kernel_rfl) ?_
    refine d_cons ?_
    refine a_gskip rfl ?_
    refine d_next (by kernel_rfl) ?_
    refine d_cons ?_
    refine a_val (v := (.bool false)) (u := []) rfl trivial rfl ?_
    refine d_next (by kernel_rfl) ?_
    refine d_cons ?_
    refine a_val (v := (.bool false)) (u := []) rfl trivial rfl ?_
    refine d_next (by kernel_rfl) ?_
    refine d_cons ?_
    refine a_gskip rfl ?_
    refine d_next (by kernel_rfl) ?_
    refine d_cons ?_
    refine a_gskip rfl ?_
    refine d_next (by kernel_rfl) ?_
    refine d_cons ?_
    refine a_gskip rfl ?_
    refine d_next (by kernel_rfl) ?_
    refine d_cons ?_
    refine a_gskip rfl ?_
    refine d_next (by kernel_rfl) ?_
    refine d_cons ?_
    refine a_val (v := (.bool false)) (u := []) rfl trivial rfl ?_
    refine d_next (by kernel_rfl) ?_
    refine d_cons ?_
    refine a_val (v := (.bool false)) (u := []) rfl trivial rfl ?_
    refine d_next (by kernel_rfl) ?_
    refine d_cons ?_
    refine a_gskip rfl ?_
    refine d_next (by kernel_rfl) ?_
    refine d_cons ?_
    refine a_gskip rfl ?_
    refine d_next (by kernel_rfl) ?_
    refine d_cons ?_
    refine a_gskip rfl ?_
    refine d_next (by kernel_rfl) ?_
    refine d_cons ?_
    refine a_gskip rfl ?_
    refine d_next (by kernel_rfl) ?_
    refine d_cons ?_
    refine a_gskip rfl ?_
    refine d_next (by kernel_rfl) ?_
    refine d_cons ?_
    refine a_gskip rfl ?_
    refine d_next (by kernel_rfl) ?_
    refine d_cons ?_
    refine a_val (v := (.bool false)) (u := []) rfl trivial rfl ?_
    refine d_next (by kernel_rfl) ?_
    refine d_cons ?_
    refine a_val (v := (.bool false)) (u := []) rfl trivial rfl ?_
    refine d_next (by kernel_rfl) ?_
    refine d_nil ?_
    refine a_next rfl ?_
    refine a_ret ?_
    refine ⟨.inr rfl, ?_⟩
    rw [Try.results149]
    cases h
    exact ⟨_, _, _, _, _, rfl, trivial, .inl ⟨rfl, .inl rfl⟩, rfl, rfl⟩
  · have h := ite_t hb24 h
    refine d_cons ?_
    refine a_gval rfl (v := (.int .i64 a0)) (u := []) rfl trivial rfl ?_
    refine d_next (by kernel_rfl) ?_
    refine d_cons ?_
    refine a_gval rfl (v := (.own 5 [0] [0])) (u := []) rfl (Nat.le_of_ble_eq_true rfl) rfl ?_
    refine d_next (by kernel_rfl) ?_
    refine d_cons ?_
    have hl25 : LdOk [0] (eT_A64u8_A64u8_Z a2) [0] 64 true (eA64u8 a2.1) := (.fld rfl rfl rfl rfl (.nil rfl rfl rfl))
    refine a_gval rfl (v := (eA64u8 a2.1)) (u := []) (ld_own (i := ⟨.arr 64 5, 64, 64, (eA64u8 (vrep 64 (0 : Int)))⟩) rfl rfl rfl hl25) hl25.c rfl ?_
    refine d_next (by kernel_rfl) ?_
    refine d_cons ?_
    obtain ⟨r26, hr27, h⟩ := bind_some h
    refine a_gcall rfl (args := [(.int .i64 a0), (eA64u8 a2.1)]) (u := []) (r := (.bool r26)) rfl rfl (impl_isPoly_ok a0 a2.1 r26 hr27) rfl ?_
    refine d_next (by kernel_rfl) ?_
    refine d_cons ?_
    refine a_val (v := (.bool r26)) (u := []) rfl trivial rfl ?_
    refine d_next (by kernel_rfl) ?_
    refine d_cons ?_
    refine a_val (v := (.bool r26)) (u := []) rfl trivial rfl ?_
    refine d_next (by kernel_rfl) ?_
    cases hb28 : r26
    · have h := ite_f hb28 h
      refine d_cons ?_
      refine a_gskip rfl ?_
      refine d_next (by kernel_rfl) ?_
      refine d_cons ?_
      refine a_gskip rfl ?_
      refine d_next (by kernel_rfl) ?_
      refine d_cons ?_
      refine a_gskip rfl ?_
      refine d_next (by kernel_rfl) ?_
      refine d_cons ?_
      refine a_gskip rfl ?_
      refine d_next (by kernel_rfl) ?_
      refine d_cons ?_
      refine a_val (v := (.bool false)) (u := []) rfl trivial rfl ?_
      refine d_next (by kernel_rfl) ?_
      refine d_cons ?_
      refine a_val (v := (.bool false)) (u := []) rfl trivial rfl ?_
      refine d_next (by kernel_rfl) ?_
      refine d_cons ?_
      refine a_gskip rfl ?_
      refine d_next (by kernel_rfl) ?_
      refine d_cons ?_
      refine a_gskip rfl ?_
      refine d_next (by kernel_rfl) ?_
      refine d_cons ?_
      refine a_gskip rfl ?_
      refine d_next (by kernel_rfl) ?_
      refine d_cons ?_
      refine a_gskip rfl ?_
      refine d_next (by kernel_rfl) ?_
      refine d_cons ?_
      refine a_gskip rfl ?_
      refine d_next (by kernel_rfl) ?_
      refine d_cons ?_
      refine a_gskip rfl ?_
      refine d_next (by kernel_rfl) ?_
      refine d_cons ?_
      refine a_val (v := (.bool false)) (u := []) rfl trivial rfl ?_
      refine d_next (by kernel_rfl) ?_
      refine d_cons ?_
      refine a_val (v := (.bool false)) (u := []) rfl trivial rfl ?_
      refine d_next (by kernel_rfl) ?_
      refine d_nil ?_
      refine a_next rfl ?_
      refine a_ret ?_
      refine ⟨.inr rfl, ?_⟩
      rw [Try.results149]
      cases h
      exact ⟨_, _, _, _, _, rfl, trivial, .inl ⟨rfl, .inl rfl⟩, rfl, rfl⟩
    · have h := ite_t hb28 h
      refine d_cons ?_
      refine a_gval rfl (v := (.int .i64 a0)) (u := []) rfl trivial rfl ?_
      refine d_next (by kernel_rfl) ?_
      refine d_cons ?_
      refine a_gval rfl (v := (.own 5 [1] [64])) (u := []) rfl (Nat.le_of_ble_eq_true rfl) rfl ?_
      refine d_next (by kernel_rfl) ?_
      refine d_cons ?_
      have hl29 : LdOk [1] (eT_A64u8_A64u8_Z a2) [64] 64 true (eA64u8 a2.2) := (.fld rfl rfl rfl rfl (.nil rfl rfl rfl))
      refine a_gval rfl (v := (eA64u8 a2.2)) (u := []) (ld_own (i := ⟨.arr 64 5, 64, 64, (eA64u8 (vrep 64 (0 : Int)))⟩) rfl rfl rfl hl29) hl29.c rfl ?_
      refine d_next (by kernel_rfl) ?_
      refine d_cons ?_
      obtain ⟨r30, hr31, h⟩ := bind_some h
      refine a_gcall rfl (args := [(.int .i64 a0), (eA64u8 a2.2)]) (u := []) (r := (.bool r30)) rfl rfl (impl_isPoly_ok a0 a2.2 r30 hr31) rfl ?_
      refine d_next (by kernel_rfl) ?_
      refine d_cons ?_
      refine a_val (v := (.bool r30)) (u := []) rfl trivial rfl ?_
      refine d_next (by kernel_rfl) ?_
      refine d_cons ?_
      refine a_val (v := (.bool r30)) (u := []) rfl trivial rfl ?_
      refine d_next (by kernel_rfl) ?_
      cases hb32 : r30
      · have h := ite_f hb32 h
        refine d_cons ?_
        refine a_gskip rfl ?_
        refine d_next (by kernel_rfl) ?_
        refine d_cons ?_
        refine a_gskip rfl ?_
        refine d_next (by kernel_rfl) ?_
        refine d_cons ?_
        refine a_gskip rfl ?_
        refine d_next (by kernel_rfl) ?_
        refine d_cons ?_
        refine a_gskip rfl ?_
        refine d_next (by kernel_rfl) ?_
        refine d_cons ?_
        refine a_gskip rfl ?_
        refine d_next (by kernel_rfl) ?_
        refine d_cons ?_
        refine a_gskip rfl ?_
        refine d_next (by kernel_rfl) ?_
        refine d_cons ?_
        refine a_val (v := (.bool false)) (u := []) rfl trivial rfl ?_
        refine d_next (by kernel_rfl) ?_
        refine d_cons ?_
        refine a_val (v := (.bool false)) (u := []) rfl trivial rfl ?_
        refine d_next (by kernel_rfl) ?_
        refine d_nil ?_
        refine a_next rfl ?_
        refine a_ret ?_
        refine ⟨.inr rfl, ?_⟩
        rw [Try.results149]
        cases h
        exact ⟨_, _, _, _, _, rfl, trivial, .inl ⟨rfl, .inl rfl⟩, rfl, rfl⟩
      · have h := ite_t hb32 h
        refine d_cons ?_
        refine a_gval rfl (v := (.int .i64 a0)) (u := []) rfl trivial rfl ?_
        refine d_next (by kernel_rfl) ?_
        refine d_cons ?_
        have hl33 : LdOk [] (eA64u8 a1) [] 64 true (eA64u8 a1) := (.nil rfl rfl rfl)
        refine a_gval rfl (v := (eA64u8 a1)) (u := []) (ld_own (i := ⟨.arr 64 5, 64, 64, (eA64u8 (vrep 64 (0 : Int)))⟩) rfl rfl rfl hl33) hl33.c rfl ?_
        refine d_next (by kernel_rfl) ?_
        refine d_cons ?_
        obtain ⟨r34, hr35, h⟩ := bind_some h
        refine a_gcall rfl (args := [(.int .i64 a0), (eA64u8 a1)]) (u := []) (r := (eT_i64_Si64_Z r34)) rfl rfl (impl_curveOf_ok a0 a1 r34 hr35) rfl ?_
        refine d_next (by kernel_rfl) ?_
        refine d_cons ?_
        have hl36 : LdOk [] (eT_A64u8_A64u8_Z a2) [] 128 true (eT_A64u8_A64u8_Z a2) := (.nil rfl rfl rfl)
        refine a_gval rfl (v := (eT_A64u8_A64u8_Z a2)) (u := []) (ld_own (i := ⟨.struct [(0, 23), (64, 23)], 128, 128, (eT_A64u8_A64u8_Z ((vrep 64 (0 : Int)), (vrep 64 (0 : Int))))⟩) rfl rfl rfl hl36) hl36.c rfl ?_
        refine d_next (by kernel_rfl) ?_
        refine d_cons ?_
        obtain ⟨r37, hr38, h⟩ := bind_some h
        refine a_gcall rfl (args := [(eT_A64u8_A64u8_Z a2)]) (u := []) (r := (eT_Si64_Si64_Z r37)) rfl rfl (impl_formOf_ok a2 r37 hr38) rfl ?_
        refine d_next (by kernel_rfl) ?_
        refine d_cons ?_
        obtain ⟨r39, hr40, h⟩ := bind_some h
        refine a_gcall rfl (args := [(eT_i64_Si64_Z r34), (eT_Si64_Si64_Z r37)]) (u := []) (r := (.bool r39)) rfl rfl (impl_curve_isForm_ok r34 r37 r39 hr40) rfl ?_
        refine d_next (by kernel_rfl) ?_
        refine d_cons ?_
        refine a_val (v := (.bool r39)) (u := []) rfl trivial rfl ?_
        refine d_next (by kernel_rfl) ?_
        refine d_cons ?_
        refine a_val (v := (.bool r39)) (u := []) rfl trivial rfl ?_
        refine d_next (by kernel_rfl) ?_
        refine d_nil ?_
        refine a_next rfl ?_
        refine a_ret ?_
        refine ⟨.inr rfl, ?_⟩
        rw [Try.results149]
        cases h
        exact ⟨_, _, _, _, _, rfl, trivial, .inl ⟨rfl, .inl rfl⟩, rfl, rfl⟩
def impl_formCode_c1_of_p_p_c : ACode := (.seq (.region 0 [⟨some 3, .box 124 (.tmp 0), none, []⟩, ⟨some 4, .asg 0 (.const (.bool false)) 4, none, []⟩] false) (.seq (.region 1 [⟨some 5, .load 2 (.tmp 1), none, []⟩, ⟨some 6, .load 23 (.tmp 2), none, []⟩, ⟨some 7, .load 124 (.tmp 3), none, []⟩, ⟨some 8, .call 0 (.func 149) [(.tmp 5), (.tmp 6), (.tmp 7)], none, []⟩, ⟨some 4, .asg 0 (.tmp 8) 4, none, []⟩] false) .ret))
def impl_formCode_c1_of_p_p_L : Live := [(0, [0, 1, 2]), (1, [1, 2, 3])]
theorem impl_formCode_c1_of_p_p_body : Try.f148.body = some (Try.f148.body.getD .skip) := by kernel_rfl
theorem impl_formCode_c1_of_p_p_strip : strip [] (Try.f148.body.getD .skip) = impl_formCode_c1_of_p_p_c := by kernel_rfl
noncomputable def impl_formCode_c1_of_p_p (a0 : ((Vec Int 64) × (Vec Int 64))) (a1 : Int) (a2 : (Vec Int 64)) : Option Bool :=
  (Option.bind (impl_IsForm a1 a2 a0) fun r4 => (some r4))
set_option maxHeartbeats 16000000 in
theorem impl_formCode_c1_of_p_p_ok (a0 : ((Vec Int 64) × (Vec Int 64))) (a1 : Int) (a2 : (Vec Int 64)) (r : Bool) (h : impl_formCode_c1_of_p_p a0 a1 a2 = some r) : Den Try.prog 148 [(eT_A64u8_A64u8_Z a0), (.ref (.int .i64 a1) [] []), (.ref (eA64u8 a2) [] [])] { r := (.bool r) } := by
  refine den_of (rs := [(.bool r)]) (ac := impl_formCode_c1_of_p_p_c) (L := impl_formCode_c1_of_p_p_L) (n := 9) (m := []) good Try.func148 impl_formCode_c1_of_p_p_body (by kernel_rfl) Try.ntmps148 rfl rfl impl_formCode_c1_of_p_p_strip rfl rfl ?_
  refine a_st (σ' := ⟨[(0, (eT_A64u8_A64u8_Z a0)), (1, (.ref (.int .i64 a1) [] [])), (2, (.ref (eA64u8 a2) [] []))], []⟩) (by kernel_rfl) ?_
  unfold impl_formCode_c1_of_p_p_c
  refine a_seq ?_
  refine a_region ?_
  refine a_val (v := (.own 1300 [] [])) (u := [(1300, some ⟨(eT_A64u8_A64u8_Z a0), false⟩)]) rfl trivial rfl ?_
  refine a_val (v := (.bool false)) (u := []) rfl trivial rfl ?_
  refine a_nil ?_
  refine a_next (σ' := ⟨[(1, (.ref (.int .i64 a1) [] [])), (2, (.ref (eA64u8 a2) [] [])), (3, (.own 3 [] []))], [(3, some ⟨(eT_A64u8_A64u8_Z a0), false⟩)]⟩) (by kernel_rfl) ?_
  refine a_seq ?_
  refine a_region ?_
  have hl1 : LdOk [] (.int .i64 a1) [] 1 false (.int .i64 a1) := (.nil rfl rfl rfl)
  refine a_val (v := (.int .i64 a1)) (u := []) (ld_ref (i := ⟨.int .i64, 1, 8, (.int .i64 0)⟩) rfl rfl hl1) hl1.c rfl ?_
  have hl2 : LdOk [] (eA64u8 a2) [] 64 true (eA64u8 a2) := (.nil rfl rfl rfl)
  refine a_val (v := (eA64u8 a2)) (u := []) (ld_ref (i := ⟨.arr 64 5, 64, 64, (eA64u8 (vrep 64 (0 : Int)))⟩) rfl rfl hl2) hl2.c rfl ?_
  have hl3 : LdOk [] (eT_A64u8_A64u8_Z a0) [] 128 true (eT_A64u8_A64u8_Z a0) := (.nil rfl rfl rfl)
  refine a_val (v := (eT_A64u8_A64u8_Z a0)) (u := []) (ld_own (i := ⟨.struct [(0, 23), (64, 23)], 128, 128, (eT_A64u8_A64u8_Z ((vrep 64 (0 : Int)), (vrep 64 (0 : Int))))⟩) rfl rfl rfl hl3) hl3.c rfl ?_
  obtain ⟨r4, hr5, h⟩ := bind_some h
  refine a_call (args := [(.int .i64 a1), (eA64u8 a2), (eT_A64u8_A64u8_Z a0)]) (u := []) (r := (.bool r4)) rfl rfl (impl_IsForm_ok a1 a2 a0 r4 hr5) rfl ?_
  refine a_val (v := (.bool r4)) (u := []) rfl trivial rfl ?_
  refine a_nil ?_
  refine a_next rfl ?_
  refine a_ret ?_
  refine ⟨.inr rfl, ?_⟩
  rw [Try.results148]
  cases h
  exact ⟨_, _, _, _, _, rfl, trivial, .inl ⟨rfl, .inl rfl⟩, rfl, rfl⟩
def impl_areAll_impl_Form__c1_of_p_c : ACode := (.seq (.region 0 [⟨some 2, .box 124 (.tmp 0), none, []⟩, ⟨some 3, .asg 0 (.const (.bool false)) 4, none, []⟩] false) (.seq (.region 1 [⟨some 4, .load 145 (.tmp 1), none, []⟩, ⟨some 5, .load 124 (.tmp 2), none, []⟩, ⟨some 6, .call 0 (.tmp 4) [(.tmp 5)], none, []⟩, ⟨some 7, .un .not (.tmp 6), none, []⟩, ⟨some 3, .asg 0 (.tmp 7) 4, none, []⟩] false) .ret))
def impl_areAll_impl_Form__c1_of_p_L : Live := [(0, [0, 1]), (1, [1, 2])]
theorem impl_areAll_impl_Form__c1_of_p_body : Try.f164.body = some (Try.f164.body.getD .skip) := by kernel_rfl
theorem impl_areAll_impl_Form__c1_of_p_strip : strip [] (Try.f164.body.getD .skip) = impl_areAll_impl_Form__c1_of_p_c := by kernel_rfl
noncomputable def impl_areAll_impl_Form__c1_of_p (a0 : ((Vec Int 64) × (Vec Int 64))) (a1c0 : Int) (a1c1 : (Vec Int 64)) : Option Bool :=
  (Option.bind (impl_formCode_c1_of_p_p a0 a1c0 a1c1) fun r3 => (some (!r3)))
set_option maxHeartbeats 16000000 in
theorem impl_areAll_impl_Form__c1_of_p_ok (a0 : ((Vec Int 64) × (Vec Int 64))) (a1c0 : Int) (a1c1 : (Vec Int 64)) (r : Bool) (h : impl_areAll_impl_Form__c1_of_p a0 a1c0 a1c1 = some r) : Den Try.prog 164 [(eT_A64u8_A64u8_Z a0), (.ref (.clo 148 [] [(.ref (.int .i64 a1c0) [] []), (.ref (eA64u8 a1c1) [] [])]) [] [])] { r := (.bool r) } := by
  refine den_of (rs := [(.bool r)]) (ac := impl_areAll_impl_Form__c1_of_p_c) (L := impl_areAll_impl_Form__c1_of_p_L) (n := 8) (m := []) good Try.func164 impl_areAll_impl_Form__c1_of_p_body (by kernel_rfl) Try.ntmps164 rfl rfl impl_areAll_impl_Form__c1_of_p_strip rfl rfl ?_
  refine a_st (σ' := ⟨[(0, (eT_A64u8_A64u8_Z a0)), (1, (.ref (.clo 148 [] [(.ref (.int .i64 a1c0) [] []), (.ref (eA64u8 a1c1) [] [])]) [] []))], []⟩) (by kernel_rfl) ?_
  unfold impl_areAll_impl_Form__c1_of_p_c
  refine a_seq ?_
  refine a_region ?_
  refine a_val (v := (.own 1200 [] [])) (u := [(1200, some ⟨(eT_A64u8_A64u8_Z a0), false⟩)]) rfl trivial rfl ?_
  refine a_val (v := (.bool false)) (u := []) rfl trivial rfl ?_
  refine a_nil ?_
  refine a_next (σ' := ⟨[(1, (.ref (.clo 148 [] [(.ref (.int .i64 a1c0) [] []), (.ref (eA64u8 a1c1) [] [])]) [] [])), (2, (.own 2 [] []))], [(2, some ⟨(eT_A64u8_A64u8_Z a0), false⟩)]⟩) (by kernel_rfl) ?_
  refine a_seq ?_
  refine a_region ?_
  have hl1 : LdOk [] (.clo 148 [] [(.ref (.int .i64 a1c0) [] []), (.ref (eA64u8 a1c1) [] [])]) [] 1 false (.clo 148 [] [(.ref (.int .i64 a1c0) [] []), (.ref (eA64u8 a1c1) [] [])]) := (.nil rfl rfl rfl)
  refine a_val (v := (.clo 148 [] [(.ref (.int .i64 a1c0) [] []), (.ref (eA64u8 a1c1) [] [])])) (u := []) (ld_ref (i := ⟨.other, 1, 8, (.raw .nilFunc)⟩) rfl rfl hl1) hl1.c rfl ?_
  have hl2 : LdOk [] (eT_A64u8_A64u8_Z a0) [] 128 true (eT_A64u8_A64u8_Z a0) := (.nil rfl rfl rfl)
  refine a_val (v := (eT_A64u8_A64u8_Z a0)) (u := []) (ld_own (i := ⟨.struct [(0, 23), (64, 23)], 128, 128, (eT_A64u8_A64u8_Z ((vrep 64 (0 : Int)), (vrep 64 (0 : Int))))⟩) rfl rfl rfl hl2) hl2.c rfl ?_
  obtain ⟨r3, hr4, h⟩ := bind_some h
  refine a_call (args := [(eT_A64u8_A64u8_Z a0), (.ref (.int .i64 a1c0) [] []), (.ref (eA64u8 a1c1) [] [])]) (u := []) (r := (.bool r3)) rfl rfl (impl_formCode_c1_of_p_p_ok a0 a1c0 a1c1 r3 hr4) rfl ?_
  refine a_val (v := (.bool (!r3))) (u := []) rfl trivial rfl ?_
  refine a_val (v := (.bool (!r3))) (u := []) rfl trivial rfl ?_
  refine a_nil ?_
  refine a_next rfl ?_
  refine a_ret ?_
  refine ⟨.inr rfl, ?_⟩
  rw [Try.results164]
  cases h
  exact ⟨_, _, _, _, _, rfl, trivial, .inl ⟨rfl, .inl rfl⟩, rfl, rfl⟩
def slices_IndexFunc_impl_Form_impl_Form_of_impl_areAll_impl_Form__c1_p_c : ACode := (.seq (.region 0 [⟨some 4, .asg 0 (.const (.int .i64 0)) 3, none, []⟩] false) (.seq (.seq (.region 1 [⟨some 6, .mov (.tmp 0), none, []⟩, ⟨some 7, .blt 0 .len [(.tmp 6)] [106], none, []⟩, ⟨some 8, .mov (.const (.int .i64 0)), none, []⟩] false) (.block 0 (.loop (.seq (.region 2 [⟨some 9, .bin .lss 3 (.tmp 8) (.tmp 7), none, []⟩] false) (.seq (.cond (.tmp 9) .skip (.exit 0)) (.seq (.block 1 (.seq (.region 3 [⟨some 10, .mov (.tmp 8), none, []⟩, ⟨some 5, .asg 0 (.tmp 10) 3, none, []⟩] false) (.seq (.region 4 [⟨some 11, .mov (.tmp 1), none, []⟩, ⟨some 12, .mov (.tmp 0), none, []⟩, ⟨some 13, .mov (.tmp 5), none, []⟩, ⟨some 14, .indexAddr 106 (.tmp 12) (.tmp 13), none, []⟩, ⟨some 15, .load 124 (.tmp 14), none, []⟩, ⟨some 16, .call 0 (.tmp 11) [(.tmp 15)], none, []⟩] false) (.cond (.tmp 16) (.seq (.region 5 [⟨some 17, .mov (.tmp 5), none, []⟩, ⟨some 4, .asg 0 (.tmp 17) 3, none, []⟩] false) .ret) .skip)))) (.region 6 [⟨some 18, .bin .add 3 (.tmp 8) (.const (.int .i64 1)), none, []⟩, ⟨some 8, .mov (.tmp 18), none, []⟩] false))))))) (.seq (.region 7 [⟨some 4, .asg 0 (.const (.int .i64 (-1))) 3, none, []⟩] false) .ret)))
def slices_IndexFunc_impl_Form_impl_Form_of_impl_areAll_impl_Form__c1_p_L : Live := [(0, [0, 1]), (1, [0, 1]), (2, [0, 1, 7, 8]), (3, [0, 1, 7, 8]), (4, [0, 1, 5, 7, 8]), (5, [5]), (6, [0, 1, 7, 8]), (7, []), (100009, [0, 1, 7, 8, 9]), (100016, [0, 1, 5, 7, 8, 16])]
theorem slices_IndexFunc_impl_Form_impl_Form_of_impl_areAll_impl_Form__c1_p_body : Try.f166.body = some (Try.f166.body.getD .skip) := by kernel_rfl
theorem slices_IndexFunc_impl_Form_impl_Form_of_impl_areAll_impl_Form__c1_p_strip : strip [] (Try.f166.body.getD .skip) = slices_IndexFunc_impl_Form_impl_Form_of_impl_areAll_impl_Form__c1_p_c := by kernel_rfl
noncomputable def slices_IndexFunc_impl_Form_impl_Form_of_impl_areAll_impl_Form__c1_p_l1 (a0 : (List ((Vec Int 64) × (Vec Int 64)))) (a1c0c0 : Int) (a1c0c1 : (Vec Int 64)) (x33 : Int) : Option (Int ⊕ (Unit ⊕ Int)) :=
  (if (decide (x33 < (a0.length : Int))) then (ifp (0 ≤ x33 ∧ x33 < ((a0.length : Nat) : Int)) ((Option.bind (impl_areAll_impl_Form__c1_of_p (rd a0 x33.toNat) a1c0c0 a1c0c1) fun r46 => (if r46 then (some (.inr (.inr x33))) else (some (.inl (IntKind.i64.wrap (x33 + 1)))))))) else (some (.inr (((.inl ()))))))
noncomputable def slices_IndexFunc_impl_Form_impl_Form_of_impl_areAll_impl_Form__c1_p (a0 : (List ((Vec Int 64) × (Vec Int 64)))) (a1c0c0 : Int) (a1c0c1 : (Vec Int 64)) : Option Int :=
  (Option.bind (α := (Unit ⊕ Int)) ((loopM (fun s : Int => slices_IndexFunc_impl_Form_impl_Form_of_impl_areAll_impl_Form__c1_p_l1 a0 a1c0c0 a1c0c1 s) 0)) fun z => match z with | .inl _ => (some (-1)) | .inr r50 => (some r50))
set_option maxHeartbeats 16000000 in
theorem slices_IndexFunc_impl_Form_impl_Form_of_impl_areAll_impl_Form__c1_p_ok (a0 : (List ((Vec Int 64) × (Vec Int 64)))) (a1c0c0 : Int) (a1c0c1 : (Vec Int 64)) (r : Int) (h : slices_IndexFunc_impl_Form_impl_Form_of_impl_areAll_impl_Form__c1_p a0 a1c0c0 a1c0c1 = some r) : Den Try.prog 166 [(eST_A64u8_A64u8_Z a0), (.clo 164 [] [(.ref (.clo 148 [] [(.ref (.int .i64 a1c0c0) [] []), (.ref (eA64u8 a1c0c1) [] [])]) [] [])])] { r := (.int .i64 r) } := by
  refine den_of (rs := [(.int .i64 r)]) (ac := slices_IndexFunc_impl_Form_impl_Form_of_impl_areAll_impl_Form__c1_p_c) (L := slices_IndexFunc_impl_Form_impl_Form_of_impl_areAll_impl_Form__c1_p_L) (n := 19) (m := []) good Try.func166 slices_IndexFunc_impl_Form_impl_Form_of_impl_areAll_impl_Form__c1_p_body (by kernel_rfl) Try.ntmps166 rfl rfl slices_IndexFunc_impl_Form_impl_Form_of_impl_areAll_impl_Form__c1_p_strip rfl rfl ?_
  refine a_st (σ' := ⟨[(0, (eST_A64u8_A64u8_Z a0)), (1, (.clo 164 [] [(.ref (.clo 148 [] [(.ref (.int .i64 a1c0c0) [] []), (.ref (eA64u8 a1c0c1) [] [])]) [] [])]))], []⟩) (by kernel_rfl) ?_
  unfold slices_IndexFunc_impl_Form_impl_Form_of_impl_areAll_impl_Form__c1_p_c
  refine a_seq ?_
  refine a_region ?_
  refine a_val (v := (.int .i64 0)) (u := []) rfl trivial rfl ?_
  refine a_nil ?_
  refine a_next (σ' := ⟨[(0, (eST_A64u8_A64u8_Z a0)), (1, (.clo 164 [] [(.ref (.clo 148 [] [(.ref (.int .i64 a1c0c0) [] []), (.ref (eA64u8 a1c0c1) [] [])]) [] [])]))], []⟩) (by kernel_rfl) ?_
  obtain ⟨y24, hy25, hk26⟩ := bind_some h
  clear h
  refine a_join (emb := fun (s : Unit) => ⟨[], []⟩) (pre := fun s => (.inl s) = y24) ?_ ?_
  · rintro _ rfl
    have h := hk26
    refine a_st (σ' := ⟨[], []⟩) (by kernel_rfl) ?_
    refine a_seq ?_
    refine a_region ?_
    refine a_val (v := (.int .i64 (-1))) (u := []) rfl trivial rfl ?_
    refine a_nil ?_
    refine a_next rfl ?_
    refine a_ret ?_
    refine ⟨.inr rfl, ?_⟩
    rw [Try.results166]
    cases h
    exact ⟨_, _, _, _, _, rfl, trivial, .inl ⟨rfl, .inl rfl⟩, rfl, rfl⟩
  · have h := hy25
    refine a_seq ?_
    refine a_region ?_
    refine a_val (v := (eST_A64u8_A64u8_Z a0)) (u := []) rfl trivial rfl ?_
    refine a_val (v := (.int .i64 (a0.length : Int))) (u := []) (len_run rfl rfl) trivial rfl ?_
    refine a_val (v := (.int .i64 0)) (u := []) rfl trivial rfl ?_
    refine a_nil ?_
    refine a_next (σ' := ⟨[(0, (eST_A64u8_A64u8_Z a0)), (1, (.clo 164 [] [(.ref (.clo 148 [] [(.ref (.int .i64 a1c0c0) [] []), (.ref (eA64u8 a1c0c1) [] [])]) [] [])])), (7, (.int .i64 (a0.length : Int))), (8, (.int .i64 0))], []⟩) (by kernel_rfl) ?_
    refine a_block ?_
    refine a_loop (emb := fun (s : Int) => ⟨[(0, (eST_A64u8_A64u8_Z a0)), (1, (.clo 164 [] [(.ref (.clo 148 [] [(.ref (.int .i64 a1c0c0) [] []), (.ref (eA64u8 a1c0c1) [] [])]) [] [])])), (7, (.int .i64 (a0.length : Int))), (8, (.int .i64 s))], []⟩) (body := (fun s : Int => slices_IndexFunc_impl_Form_impl_Form_of_impl_areAll_impl_Form__c1_p_l1 a0 a1c0c0 a1c0c1 s)) (G := fun q => some q = some y24) h rfl ?_ (by kernel_rfl)
    rintro X40 x33 x41 h hX42
    have h : slices_IndexFunc_impl_Form_impl_Form_of_impl_areAll_impl_Form__c1_p_l1 a0 a1c0c0 a1c0c1 x33 = some x41 := h
    refine a_st (σ' := ⟨[(0, (eST_A64u8_A64u8_Z a0)), (1, (.clo 164 [] [(.ref (.clo 148 [] [(.ref (.int .i64 a1c0c0) [] []), (.ref (eA64u8 a1c0c1) [] [])]) [] [])])), (7, (.int .i64 (a0.length : Int))), (8, (.int .i64 x33))], []⟩) (by kernel_rfl) ?_
    refine a_seq ?_
    refine a_region ?_
    refine a_val (v := (.bool ((decide (x33 < (a0.length : Int)))))) (u := []) rfl trivial rfl ?_
    refine a_nil ?_
    refine a_next (σ' := ⟨[(0, (eST_A64u8_A64u8_Z a0)), (1, (.clo 164 [] [(.ref (.clo 148 [] [(.ref (.int .i64 a1c0c0) [] []), (.ref (eA64u8 a1c0c1) [] [])]) [] [])])), (7, (.int .i64 (a0.length : Int))), (8, (.int .i64 x33)), (9, (.bool ((decide (x33 < (a0.length : Int))))))], []⟩) (by kernel_rfl) ?_
    refine a_seq ?_
    cases hb43 : (decide (x33 < (a0.length : Int)))
    · have h := ite_f hb43 h
      refine a_cond_f rfl ?_
      refine a_exit ?_
      refine t_exit ?_
      cases h
      have h := hX42
      refine t_exit ?_
      refine b_exit ?_
      exact j_leaf () (Option.some.inj h) (by kernel_rfl)
    · have h := ite_t hb43 h
      refine a_cond_t rfl ?_
      refine a_skip ?_
      refine a_next (σ' := ⟨[(0, (eST_A64u8_A64u8_Z a0)), (1, (.clo 164 [] [(.ref (.clo 148 [] [(.ref (.int .i64 a1c0c0) [] []), (.ref (eA64u8 a1c0c1) [] [])]) [] [])])), (7, (.int .i64 (a0.length : Int))), (8, (.int .i64 x33))], []⟩) (by kernel_rfl) ?_
      refine a_seq ?_
      refine a_block ?_
      refine a_seq ?_
      refine a_region ?_
      refine a_val (v := (.int .i64 x33)) (u := []) rfl trivial rfl ?_
      refine a_val (v := (.int .i64 x33)) (u := []) rfl trivial rfl ?_
      refine a_nil ?_
      refine a_next (σ' := ⟨[(0, (eST_A64u8_A64u8_Z a0)), (1, (.clo 164 [] [(.ref (.clo 148 [] [(.ref (.int .i64 a1c0c0) [] []), (.ref (eA64u8 a1c0c1) [] [])]) [] [])])), (5, (.int .i64 x33)), (7, (.int .i64 (a0.length : Int))), (8, (.int .i64 x33))], []⟩) (by kernel_rfl) ?_
      refine a_seq ?_
      refine a_region ?_
      refine a_val (v := (.clo 164 [] [(.ref (.clo 148 [] [(.ref (.int .i64 a1c0c0) [] []), (.ref (eA64u8 a1c0c1) [] [])]) [] [])])) (u := []) rfl trivial rfl ?_
      refine a_val (v := (eST_A64u8_A64u8_Z a0)) (u := []) rfl trivial rfl ?_
      refine a_val (v := (.int .i64 x33)) (u := []) rfl trivial rfl ?_
      obtain ⟨hc44, h⟩ := ifp_some h
      refine a_val (v := (.ref (.row 128 (a0.map eT_A64u8_A64u8_Z)) [x33.toNat] [x33.toNat * 128])) (u := []) rfl (lmap hc44) rfl ?_
      have hl45 : LdOk [x33.toNat] (.row 128 (a0.map eT_A64u8_A64u8_Z)) [x33.toNat * 128] 128 true (eT_A64u8_A64u8_Z (rd a0 x33.toNat)) := (.row (llt hc44) rfl (.nil rfl rfl rfl))
      refine a_val (v := (eT_A64u8_A64u8_Z (rd a0 x33.toNat))) (u := []) (ld_ref (i := ⟨.struct [(0, 23), (64, 23)], 128, 128, (eT_A64u8_A64u8_Z ((vrep 64 (0 : Int)), (vrep 64 (0 : Int))))⟩) rfl rfl hl45) hl45.c rfl ?_
      obtain ⟨r46, hr47, h⟩ := bind_some h
      refine a_call (args := [(eT_A64u8_A64u8_Z (rd a0 x33.toNat)), (.ref (.clo 148 [] [(.ref (.int .i64 a1c0c0) [] []), (.ref (eA64u8 a1c0c1) [] [])]) [] [])]) (u := []) (r := (.bool r46)) rfl rfl (impl_areAll_impl_Form__c1_of_p_ok (rd a0 x33.toNat) a1c0c0 a1c0c1 r46 hr47) rfl ?_
      refine a_nil ?_
      refine a_next (σ' := ⟨[(0, (eST_A64u8_A64u8_Z a0)), (1, (.clo 164 [] [(.ref (.clo 148 [] [(.ref (.int .i64 a1c0c0) [] []), (.ref (eA64u8 a1c0c1) [] [])]) [] [])])), (5, (.int .i64 x33)), (7, (.int .i64 (a0.length : Int))), (8, (.int .i64 x33)), (16, (.bool r46))], []⟩) (by kernel_rfl) ?_
      cases hb48 : r46
      · have h := ite_f hb48 h
        refine a_cond_f rfl ?_
        refine a_skip ?_
        refine b_norm ?_
        refine a_next (σ' := ⟨[(0, (eST_A64u8_A64u8_Z a0)), (1, (.clo 164 [] [(.ref (.clo 148 [] [(.ref (.int .i64 a1c0c0) [] []), (.ref (eA64u8 a1c0c1) [] [])]) [] [])])), (7, (.int .i64 (a0.length : Int))), (8, (.int .i64 x33))], []⟩) (by kernel_rfl) ?_
        refine a_region ?_
        refine a_val (v := (.int .i64 (IntKind.i64.wrap (x33 + 1)))) (u := []) rfl trivial rfl ?_
        refine a_val (v := (.int .i64 (IntKind.i64.wrap (x33 + 1)))) (u := []) rfl trivial rfl ?_
        refine a_nil ?_
        cases h
        exact a_again (by kernel_rfl) hX42
      · have h := ite_t hb48 h
        refine a_cond_t rfl ?_
        refine a_seq ?_
        refine a_region ?_
        refine a_val (v := (.int .i64 x33)) (u := []) rfl trivial rfl ?_
        refine a_val (v := (.int .i64 x33)) (u := []) rfl trivial rfl ?_
        refine a_nil ?_
        refine a_next rfl ?_
        refine a_ret ?_
        refine b_ret ?_
        refine t_ret ?_
        cases h
        have h := hX42
        refine t_ret ?_
        refine b_ret ?_
        refine t_ret ?_
        cases h
        have h := hk26
        refine ⟨.inr rfl, ?_⟩
        rw [Try.results166]
        cases h
        exact ⟨_, _, _, _, _, rfl, trivial, .inl ⟨rfl, .inl rfl⟩, rfl, rfl⟩
def slices_ContainsFunc_impl_Form_impl_Form_of_impl_areAll_impl_Form__c1_p_c : ACode := (.seq (.region 0 [⟨some 4, .asg 0 (.const (.bool false)) 4, none, []⟩] false) (.seq (.region 1 [⟨some 5, .mov (.tmp 0), none, []⟩, ⟨some 6, .mov (.tmp 1), none, []⟩, ⟨some 7, .call 0 (.func 166) [(.tmp 5), (.tmp 6)], none, []⟩, ⟨some 8, .bin .geq 3 (.tmp 7) (.const (.int .i64 0)), none, []⟩, ⟨some 4, .asg 0 (.tmp 8) 4, none, []⟩] false) .ret))
def slices_ContainsFunc_impl_Form_impl_Form_of_impl_areAll_impl_Form__c1_p_L : Live := [(0, [0, 1]), (1, [0, 1])]
theorem slices_ContainsFunc_impl_Form_impl_Form_of_impl_areAll_impl_Form__c1_p_body : Try.f163.body = some (Try.f163.body.getD .skip) := by kernel_rfl
theorem slices_ContainsFunc_impl_Form_impl_Form_of_impl_areAll_impl_Form__c1_p_strip : strip [] (Try.f163.body.getD .skip) = slices_ContainsFunc_impl_Form_impl_Form_of_impl_areAll_impl_Form__c1_p_c := by kernel_rfl
noncomputable def slices_ContainsFunc_impl_Form_impl_Form_of_impl_areAll_impl_Form__c1_p (a0 : (List ((Vec Int 64) × (Vec Int 64)))) (a1c0c0 : Int) (a1c0c1 : (Vec Int 64)) : Option Bool :=
  (Option.bind (slices_IndexFunc_impl_Form_impl_Form_of_impl_areAll_impl_Form__c1_p a0 a1c0c0 a1c0c1) fun r1 => (some ((decide (r1 ≥ 0)))))
set_option maxHeartbeats 16000000 in
theorem slices_ContainsFunc_impl_Form_impl_Form_of_impl_areAll_impl_Form__c1_p_ok (a0 : (List ((Vec Int 64) × (Vec Int 64)))) (a1c0c0 : Int) (a1c0c1 : (Vec Int 64)) (r : Bool) (h : slices_ContainsFunc_impl_Form_impl_Form_of_impl_areAll_impl_Form__c1_p a0 a1c0c0 a1c0c1 = some r) : Den Try.prog 163 [(eST_A64u8_A64u8_Z a0), (.clo 164 [] [(.ref (.clo 148 [] [(.ref (.int .i64 a1c0c0) [] []), (.ref (eA64u8 a1c0c1) [] [])]) [] [])])] { r := (.bool r) } := by
  refine den_of (rs := [(.bool r)]) (ac := slices_ContainsFunc_impl_Form_impl_Form_of_impl_areAll_impl_Form__c1_p_c) (L := slices_ContainsFunc_impl_Form_impl_Form_of_impl_areAll_impl_Form__c1_p_L) (n := 9) (m := []) good Try.func163 slices_ContainsFunc_impl_Form_impl_Form_of_impl_areAll_impl_Form__c1_p_body (by kernel_rfl) Try.ntmps163 rfl rfl slices_ContainsFunc_impl_Form_impl_Form_of_impl_areAll_impl_Form__c1_p_strip rfl rfl ?_
  refine a_st (σ' := ⟨[(0, (eST_A64u8_A64u8_Z a0)), (1, (.clo 164 [] [(.ref (.clo 148 [] [(.ref (.int .i64 a1c0c0) [] []), (.ref (eA64u8 a1c0c1) [] [])]) [] [])]))], []⟩) (by kernel_rfl) ?_
  unfold slices_ContainsFunc_impl_Form_impl_Form_of_impl_areAll_impl_Form__c1_p_c
  refine a_seq ?_
  refine a_region ?_
  refine a_val (v := (.bool false)) (u := []) rfl trivial rfl ?_
  refine a_nil ?_
  refine a_next (σ' := ⟨[(0, (eST_A64u8_A64u8_Z a0)), (1, (.clo 164 [] [(.ref (.clo 148 [] [(.ref (.int .i64 a1c0c0) [] []), (.ref (eA64u8 a1c0c1) [] [])]) [] [])]))], []⟩) (by kernel_rfl) ?_
  refine a_seq ?_
  refine a_region ?_
  refine a_val (v := (eST_A64u8_A64u8_Z a0)) (u := []) rfl trivial rfl ?_
  refine a_val (v := (.clo 164 [] [(.ref (.clo 148 [] [(.ref (.int .i64 a1c0c0) [] []), (.ref (eA64u8 a1c0c1) [] [])]) [] [])])) (u := []) rfl trivial rfl ?_
  obtain ⟨r1, hr2, h⟩ := bind_some h
  refine a_call (args := [(eST_A64u8_A64u8_Z a0), (.clo 164 [] [(.ref (.clo 148 [] [(.ref (.int .i64 a1c0c0) [] []), (.ref (eA64u8 a1c0c1) [] [])]) [] [])])]) (u := []) (r := (.int .i64 r1)) rfl rfl (slices_IndexFunc_impl_Form_impl_Form_of_impl_areAll_impl_Form__c1_p_ok a0 a1c0c0 a1c0c1 r1 hr2) rfl ?_
  refine a_val (v := (.bool ((decide (r1 ≥ 0))))) (u := []) rfl trivial rfl ?_
  refine a_val (v := (.bool ((decide (r1 ≥ 0))))) (u := []) rfl trivial rfl ?_
  refine a_nil ?_
  refine a_next rfl ?_
  refine a_ret ?_
  refine ⟨.inr rfl, ?_⟩
  rw [Try.results163]
  cases h
  exact ⟨_, _, _, _, _, rfl, trivial, .inl ⟨rfl, .inl rfl⟩, rfl, rfl⟩
def impl_areAll_impl_Form_of_impl_formCode_c1_p_p_c : ACode := (.seq (.region 0 [⟨some 3, .box 145 (.tmp 1), none, []⟩, ⟨some 4, .asg 0 (.const (.bool false)) 4, none, []⟩] false) (.seq (.region 1 [⟨some 5, .mov (.tmp 0), none, []⟩, ⟨some 6, .mkfn 164 [] [(.tmp 3)], none, []⟩, ⟨some 7, .call 0 (.func 163) [(.tmp 5), (.tmp 6)], none, []⟩, ⟨some 8, .un .not (.tmp 7), none, []⟩, ⟨some 4, .asg 0 (.tmp 8) 4, none, []⟩] false) .ret))
def impl_areAll_impl_Form_of_impl_formCode_c1_p_p_L : Live := [(0, [0, 1]), (1, [0, 3])]
theorem impl_areAll_impl_Form_of_impl_formCode_c1_p_p_body : Try.f147.body = some (Try.f147.body.getD .skip) := by kernel_rfl
theorem impl_areAll_impl_Form_of_impl_formCode_c1_p_p_strip : strip [] (Try.f147.body.getD .skip) = impl_areAll_impl_Form_of_impl_formCode_c1_p_p_c := by kernel_rfl
noncomputable def impl_areAll_impl_Form_of_impl_formCode_c1_p_p (a0 : (List ((Vec Int 64) × (Vec Int 64)))) (a1c0 : Int) (a1c1 : (Vec Int 64)) : Option Bool :=
  (Option.bind (slices_ContainsFunc_impl_Form_impl_Form_of_impl_areAll_impl_Form__c1_p a0 a1c0 a1c1) fun r1 => (some (!r1)))
set_option maxHeartbeats 16000000 in
theorem impl_areAll_impl_Form_of_impl_formCode_c1_p_p_ok (a0 : (List ((Vec Int 64) × (Vec Int 64)))) (a1c0 : Int) (a1c1 : (Vec Int 64)) (r : Bool) (h : impl_areAll_impl_Form_of_impl_formCode_c1_p_p a0 a1c0 a1c1 = some r) : Den Try.prog 147 [(eST_A64u8_A64u8_Z a0), (.clo 148 [] [(.ref (.int .i64 a1c0) [] []), (.ref (eA64u8 a1c1) [] [])])] { r := (.bool r) } := by
  refine den_of (rs := [(.bool r)]) (ac := impl_areAll_impl_Form_of_impl_formCode_c1_p_p_c) (L := impl_areAll_impl_Form_of_impl_formCode_c1_p_p_L) (n := 9) (m := []) good Try.func147 impl_areAll_impl_Form_of_impl_formCode_c1_p_p_body (by kernel_rfl) Try.ntmps147 rfl rfl impl_areAll_impl_Form_of_impl_formCode_c1_p_p_strip rfl rfl ?_
  refine a_st (σ' := ⟨[(0, (eST_A64u8_A64u8_Z a0)), (1, (.clo 148 [] [(.ref (.int .i64 a1c0) [] []), (.ref (eA64u8 a1c1) [] [])]))], []⟩) (by kernel_rfl) ?_
  unfold impl_areAll_impl_Form_of_impl_formCode_c1_p_p_c
  refine a_seq ?_
  refine a_region ?_
  refine a_val (v := (.own 1300 [] [])) (u := [(1300, some ⟨(.clo 148 [] [(.ref (.int .i64 a1c0) [] []), (.ref (eA64u8 a1c1) [] [])]), false⟩)]) rfl trivial rfl ?_
  refine a_val (v := (.bool false)) (u := []) rfl trivial rfl ?_
  refine a_nil ?_
  refine a_next (σ' := ⟨[(0, (eST_A64u8_A64u8_Z a0)), (3, (.own 3 [] []))], [(3, some ⟨(.clo 148 [] [(.ref (.int .i64 a1c0) [] []), (.ref (eA64u8 a1c1) [] [])]), false⟩)]⟩) (by kernel_rfl) ?_
  refine a_seq ?_
  refine a_region ?_
  refine a_val (v := (eST_A64u8_A64u8_Z a0)) (u := []) rfl trivial rfl ?_
  refine a_val (v := (.clo 164 [] [(.ref (.clo 148 [] [(.ref (.int .i64 a1c0) [] []), (.ref (eA64u8 a1c1) [] [])]) [] [])])) (u := [(3, some ⟨(.clo 148 [] [(.ref (.int .i64 a1c0) [] []), (.ref (eA64u8 a1c1) [] [])]), true⟩)]) rfl ⟨all_nil, (all_cons ⟨rfl, rfl⟩ all_nil)⟩ rfl ?_
  obtain ⟨r1, hr2, h⟩ := bind_some h
  refine a_call (args := [(eST_A64u8_A64u8_Z a0), (.clo 164 [] [(.ref (.clo 148 [] [(.ref (.int .i64 a1c0) [] []), (.ref (eA64u8 a1c1) [] [])]) [] [])])]) (u := []) (r := (.bool r1)) rfl rfl (slices_ContainsFunc_impl_Form_impl_Form_of_impl_areAll_impl_Form__c1_p_ok a0 a1c0 a1c1 r1 hr2) rfl ?_
  refine a_val (v := (.bool (!r1))) (u := []) rfl trivial rfl ?_
  refine a_val (v := (.bool (!r1))) (u := []) rfl trivial rfl ?_
  refine a_nil ?_
  refine a_next rfl ?_
  refine a_ret ?_
  refine ⟨.inr rfl, ?_⟩
  rw [Try.results147]
  cases h
  exact ⟨_, _, _, _, _, rfl, trivial, .inl ⟨rfl, .inl rfl⟩, rfl, rfl⟩
def impl_curve_genus_c : ACode := (.seq (.region 0 [⟨some 1, .box 129 (.tmp 0), none, []⟩, ⟨some 2, .asg 0 (.const (.int .i64 0)) 2, none, []⟩] false) (.seq (.region 1 [⟨some 3, .fieldAddr 129 (.tmp 1) 1, none, []⟩, ⟨some 4, .load 64 (.tmp 3), none, []⟩, ⟨some 5, .call 0 (.func 89) [(.tmp 4)], none, []⟩, ⟨some 6, .bin .sub 2 (.tmp 5) (.const (.int .i64 1)), none, []⟩, ⟨some 7, .bin .quo 2 (.tmp 6) (.const (.int .i64 2)), none, []⟩, ⟨some 2, .asg 0 (.tmp 7) 2, none, []⟩] false) .ret))
def impl_curve_genus_L : Live := [(0, [0]), (1, [1])]
theorem impl_curve_genus_body : Try.f153.body = some (Try.f153.body.getD .skip) := by kernel_rfl
theorem impl_curve_genus_strip : strip [] (Try.f153.body.getD .skip) = impl_curve_genus_c := by kernel_rfl
noncomputable def impl_curve_genus (a0 : (Int × (List Int))) : Option Int :=
  (Option.bind (impl_row_degree a0.2) fun r2 => (some (IntKind.i64.wrap (Int.tdiv (IntKind.i64.wrap (r2 - 1)) 2))))
set_option maxHeartbeats 16000000 in
theorem impl_curve_genus_ok (a0 : (Int × (List Int))) (r : Int) (h : impl_curve_genus a0 = some r) : Den Try.prog 153 [(eT_i64_Si64_Z a0)] { r := (.int .i64 r) } := by
  refine den_of (rs := [(.int .i64 r)]) (ac := impl_curve_genus_c) (L := impl_curve_genus_L) (n := 8) (m := []) good Try.func153 impl_curve_genus_body (by kernel_rfl) Try.ntmps153 rfl rfl impl_curve_genus_strip rfl rfl ?_
  refine a_st (σ' := ⟨[(0, (eT_i64_Si64_Z a0))], []⟩) (by kernel_rfl) ?_
  unfold impl_curve_genus_c
  refine a_seq ?_
  refine a_region ?_
  refine a_val (v := (.own 1100 [] [])) (u := [(1100, some ⟨(eT_i64_Si64_Z a0), false⟩)]) rfl trivial rfl ?_
  refine a_val (v := (.int .i64 0)) (u := []) rfl trivial rfl ?_
  refine a_nil ?_
  refine a_next (σ' := ⟨[(1, (.own 1 [] []))], [(1, some ⟨(eT_i64_Si64_Z a0), false⟩)]⟩) (by kernel_rfl) ?_
  refine a_seq ?_
  refine a_region ?_
  refine a_val (v := (.own 1 [1] [1])) (u := []) rfl (Nat.le_of_ble_eq_true rfl) rfl ?_
  have hl1 : LdOk [1] (eT_i64_Si64_Z a0) [1] 1 false (eSi64 a0.2) := (.fld rfl rfl rfl rfl (.nil rfl rfl rfl))
  refine a_val (v := (eSi64 a0.2)) (u := []) (ld_own (i := ⟨.slice 2, 1, 24, (eSi64 [])⟩) rfl rfl rfl hl1) hl1.c rfl ?_
  obtain ⟨r2, hr3, h⟩ := bind_some h
  refine a_call (args := [(eSi64 a0.2)]) (u := []) (r := (.int .i64 r2)) rfl rfl (impl_row_degree_ok a0.2 r2 hr3) rfl ?_
  refine a_val (v := (.int .i64 (IntKind.i64.wrap (r2 - 1)))) (u := []) rfl trivial rfl ?_
  refine a_val (v := (.int .i64 (IntKind.i64.wrap (Int.tdiv (IntKind.i64.wrap (r2 - 1)) 2)))) (u := []) rfl (by decide) rfl ?_
  refine a_val (v := (.int .i64 (IntKind.i64.wrap (Int.tdiv (IntKind.i64.wrap (r2 - 1)) 2)))) (u := []) rfl trivial rfl ?_
  refine a_nil ?_
  refine a_next rfl ?_
  refine a_ret ?_
  refine ⟨.inr rfl, ?_⟩
  rw [Try.results153]
  cases h
  exact ⟨_, _, _, _, _, rfl, trivial, .inl ⟨rfl, .inl rfl⟩, rfl, rfl⟩
def impl_curve_isReduced_c : ACode := (.seq (.region 0 [⟨some 2, .box 129 (.tmp 0), none, []⟩, ⟨some 3, .box 133 (.tmp 1), none, []⟩, ⟨some 4, .asg 0 (.const (.bool false)) 4, none, []⟩] false) (.seq (.region 1 [⟨some 5, .fieldAddr 133 (.tmp 3) 0, none, []⟩, ⟨some 6, .load 64 (.tmp 5), none, [0]⟩, ⟨some 7, .call 0 (.func 89) [(.tmp 6)], none, [1]⟩, ⟨some 8, .load 129 (.tmp 2), none, []⟩, ⟨some 9, .call 0 (.func 153) [(.tmp 8)], none, [3, 2]⟩, ⟨some 10, .bin .leq 2 (.tmp 7) (.tmp 9), none, [2, 4]⟩, ⟨some 4, .asg 0 (.tmp 10) 4, none, [5, 4, 0, 1, 2, 3, 4, 5]⟩] true) .ret))
def impl_curve_isReduced_L : Live := [(0, [0, 1]), (1, [2, 3])]
theorem impl_curve_isReduced_body : Try.f151.body = some (Try.f151.body.getD .skip) := by kernel_rfl
theorem impl_curve_isReduced_strip : strip [] (Try.f151.body.getD .skip) = impl_curve_isReduced_c := by kernel_rfl
noncomputable def impl_curve_isReduced (a0 : (Int × (List Int))) (a1 : ((List Int) × (List Int))) : Option Bool :=
  (Option.bind (impl_row_degree a1.1) fun r8 => (Option.bind (impl_curve_genus a0) fun r11 => (some ((decide (r8 ≤ r11))))))
set_option maxHeartbeats 16000000 in
theorem impl_curve_isReduced_ok (a0 : (Int × (List Int))) (a1 : ((List Int) × (List Int))) (r : Bool) (h : impl_curve_isReduced a0 a1 = some r) : Den Try.prog 151 [(eT_i64_Si64_Z a0), (eT_Si64_Si64_Z a1)] { r := (.bool r) } := by
  refine den_of (rs := [(.bool r)]) (ac := impl_curve_isReduced_c) (L := impl_curve_isReduced_L) (n := 11) (m := []) good Try.func151 impl_curve_isReduced_body (by kernel_rfl) Try.ntmps151 rfl rfl impl_curve_isReduced_strip rfl rfl ?_
  refine a_st (σ' := ⟨[(0, (eT_i64_Si64_Z a0)), (1, (eT_Si64_Si64_Z a1))], []⟩) (by kernel_rfl) ?_
  unfold impl_curve_isReduced_c
  refine a_seq ?_
  refine a_region ?_
  refine a_val (v := (.own 1200 [] [])) (u := [(1200, some ⟨(eT_i64_Si64_Z a0), false⟩)]) rfl trivial rfl ?_
  refine a_val (v := (.own 1300 [] [])) (u := [(1300, some ⟨(eT_Si64_Si64_Z a1), false⟩)]) rfl trivial rfl ?_
  refine a_val (v := (.bool false)) (u := []) rfl trivial rfl ?_
  refine a_nil ?_
  refine a_next (σ' := ⟨[(2, (.own 2 [] [])), (3, (.own 3 [] []))], [(2, some ⟨(eT_i64_Si64_Z a0), false⟩), (3, some ⟨(eT_Si64_Si64_Z a1), false⟩)]⟩) (by kernel_rfl) ?_
  refine a_seq ?_
  refine a_draw [⟨[3], [], [3], []⟩, ⟨[3], [], [], [0]⟩, ⟨[], [], [], [0, 1]⟩, ⟨[2], [], [], []⟩, ⟨[], [], [], [0, 1, 2, 3]⟩, ⟨[], [], [], [0, 1, 2, 3, 4]⟩, ⟨[], [], [], [0, 1, 2, 3, 4, 5]⟩] (by kernel_rfl) ?_
  refine d_cons ?_
  refine a_val (v := (.own 3 [0] [0])) (u := []) rfl (Nat.le_of_ble_eq_true rfl) rfl ?_
  refine d_next (by kernel_rfl) ?_
  refine d_cons ?_
  have hl7 : LdOk [0] (eT_Si64_Si64_Z a1) [0] 1 false (eSi64 a1.1) := (.fld rfl rfl rfl rfl (.nil rfl rfl rfl))
  refine a_val (v := (eSi64 a1.1)) (u := []) (ld_own (i := ⟨.slice 2, 1, 24, (eSi64 [])⟩) rfl rfl rfl hl7) hl7.c rfl ?_
  refine d_next (by kernel_rfl) ?_
  refine d_cons ?_
  obtain ⟨r8, hr9, h⟩ := bind_some h
  refine a_call (args := [(eSi64 a1.1)]) (u := []) (r := (.int .i64 r8)) rfl rfl (impl_row_degree_ok a1.1 r8 hr9) rfl ?_
  refine d_next (by kernel_rfl) ?_
  refine d_cons ?_
  have hl10 : LdOk [] (eT_i64_Si64_Z a0) [] 2 true (eT_i64_Si64_Z a0) := (.nil rfl rfl rfl)
  refine a_val (v := (eT_i64_Si64_Z a0)) (u := []) (ld_own (i := ⟨.struct [(0, 63), (1, 64)], 2, 32, (eT_i64_Si64_Z ((0 : Int), []))⟩) rfl rfl rfl hl10) hl10.c rfl ?_
  refine d_next (by kernel_rfl) ?_
  refine d_cons ?_
  obtain ⟨r11, hr12, h⟩ := bind_some h
  refine a_call (args := [(eT_i64_Si64_Z a0)]) (u := []) (r := (.int .i64 r11)) rfl rfl (impl_curve_genus_ok a0 r11 hr12) rfl ?_
  refine d_next (by kernel_rfl) ?_
  refine d_cons ?_
  refine a_val (v := (.bool ((decide (r8 ≤ r11))))) (u := []) rfl trivial rfl ?_
  refine d_next (by kernel_rfl) ?_
  refine d_cons ?_
  refine a_val (v := (.bool ((decide (r8 ≤ r11))))) (u := []) rfl trivial rfl ?_
  refine d_next (by kernel_rfl) ?_
  refine d_nil ?_
  refine a_next rfl ?_
  refine a_ret ?_
  refine ⟨.inr rfl, ?_⟩
  rw [Try.results151]
  cases h
  exact ⟨_, _, _, _, _, rfl, trivial, .inl ⟨rfl, .inl rfl⟩, rfl, rfl⟩
def impl_formCode_c2_of_p_p_c : ACode := (.seq (.region 0 [⟨some 3, .box 124 (.tmp 0), none, []⟩, ⟨some 4, .asg 0 (.const (.bool false)) 4, none, []⟩] false) (.seq (.region 1 [⟨some 5, .load 2 (.tmp 1), none, []⟩, ⟨some 6, .load 23 (.tmp 2), none, []⟩, ⟨some 7, .call 0 (.func 130) [(.tmp 5), (.tmp 6)], none, [0, 1]⟩, ⟨some 8, .load 124 (.tmp 3), none, []⟩, ⟨some 9, .call 0 (.func 152) [(.tmp 8)], none, [3, 2]⟩, ⟨some 10, .call 0 (.func 151) [(.tmp 7), (.tmp 9)], none, [2, 4, 4]⟩, ⟨some 4, .asg 0 (.tmp 10) 4, none, [5, 5, 0, 1, 2, 3, 4, 5]⟩] true) .ret))
def impl_formCode_c2_of_p_p_L : Live := [(0, [0, 1, 2]), (1, [1, 2, 3])]
theorem impl_formCode_c2_of_p_p_body : Try.f150.body = some (Try.f150.body.getD .skip) := by kernel_rfl
theorem impl_formCode_c2_of_p_p_strip : strip [] (Try.f150.body.getD .skip) = impl_formCode_c2_of_p_p_c := by kernel_rfl
noncomputable def impl_formCode_c2_of_p_p (a0 : ((Vec Int 64) × (Vec Int 64))) (a1 : Int) (a2 : (Vec Int 64)) : Option Bool :=
  (Option.bind (impl_curveOf a1 a2) fun r12 => (Option.bind (impl_formOf a0) fun r15 => (Option.bind (impl_curve_isReduced r12 r15) fun r17 => (some r17))))
set_option maxHeartbeats 16000000 in
theorem impl_formCode_c2_of_p_p_ok (a0 : ((Vec Int 64) × (Vec Int 64))) (a1 : Int) (a2 : (Vec Int 64)) (r : Bool) (h : impl_formCode_c2_of_p_p a0 a1 a2 = some r) : Den Try.prog 150 [(eT_A64u8_A64u8_Z a0), (.ref (.int .i64 a1) [] []), (.ref (eA64u8 a2) [] [])] { r := (.bool r) } := by
  refine den_of (rs := [(.bool r)]) (ac := impl_formCode_c2_of_p_p_c) (L := impl_formCode_c2_of_p_p_L) (n := 11) (m := []) good Try.func150 impl_formCode_c2_of_p_p_body (by kernel_rfl) Try.ntmps150 rfl rfl impl_formCode_c2_of_p_p_strip rfl rfl ?_
  refine a_st (σ' := ⟨[(0, (eT_A64u8_A64u8_Z a0)), (1, (.ref (.int .i64 a1) [] [])), (2, (.ref (eA64u8 a2) [] []))], []⟩) (by kernel_rfl) ?_
  unfold impl_formCode_c2_of_p_p_c
  refine a_seq ?_
  refine a_region ?_
  refine a_val (v := (.own 1300 [] [])) (u := [(1300, some ⟨(eT_A64u8_A64u8_Z a0), false⟩)]) rfl trivial rfl ?_
  refine a_val (v := (.bool false)) (u := []) rfl trivial rfl ?_
  refine a_nil ?_
  refine a_next (σ' := ⟨[(1, (.ref (.int .i64 a1) [] [])), (2, (.ref (eA64u8 a2) [] [])), (3, (.own 3 [] []))], [(3, some ⟨(eT_A64u8_A64u8_Z a0), false⟩)]⟩) (by kernel_rfl) ?_
  refine a_seq ?_
  refine a_draw [⟨[], [], [], []⟩, ⟨[], [], [], []⟩, ⟨[], [], [], [0, 1]⟩, ⟨[3], [], [], []⟩, ⟨[], [], [], [0, 1, 2, 3]⟩, ⟨[], [], [], [0, 1, 2, 3, 4]⟩, ⟨[], [], [], [0, 1, 2, 3, 4, 5]⟩] (by kernel_rfl) ?_
  refine d_cons ?_
  have hl10 : LdOk [] (.int .i64 a1) [] 1 false (.int .i64 a1) := (.nil rfl rfl rfl)
  refine a_val (v := (.int .i64 a1)) (u := []) (ld_ref (i := ⟨.int .i64, 1, 8, (.int .i64 0)⟩) rfl rfl hl10) hl10.c rfl ?_
  refine d_next (by kernel_rfl) ?_
  refine d_cons ?_
  have hl11 : LdOk [] (eA64u8 a2) [] 64 true (eA64u8 a2) := (.nil rfl rfl rfl)
  refine a_val (v := (eA64u8 a2)) (u := []) (ld_ref (i := ⟨.arr 64 5, 64, 64, (eA64u8 (vrep 64 (0 : Int)))⟩) rfl rfl hl11) hl11.c rfl ?_
  refine d_next (by kernel_rfl) ?_
  refine d_cons ?_
  obtain ⟨r12, hr13, h⟩ := bind_some h
  refine a_call (args := [(.int .i64 a1), (eA64u8 a2)]) (u := []) (r := (eT_i64_Si64_Z r12)) rfl rfl (impl_curveOf_ok a1 a2 r12 hr13) rfl ?_
  refine d_next (by kernel_rfl) ?_
  refine d_cons ?_
  have hl14 : LdOk [] (eT_A64u8_A64u8_Z a0) [] 128 true (eT_A64u8_A64u8_Z a0) := (.nil rfl rfl rfl)
  refine a_val (v := (eT_A64u8_A64u8_Z a0)) (u := []) (ld_own (i := ⟨.struct [(0, 23), (64, 23)], 128, 128, (eT_A64u8_A64u8_Z ((vrep 64 (0 : Int)), (vrep 64 (0 : Int))))⟩) rfl rfl rfl hl14) hl14.c rfl ?_
  refine d_next (by kernel_rfl) ?_
  refine d_cons ?_
  obtain ⟨r15, hr16, h⟩ := bind_some h
  refine a_call (args := [(eT_A64u8_A64u8_Z a0)]) (u := []) (r := (eT_Si64_Si64_Z r15)) rfl rfl (impl_formOf_ok a0 r15 hr16) rfl ?_
  refine d_next (by kernel_rfl) ?_
  refine d_cons ?_
  obtain ⟨r17, hr18, h⟩ := bind_some h
  refine a_call (args := [(eT_i64_Si64_Z r12), (eT_Si64_Si64_Z r15)]) (u := []) (r := (.bool r17)) rfl rfl (impl_curve_isReduced_ok r12 r15 r17 hr18) rfl ?_
  refine d_next (by kernel_rfl) ?_
  refine d_cons ?_
  refine a_val (v := (.bool r17)) (u := []) rfl trivial rfl ?_
  refine d_next (by kernel_rfl) ?_
  refine d_nil ?_
  refine a_next rfl ?_
  refine a_ret ?_
  refine ⟨.inr rfl, ?_⟩
  rw [Try.results150]
  cases h
  exact ⟨_, _, _, _, _, rfl, trivial, .inl ⟨rfl, .inl rfl⟩, rfl, rfl⟩
def impl_areAll_impl_Form__c1_of_p_2_c : ACode := (.seq (.region 0 [⟨some 2, .box 124 (.tmp 0), none, []⟩, ⟨some 3, .asg 0 (.const (.bool false)) 4, none, []⟩] false) (.seq (.region 1 [⟨some 4, .load 145 (.tmp 1), none, []⟩, ⟨some 5, .load 124 (.tmp 2), none, []⟩, ⟨some 6, .call 0 (.tmp 4) [(.tmp 5)], none, []⟩, ⟨some 7, .un .not (.tmp 6), none, []⟩, ⟨some 3, .asg 0 (.tmp 7) 4, none, []⟩] false) .ret))
def impl_areAll_impl_Form__c1_of_p_2_L : Live := [(0, [0, 1]), (1, [1, 2])]
theorem impl_areAll_impl_Form__c1_of_p_2_body : Try.f164.body = some (Try.f164.body.getD .skip) := by kernel_rfl
theorem impl_areAll_impl_Form__c1_of_p_2_strip : strip [] (Try.f164.body.getD .skip) = impl_areAll_impl_Form__c1_of_p_2_c := by kernel_rfl
noncomputable def impl_areAll_impl_Form__c1_of_p_2 (a0 : ((Vec Int 64) × (Vec Int 64))) (a1c0 : Int) (a1c1 : (Vec Int 64)) : Option Bool :=
  (Option.bind (impl_formCode_c2_of_p_p a0 a1c0 a1c1) fun r3 => (some (!r3)))
set_option maxHeartbeats 16000000 in
theorem impl_areAll_impl_Form__c1_of_p_2_ok (a0 : ((Vec Int 64) × (Vec Int 64))) (a1c0 : Int) (a1c1 : (Vec Int 64)) (r : Bool) (h : impl_areAll_impl_Form__c1_of_p_2 a0 a1c0 a1c1 = some r) : Den Try.prog 164 [(eT_A64u8_A64u8_Z a0), (.ref (.clo 150 [] [(.ref (.int .i64 a1c0) [] []), (.ref (eA64u8 a1c1) [] [])]) [] [])] { r := (.bool r) } := by
  refine den_of (rs := [(.bool r)]) (ac := impl_areAll_impl_Form__c1_of_p_2_c) (L := impl_areAll_impl_Form__c1_of_p_2_L) (n := 8) (m := []) good Try.func164 impl_areAll_impl_Form__c1_of_p_2_body (by kernel_rfl) Try.ntmps164 rfl rfl impl_areAll_impl_Form__c1_of_p_2_strip rfl rfl ?_
  refine a_st (σ' := ⟨[(0, (eT_A64u8_A64u8_Z a0)), (1, (.ref (.clo 150 [] [(.ref (.int .i64 a1c0) [] []), (.ref (eA64u8 a1c1) [] [])]) [] []))], []⟩) (by kernel_rfl) ?_
  unfold impl_areAll_impl_Form__c1_of_p_2_c
  refine a_seq ?_
  refine a_region ?_
  refine a_val (v := (.own 1200 [] [])) (u := [(1200, some ⟨(eT_A64u8_A64u8_Z a0), false⟩)]) rfl trivial rfl ?_
  refine a_val (v := (.bool false)) (u := []) rfl trivial rfl ?_
  refine a_nil ?_
  refine a_next (σ' := ⟨[(1, (.ref (.clo 150 [] [(.ref (.int .i64 a1c0) [] []), (.ref (eA64u8 a1c1) [] [])]) [] [])), (2, (.own 2 [] []))], [(2, some ⟨(eT_A64u8_A64u8_Z a0), false⟩)]⟩) (by kernel_rfl) ?_
  refine a_seq ?_
  refine a_region ?_
  have hl1 : LdOk [] (.clo 150 [] [(.ref (.int .i64 a1c0) [] []), (.ref (eA64u8 a1c1) [] [])]) [] 1 false (.clo 150 [] [(.ref (.int .i64 a1c0) [] []), (.ref (eA64u8 a1c1) [] [])]) := (.nil rfl rfl rfl)
  refine a_val (v := (.clo 150 [] [(.ref (.int .i64 a1c0) [] []), (.ref (eA64u8 a1c1) [] [])])) (u := []) (ld_ref (i := ⟨.other, 1, 8, (.raw .nilFunc)⟩) rfl rfl hl1) hl1.c rfl ?_
  have hl2 : LdOk [] (eT_A64u8_A64u8_Z a0) [] 128 true (eT_A64u8_A64u8_Z a0) := (.nil rfl rfl rfl)
  refine a_val (v := (eT_A64u8_A64u8_Z a0)) (u := []) (ld_own (i := ⟨.struct [(0, 23), (64, 23)], 128, 128, (eT_A64u8_A64u8_Z ((vrep 64 (0 : Int)), (vrep 64 (0 : Int))))⟩) rfl rfl rfl hl2) hl2.c rfl ?_
  obtain ⟨r3, hr4, h⟩ := bind_some h
  refine a_call (args := [(eT_A64u8_A64u8_Z a0), (.ref (.int .i64 a1c0) [] []), (.ref (eA64u8 a1c1) [] [])]) (u := []) (r := (.bool r3)) rfl rfl (impl_formCode_c2_of_p_p_ok a0 a1c0 a1c1 r3 hr4) rfl ?_
  refine a_val (v := (.bool (!r3))) (u := []) rfl trivial rfl ?_
  refine a_val (v := (.bool (!r3))) (u := []) rfl trivial rfl ?_
  refine a_nil ?_
  refine a_next rfl ?_
  refine a_ret ?_
  refine ⟨.inr rfl, ?_⟩
  rw [Try.results164]
  cases h
  exact ⟨_, _, _, _, _, rfl, trivial, .inl ⟨rfl, .inl rfl⟩, rfl, rfl⟩
end Go.Proofs.Ytgodhgbnjlflmaa
