/- Functions of the program: plain Lean functions, and that the program computes them. Printed by gen.py. -/
import Derived.Test.YtdhcpekngpndnaaFnT
import Derived.Test.YtdhcpekngpndnaaFn3
import Derived.Test.YtdhcpekngpndnaaFn4
namespace Go.Proofs.Ytdhcpekngpndnaa
open Go.Abs Go.Proofs
set_option linter.unusedSimpArgs false
set_option linter.unusedVariables false
set_option maxHeartbeats 16000000
attribute [local irreducible] Abs.acode Abs.aops Abs.aopsT Abs.thenK Abs.blockK

def impl_curve_isForm_c : ACode := (.seq (.region 0 [q 2 (.box 68 (t 0)), q 3 (.box 72 (t 1)), q 4 (.asg 0 (.const (.bool false)) 4)] false) (.seq (.region 1 [q 5 (.fieldAddr 72 (t 3) 0), ⟨some 6, .load 66 (t 5), none, [0]⟩, ⟨some 7, .call 0 (.func 85) [(t 6)], none, [1]⟩, ⟨some 8, .bin .eql 2 (t 7) (.const (.int .i64 1)), none, [2]⟩, ⟨some 9, .mov (t 8), none, [3, 2]⟩, ⟨some 10, .fieldAddr 72 (t 3) 0, some (9, true), [4]⟩, ⟨some 11, .load 66 (t 10), some (9, true), [5, 4]⟩, ⟨some 12, .call 0 (.func 69) [(t 11)], some (9, true), [6, 4, 4]⟩, ⟨some 13, .bin .leq 2 (t 12) (.const (.int .i64 12)), some (9, true), [7, 4]⟩, ⟨some 14, .pick (t 9) (t 13) (.const (.bool false)), none, [4, 8]⟩, ⟨some 15, .mov (t 14), none, [9, 7]⟩, ⟨some 16, .fieldAddr 72 (t 3) 1, some (15, true), [10]⟩, ⟨some 17, .load 66 (t 16), some (15, true), [11, 10]⟩, ⟨some 18, .call 0 (.func 69) [(t 17)], some (15, true), [12, 10, 10]⟩, ⟨some 19, .fieldAddr 72 (t 3) 0, some (15, true), [10]⟩, ⟨some 20, .load 66 (t 19), some (15, true), [14, 10]⟩, ⟨some 21, .call 0 (.func 69) [(t 20)], some (15, true), [15, 13, 10]⟩, ⟨some 22, .bin .lss 2 (t 18) (t 21), some (15, true), [13, 16, 10]⟩, ⟨some 23, .pick (t 15) (t 22) (.const (.bool false)), none, [10, 17]⟩, ⟨some 24, .mov (t 23), none, [18, 16]⟩, ⟨some 25, .fieldAddr 68 (t 2) 0, some (24, true), [19]⟩, ⟨some 26, .load 65 (t 25), some (24, true), [20, 19]⟩, ⟨some 27, .fieldAddr 68 (t 2) 0, some (24, true), [19]⟩, ⟨some 28, .load 65 (t 27), some (24, true), [22, 19]⟩, ⟨some 29, .fieldAddr 68 (t 2) 0, some (24, true), [19]⟩, ⟨some 30, .load 65 (t 29), some (24, true), [24, 19]⟩, ⟨some 31, .fieldAddr 72 (t 3) 1, some (24, true), [19]⟩, ⟨some 32, .load 66 (t 31), some (24, true), [26, 19]⟩, ⟨some 33, .fieldAddr 72 (t 3) 1, some (24, true), [19]⟩, ⟨some 34, .load 66 (t 33), some (24, true), [28, 19]⟩, ⟨some 35, .call 0 (.func 101) [(t 30), (t 32), (t 34)], some (24, true), [25, 27, 29, 19, 19]⟩, ⟨some 36, .fieldAddr 68 (t 2) 1, some (24, true), [19]⟩, ⟨some 37, .load 66 (t 36), some (24, true), [31, 19]⟩, ⟨some 38, .call 0 (.func 99) [(t 28), (t 35), (t 37), (.const (.int .i64 (-1)))], some (24, true), [23, 30, 32, 30, 19]⟩, ⟨some 39, .fieldAddr 72 (t 3) 0, some (24, true), [19]⟩, ⟨some 40, .load 66 (t 39), some (24, true), [34, 19]⟩, ⟨some 41, .call 0 (.func 100) [(t 26), (t 38), (t 40)], some (24, true), [21, 33, 35, 33, 19]⟩, ⟨some 42, .blt 0 .len [(t 41)] [66], some (24, true), [36, 19]⟩, ⟨some 43, .bin .eql 3 (t 42) (.const (.int .i64 0)), some (24, true), [37, 19]⟩, ⟨some 44, .pick (t 24) (t 43) (.const (.bool false)), none, [19, 38]⟩, ⟨some 45, .mov (t 44), none, [39, 36]⟩, ⟨some 46, .fieldAddr 72 (t 3) 0, some (45, false), [40]⟩, ⟨some 47, .load 66 (t 46), some (45, false), [41, 40]⟩, ⟨some 48, .call 0 (.func 134) [(t 47)], some (45, false), [42, 40, 40]⟩, ⟨some 49, .mov (t 48), some (45, false), [43, 43, 40]⟩, ⟨some 50, .fieldAddr 72 (t 3) 1, some (49, true), [44]⟩, ⟨some 51, .load 66 (t 50), some (49, true), [45, 44]⟩, ⟨some 52, .blt 0 .len [(t 51)] [66], some (49, true), [46, 44]⟩, ⟨some 53, .bin .eql 3 (t 52) (.const (.int .i64 0)), some (49, true), [47, 44]⟩, ⟨some 54, .pick (t 49) (t 53) (.const (.bool false)), some (45, false), [44, 48, 40]⟩, ⟨some 55, .pick (t 45) (.const (.bool true)) (t 54), none, [40, 49]⟩, ⟨some 4, .asg 0 (t 55) 4, none, [50, 44, 0, 1, 2, 3, 4, 5, 6, 7, 8, 9, 10, 11, 12, 13, 14, 15, 16, 17, 18, 19, 20, 21, 22, 23, 24, 25, 26, 27, 28, 29, 30, 31, 32, 33, 34, 35, 36, 37, 38, 39, 40, 41, 42, 43, 44, 45, 46, 47, 48, 49, 50]⟩] true) .ret))
def impl_curve_isForm_L : Live := [(0, [0, 1]), (1, [2, 3])]
noncomputable def impl_curve_isForm (a0 : (Int × (List Int))) (a1 : ((List Int) × (List Int))) : Option Bool :=
  (Option.bind (impl_row_lead a1.1) fun r51 => (if (r51 == 1) then (Option.bind (impl_row_degree a1.1) fun r60 => (if (decide (r60 ≤ 12)) then (Option.bind (impl_row_degree a1.2) fun r69 => (Option.bind (impl_row_degree a1.1) fun r72 => (if (decide (r69 < r72)) then (Option.bind (impl_prime_times a0.1 a1.2 a1.2) fun r85 => (Option.bind (impl_prime_combine a0.1 r85 a0.2 (-1)) fun r88 => (Option.bind (impl_prime_rest a0.1 r88 a1.1) fun r91 => (if ((r91.length : Int) == 0) then (some true) else (Option.bind (impl_isOne a1.1) fun r95 => (if r95 then (some (((a1.2.length : Int) == 0))) else (some false))))))) else (Option.bind (impl_isOne a1.1) fun r76 => (if r76 then (some (((a1.2.length : Int) == 0))) else (some false)))))) else (Option.bind (impl_isOne a1.1) fun r64 => (if r64 then (some (((a1.2.length : Int) == 0))) else (some false))))) else (Option.bind (impl_isOne a1.1) fun r55 => (if r55 then (some (((a1.2.length : Int) == 0))) else (some false)))))
theorem impl_curve_isForm_ok (a0 : (Int × (List Int))) (a1 : ((List Int) × (List Int))) (r : Bool) (h : impl_curve_isForm a0 a1 = some r) : Den Try.prog 130 [(eT_i64_Si64_Z a0), (eT_Si64_Si64_Z a1)] { r := (.bool r) } := by
  refine den_of (rs := [(.bool r)]) (ac := impl_curve_isForm_c) (L := impl_curve_isForm_L) (n := 56) (m := []) (c := Try.f130.body.getD .skip) good Try.func130 (by kernel_rfl) (by kernel_rfl) Try.ntmps130 rfl rfl (by kernel_rfl) rfl rfl ?_
  refine a_st (σ' := ⟨[(0, (eT_i64_Si64_Z a0)), (1, (eT_Si64_Si64_Z a1))], []⟩) (by kernel_rfl) ?_
  unfold impl_curve_isForm_c
  refine sr (vo 1200 (eT_i64_Si64_Z a0) rfl rfl (vo 1300 (eT_Si64_Si64_Z a1) rfl rfl (vp (.bool false) rfl (nx ⟨[(2, (ow 2)), (3, (ow 3))], [(2, (bk (eT_i64_Si64_Z a0))), (3, (bk (eT_Si64_Si64_Z a1)))]⟩ (by kernel_rfl) (a_seq (a_draw [⟨[3], [], [3], []⟩, ⟨[3], [], [], [0]⟩, ⟨[], [], [], [0, 1]⟩, ⟨[], [], [], [0, 1, 2]⟩, ⟨[], [], [], [0, 1, 2, 3]⟩, ⟨[3], [], [3], [0, 1, 2, 3, 4]⟩, ⟨[3], [], [], [0, 1, 2, 3, 4, 5]⟩, ⟨[], [], [], [0, 1, 2, 3, 4, 5, 6]⟩, ⟨[], [], [], [0, 1, 2, 3, 4, 5, 6, 7]⟩, ⟨[], [], [], [0, 1, 2, 3, 4, 5, 6, 7, 8]⟩, ⟨[], [], [], [0, 1, 2, 3, 4, 5, 6, 7, 8, 9]⟩, ⟨[3], [], [3], [0, 1, 2, 3, 4, 5, 6, 7, 8, 9, 10]⟩, ⟨[3], [], [], [0, 1, 2, 3, 4, 5, 6, 7, 8, 9, 10, 11]⟩, ⟨[], [], [], [0, 1, 2, 3, 4, 5, 6, 7, 8, 9, 10, 11, 12]⟩, ⟨[3], [], [3], [0, 1, 2, 3, 4, 5, 6, 7, 8, 9, 10]⟩, ⟨[3], [], [], [0, 1, 2, 3, 4, 5, 6, 7, 8, 9, 10, 14]⟩, ⟨[], [], [], [0, 1, 2, 3, 4, 5, 6, 7, 8, 9, 10, 11, 12, 13, 14, 15]⟩, ⟨[], [], [], [0, 1, 2, 3, 4, 5, 6, 7, 8, 9, 10, 11, 12, 13, 14, 15, 16]⟩, ⟨[], [], [], [0, 1, 2, 3, 4, 5, 6, 7, 8, 9, 10, 11, 12, 13, 14, 15, 16, 17]⟩, ⟨[], [], [], [0, 1, 2, 3, 4, 5, 6, 7, 8, 9, 10, 11, 12, 13, 14, 15, 16, 17, 18]⟩, ⟨[2], [], [2], [0, 1, 2, 3, 4, 5, 6, 7, 8, 9, 10, 11, 12, 13, 14, 15, 16, 17, 18, 19]⟩, ⟨[2], [], [], [0, 1, 2, 3, 4, 5, 6, 7, 8, 9, 10, 11, 12, 13, 14, 15, 16, 17, 18, 19, 20]⟩, ⟨[2], [], [2], [0, 1, 2, 3, 4, 5, 6, 7, 8, 9, 10, 11, 12, 13, 14, 15, 16, 17, 18, 19]⟩, ⟨[2], [], [], [0, 1, 2, 3, 4, 5, 6, 7, 8, 9, 10, 11, 12, 13, 14, 15, 16, 17, 18, 19, 22]⟩, ⟨[2], [], [2], [0, 1, 2, 3, 4, 5, 6, 7, 8, 9, 10, 11, 12, 13, 14, 15, 16, 17, 18, 19]⟩, ⟨[2], [], [], [0, 1, 2, 3, 4, 5, 6, 7, 8, 9, 10, 11, 12, 13, 14, 15, 16, 17, 18, 19, 24]⟩, ⟨[3], [], [3], [0, 1, 2, 3, 4, 5, 6, 7, 8, 9, 10, 11, 12, 13, 14, 15, 16, 17, 18, 19]⟩, ⟨[3], [], [], [0, 1, 2, 3, 4, 5, 6, 7, 8, 9, 10, 11, 12, 13, 14, 15, 16, 17, 18, 19, 26]⟩, ⟨[3], [], [3], [0, 1, 2, 3, 4, 5, 6, 7, 8, 9, 10, 11, 12, 13, 14, 15, 16, 17, 18, 19]⟩, ⟨[3], [], [], [0, 1, 2, 3, 4, 5, 6, 7, 8, 9, 10, 11, 12, 13, 14, 15, 16, 17, 18, 19, 28]⟩, ⟨[], [], [], [0, 1, 2, 3, 4, 5, 6, 7, 8, 9, 10, 11, 12, 13, 14, 15, 16, 17, 18, 19, 24, 25, 26, 27, 28, 29]⟩, ⟨[2], [], [2], [0, 1, 2, 3, 4, 5, 6, 7, 8, 9, 10, 11, 12, 13, 14, 15, 16, 17, 18, 19]⟩, ⟨[2], [], [], [0, 1, 2, 3, 4, 5, 6, 7, 8, 9, 10, 11, 12, 13, 14, 15, 16, 17, 18, 19, 31]⟩, ⟨[], [], [], [0, 1, 2, 3, 4, 5, 6, 7, 8, 9, 10, 11, 12, 13, 14, 15, 16, 17, 18, 19, 22, 23, 24, 25, 26, 27, 28, 29, 30, 31, 32]⟩, ⟨[3], [], [3], [0, 1, 2, 3, 4, 5, 6, 7, 8, 9, 10, 11, 12, 13, 14, 15, 16, 17, 18, 19]⟩, ⟨[3], [], [], [0, 1, 2, 3, 4, 5, 6, 7, 8, 9, 10, 11, 12, 13, 14, 15, 16, 17, 18, 19, 34]⟩, ⟨[], [], [], [0, 1, 2, 3, 4, 5, 6, 7, 8, 9, 10, 11, 12, 13, 14, 15, 16, 17, 18, 19, 20, 21, 22, 23, 24, 25, 26, 27, 28, 29, 30, 31, 32, 33, 34, 35]⟩, ⟨[], [], [], [0, 1, 2, 3, 4, 5, 6, 7, 8, 9, 10, 11, 12, 13, 14, 15, 16, 17, 18, 19, 20, 21, 22, 23, 24, 25, 26, 27, 28, 29, 30, 31, 32, 33, 34, 35, 36]⟩, ⟨[], [], [], [0, 1, 2, 3, 4, 5, 6, 7, 8, 9, 10, 11, 12, 13, 14, 15, 16, 17, 18, 19, 20, 21, 22, 23, 24, 25, 26, 27, 28, 29, 30, 31, 32, 33, 34, 35, 36, 37]⟩, ⟨[], [], [], [0, 1, 2, 3, 4, 5, 6, 7, 8, 9, 10, 11, 12, 13, 14, 15, 16, 17, 18, 19, 20, 21, 22, 23, 24, 25, 26, 27, 28, 29, 30, 31, 32, 33, 34, 35, 36, 37, 38]⟩, ⟨[], [], [], [0, 1, 2, 3, 4, 5, 6, 7, 8, 9, 10, 11, 12, 13, 14, 15, 16, 17, 18, 19, 20, 21, 22, 23, 24, 25, 26, 27, 28, 29, 30, 31, 32, 33, 34, 35, 36, 37, 38, 39]⟩, ⟨[3], [], [3], [0, 1, 2, 3, 4, 5, 6, 7, 8, 9, 10, 11, 12, 13, 14, 15, 16, 17, 18, 19, 20, 21, 22, 23, 24, 25, 26, 27, 28, 29, 30, 31, 32, 33, 34, 35, 36, 37, 38, 39, 40]⟩, ⟨[3], [], [], [0, 1, 2, 3, 4, 5, 6, 7, 8, 9, 10, 11, 12, 13, 14, 15, 16, 17, 18, 19, 20, 21, 22, 23, 24, 25, 26, 27, 28, 29, 30, 31, 32, 33, 34, 35, 36, 37, 38, 39, 40, 41]⟩, ⟨[], [], [], [0, 1, 2, 3, 4, 5, 6, 7, 8, 9, 10, 11, 12, 13, 14, 15, 16, 17, 18, 19, 20, 21, 22, 23, 24, 25, 26, 27, 28, 29, 30, 31, 32, 33, 34, 35, 36, 37, 38, 39, 40, 41, 42]⟩, ⟨[], [], [], [0, 1, 2, 3, 4, 5, 6, 7, 8, 9, 10, 11, 12, 13, 14, 15, 16, 17, 18, 19, 20, 21, 22, 23, 24, 25, 26, 27, 28, 29, 30, 31, 32, 33, 34, 35, 36, 37, 38, 39, 40, 41, 42, 43]⟩, ⟨[3], [], [3], [0, 1, 2, 3, 4, 5, 6, 7, 8, 9, 10, 11, 12, 13, 14, 15, 16, 17, 18, 19, 20, 21, 22, 23, 24, 25, 26, 27, 28, 29, 30, 31, 32, 33, 34, 35, 36, 37, 38, 39, 40, 41, 42, 43, 44]⟩, ⟨[3], [], [], [0, 1, 2, 3, 4, 5, 6, 7, 8, 9, 10, 11, 12, 13, 14, 15, 16, 17, 18, 19, 20, 21, 22, 23, 24, 25, 26, 27, 28, 29, 30, 31, 32, 33, 34, 35, 36, 37, 38, 39, 40, 41, 42, 43, 44, 45]⟩, ⟨[], [], [], [0, 1, 2, 3, 4, 5, 6, 7, 8, 9, 10, 11, 12, 13, 14, 15, 16, 17, 18, 19, 20, 21, 22, 23, 24, 25, 26, 27, 28, 29, 30, 31, 32, 33, 34, 35, 36, 37, 38, 39, 40, 41, 42, 43, 44, 45, 46]⟩, ⟨[], [], [], [0, 1, 2, 3, 4, 5, 6, 7, 8, 9, 10, 11, 12, 13, 14, 15, 16, 17, 18, 19, 20, 21, 22, 23, 24, 25, 26, 27, 28, 29, 30, 31, 32, 33, 34, 35, 36, 37, 38, 39, 40, 41, 42, 43, 44, 45, 46, 47]⟩, ⟨[], [], [], [0, 1, 2, 3, 4, 5, 6, 7, 8, 9, 10, 11, 12, 13, 14, 15, 16, 17, 18, 19, 20, 21, 22, 23, 24, 25, 26, 27, 28, 29, 30, 31, 32, 33, 34, 35, 36, 37, 38, 39, 40, 41, 42, 43, 44, 45, 46, 47, 48]⟩, ⟨[], [], [], [0, 1, 2, 3, 4, 5, 6, 7, 8, 9, 10, 11, 12, 13, 14, 15, 16, 17, 18, 19, 20, 21, 22, 23, 24, 25, 26, 27, 28, 29, 30, 31, 32, 33, 34, 35, 36, 37, 38, 39, 40, 41, 42, 43, 44, 45, 46, 47, 48, 49]⟩, ⟨[], [], [], [0, 1, 2, 3, 4, 5, 6, 7, 8, 9, 10, 11, 12, 13, 14, 15, 16, 17, 18, 19, 20, 21, 22, 23, 24, 25, 26, 27, 28, 29, 30, 31, 32, 33, 34, 35, 36, 37, 38, 39, 40, 41, 42, 43, 44, 45, 46, 47, 48, 49, 50]⟩] (by kernel_rfl) (d_cons (vb (.own 3 [0] [0]) rfl rfl (d_next (by kernel_rfl) ?_)))))))))
  refine d_cons ?_
  have hl50 : LdOk [0] (eT_Si64_Si64_Z a1) [0] 1 false (eSi64 a1.1) := (.fld rfl rfl rfl rfl (.nil rfl rfl rfl))
  refine vq (eSi64 a1.1) (ld_own (i := ⟨.slice 2, 1, 24, (eSi64 [])⟩) rfl rfl rfl hl50) hl50.c (d_next (by kernel_rfl) (d_cons ?_))
  obtain ⟨r51, hr52, h⟩ := bind_some h
  refine a_call (args := [(eSi64 a1.1)]) (u := []) (r := (i6 r51)) rfl rfl (impl_row_lead_ok a1.1 r51 hr52) rfl (d_next (by kernel_rfl) (dp (.bool (r51 == 1)) rfl (by kernel_rfl) (dp (.bool (r51 == 1)) rfl (by kernel_rfl) ?_)))
  cases hb53 : (r51 == 1)
  · have h := ite_f hb53 h
    refine dk rfl (by kernel_rfl) (dk rfl (by kernel_rfl) (dk rfl (by kernel_rfl) (dk rfl (by kernel_rfl) (dp (.bool false) rfl (by kernel_rfl) (dp (.bool false) rfl (by kernel_rfl) (dk rfl (by kernel_rfl) (dk rfl (by kernel_rfl) (dk rfl (by kernel_rfl) (dk rfl (by kernel_rfl) ?_)))))))))
    refine dk rfl (by kernel_rfl) (dk rfl (by kernel_rfl) (dk rfl (by kernel_rfl) (dp (.bool false) rfl (by kernel_rfl) (dp (.bool false) rfl (by kernel_rfl) (dk rfl (by kernel_rfl) (dk rfl (by kernel_rfl) (dk rfl (by kernel_rfl) (dk rfl (by kernel_rfl) (dk rfl (by kernel_rfl) ?_)))))))))
    refine dk rfl (by kernel_rfl) (dk rfl (by kernel_rfl) (dk rfl (by kernel_rfl) (dk rfl (by kernel_rfl) (dk rfl (by kernel_rfl) (dk rfl (by kernel_rfl) (dk rfl (by kernel_rfl) (dk rfl (by kernel_rfl) (dk rfl (by kernel_rfl) (dk rfl (by kernel_rfl) ?_)))))))))
    refine dk rfl (by kernel_rfl) (dk rfl (by kernel_rfl) (dk rfl (by kernel_rfl) (dk rfl (by kernel_rfl) (dp (.bool false) rfl (by kernel_rfl) (dp (.bool false) rfl (by kernel_rfl) (d_cons (gq (.own 3 [0] [0]) rfl rfl (Nat.le_of_ble_eq_true rfl) (d_next (by kernel_rfl) (d_cons ?_)))))))))
    have hl54 : LdOk [0] (eT_Si64_Si64_Z a1) [0] 1 false (eSi64 a1.1) := (.fld rfl rfl rfl rfl (.nil rfl rfl rfl))
    refine gq (eSi64 a1.1) rfl (ld_own (i := ⟨.slice 2, 1, 24, (eSi64 [])⟩) rfl rfl rfl hl54) hl54.c (d_next (by kernel_rfl) (d_cons ?_))
    obtain ⟨r55, hr56, h⟩ := bind_some h
    refine a_gcall rfl (args := [(eSi64 a1.1)]) (u := []) (r := (.bool r55)) rfl rfl (impl_isOne_ok a1.1 r55 hr56) rfl (d_next (by kernel_rfl) (dg (.bool r55) rfl rfl (by kernel_rfl) ?_))
    cases hb57 : r55
    · have h := ite_f hb57 h
      refine dk rfl (by kernel_rfl) (dk rfl (by kernel_rfl) (dk rfl (by kernel_rfl) (dk rfl (by kernel_rfl) (dg (.bool false) rfl rfl (by kernel_rfl) (dp (.bool false) rfl (by kernel_rfl) (dp (.bool false) rfl (by kernel_rfl) (d_nil (a_next rfl (a_ret ?_)))))))))
      refine ⟨.inr rfl, ?_⟩
      rw [Try.results130]
      cases h
      exact ⟨_, _, _, _, _, rfl, trivial, .inl ⟨rfl, .inl rfl⟩, rfl, rfl⟩
    · have h := ite_t hb57 h
      refine d_cons (gq (.own 3 [1] [1]) rfl rfl (Nat.le_of_ble_eq_true rfl) (d_next (by kernel_rfl) (d_cons ?_)))
      have hl58 : LdOk [1] (eT_Si64_Si64_Z a1) [1] 1 false (eSi64 a1.2) := (.fld rfl rfl rfl rfl (.nil rfl rfl rfl))
      refine gq (eSi64 a1.2) rfl (ld_own (i := ⟨.slice 2, 1, 24, (eSi64 [])⟩) rfl rfl rfl hl58) hl58.c (d_next (by kernel_rfl) (d_cons (gq (i6 (a1.2.length : Int)) rfl (len_run rfl rfl) trivial (d_next (by kernel_rfl) (dg (.bool (((a1.2.length : Int) == 0))) rfl rfl (by kernel_rfl) (dg (.bool (((a1.2.length : Int) == 0))) rfl rfl (by kernel_rfl) (dp (.bool (((a1.2.length : Int) == 0))) rfl (by kernel_rfl) (dp (.bool (((a1.2.length : Int) == 0))) rfl (by kernel_rfl) (d_nil ?_)))))))))
      refine a_next rfl (a_ret ?_)
      refine ⟨.inr rfl, ?_⟩
      rw [Try.results130]
      cases h
      exact ⟨_, _, _, _, _, rfl, trivial, .inl ⟨rfl, .inl rfl⟩, rfl, rfl⟩
  · have h := ite_t hb53 h
    refine d_cons (gq (.own 3 [0] [0]) rfl rfl (Nat.le_of_ble_eq_true rfl) (d_next (by kernel_rfl) (d_cons ?_)))
    have hl59 : LdOk [0] (eT_Si64_Si64_Z a1) [0] 1 false (eSi64 a1.1) := (.fld rfl rfl rfl rfl (.nil rfl rfl rfl))
    refine gq (eSi64 a1.1) rfl (ld_own (i := ⟨.slice 2, 1, 24, (eSi64 [])⟩) rfl rfl rfl hl59) hl59.c (d_next (by kernel_rfl) (d_cons ?_))
    obtain ⟨r60, hr61, h⟩ := bind_some h
    refine a_gcall rfl (args := [(eSi64 a1.1)]) (u := []) (r := (i6 r60)) rfl rfl (impl_row_degree_ok a1.1 r60 hr61) rfl (d_next (by kernel_rfl) (dg (.bool ((decide (r60 ≤ 12)))) rfl rfl (by kernel_rfl) (dp (.bool ((decide (r60 ≤ 12)))) rfl (by kernel_rfl) (dp (.bool ((decide (r60 ≤ 12)))) rfl (by kernel_rfl) ?_))))
    cases hb62 : (decide (r60 ≤ 12))
    · have h := ite_f hb62 h
      refine dk rfl (by kernel_rfl) (dk rfl (by kernel_rfl) (dk rfl (by kernel_rfl) (dk rfl (by kernel_rfl) (dk rfl (by kernel_rfl) (dk rfl (by kernel_rfl) (dk rfl (by kernel_rfl) (dp (.bool false) rfl (by kernel_rfl) (dp (.bool false) rfl (by kernel_rfl) (dk rfl (by kernel_rfl) ?_)))))))))
      refine dk rfl (by kernel_rfl) (dk rfl (by kernel_rfl) (dk rfl (by kernel_rfl) (dk rfl (by kernel_rfl) (dk rfl (by kernel_rfl) (dk rfl (by kernel_rfl) (dk rfl (by kernel_rfl) (dk rfl (by kernel_rfl) (dk rfl (by kernel_rfl) (dk rfl (by kernel_rfl) ?_)))))))))
      refine dk rfl (by kernel_rfl) (dk rfl (by kernel_rfl) (dk rfl (by kernel_rfl) (dk rfl (by kernel_rfl) (dk rfl (by kernel_rfl) (dk rfl (by kernel_rfl) (dk rfl (by kernel_rfl) (dk rfl (by kernel_rfl) (dp (.bool false) rfl (by kernel_rfl) (dp (.bool false) rfl (by kernel_rfl) ?_)))))))))
      refine d_cons (gq (.own 3 [0] [0]) rfl rfl (Nat.le_of_ble_eq_true rfl) (d_next (by kernel_rfl) (d_cons ?_)))
      have hl63 : LdOk [0] (eT_Si64_Si64_Z a1) [0] 1 false (eSi64 a1.1) := (.fld rfl rfl rfl rfl (.nil rfl rfl rfl))
      refine gq (eSi64 a1.1) rfl (ld_own (i := ⟨.slice 2, 1, 24, (eSi64 [])⟩) rfl rfl rfl hl63) hl63.c (d_next (by kernel_rfl) (d_cons ?_))
      obtain ⟨r64, hr65, h⟩ := bind_some h
      refine a_gcall rfl (args := [(eSi64 a1.1)]) (u := []) (r := (.bool r64)) rfl rfl (impl_isOne_ok a1.1 r64 hr65) rfl (d_next (by kernel_rfl) (dg (.bool r64) rfl rfl (by kernel_rfl) ?_))
      cases hb66 : r64
      · have h := ite_f hb66 h
        refine dk rfl (by kernel_rfl) (dk rfl (by kernel_rfl) (dk rfl (by kernel_rfl) (dk rfl (by kernel_rfl) (dg (.bool false) rfl rfl (by kernel_rfl) (dp (.bool false) rfl (by kernel_rfl) (dp (.bool false) rfl (by kernel_rfl) (d_nil (a_next rfl (a_ret ?_)))))))))
        refine ⟨.inr rfl, ?_⟩
        rw [Try.results130]
        cases h
        exact ⟨_, _, _, _, _, rfl, trivial, .inl ⟨rfl, .inl rfl⟩, rfl, rfl⟩
      · have h := ite_t hb66 h
        refine d_cons (gq (.own 3 [1] [1]) rfl rfl (Nat.le_of_ble_eq_true rfl) (d_next (by kernel_rfl) (d_cons ?_)))
        have hl67 : LdOk [1] (eT_Si64_Si64_Z a1) [1] 1 false (eSi64 a1.2) := (.fld rfl rfl rfl rfl (.nil rfl rfl rfl))
        refine gq (eSi64 a1.2) rfl (ld_own (i := ⟨.slice 2, 1, 24, (eSi64 [])⟩) rfl rfl rfl hl67) hl67.c (d_next (by kernel_rfl) (d_cons (gq (i6 (a1.2.length : Int)) rfl (len_run rfl rfl) trivial (d_next (by kernel_rfl) (dg (.bool (((a1.2.length : Int) == 0))) rfl rfl (by kernel_rfl) (dg (.bool (((a1.2.length : Int) == 0))) rfl rfl (by kernel_rfl) (dp (.bool (((a1.2.length : Int) == 0))) rfl (by kernel_rfl) (dp (.bool (((a1.2.length : Int) == 0))) rfl (by kernel_rfl) (d_nil ?_)))))))))
        refine a_next rfl (a_ret ?_)
        refine ⟨.inr rfl, ?_⟩
        rw [Try.results130]
        cases h
        exact ⟨_, _, _, _, _, rfl, trivial, .inl ⟨rfl, .inl rfl⟩, rfl, rfl⟩
    · have h := ite_t hb62 h
      refine d_cons (gq (.own 3 [1] [1]) rfl rfl (Nat.le_of_ble_eq_true rfl) (d_next (by kernel_rfl) (d_cons ?_)))
      have hl68 : LdOk [1] (eT_Si64_Si64_Z a1) [1] 1 false (eSi64 a1.2) := (.fld rfl rfl rfl rfl (.nil rfl rfl rfl))
      refine gq (eSi64 a1.2) rfl (ld_own (i := ⟨.slice 2, 1, 24, (eSi64 [])⟩) rfl rfl rfl hl68) hl68.c (d_next (by kernel_rfl) (d_cons ?_))
      obtain ⟨r69, hr70, h⟩ := bind_some h
      refine a_gcall rfl (args := [(eSi64 a1.2)]) (u := []) (r := (i6 r69)) rfl rfl (impl_row_degree_ok a1.2 r69 hr70) rfl (d_next (by kernel_rfl) (d_cons (gq (.own 3 [0] [0]) rfl rfl (Nat.le_of_ble_eq_true rfl) (d_next (by kernel_rfl) (d_cons ?_)))))
      have hl71 : LdOk [0] (eT_Si64_Si64_Z a1) [0] 1 false (eSi64 a1.1) := (.fld rfl rfl rfl rfl (.nil rfl rfl rfl))
      refine gq (eSi64 a1.1) rfl (ld_own (i := ⟨.slice 2, 1, 24, (eSi64 [])⟩) rfl rfl rfl hl71) hl71.c (d_next (by kernel_rfl) (d_cons ?_))
      obtain ⟨r72, hr73, h⟩ := bind_some h
      refine a_gcall rfl (args := [(eSi64 a1.1)]) (u := []) (r := (i6 r72)) rfl rfl (impl_row_degree_ok a1.1 r72 hr73) rfl (d_next (by kernel_rfl) (dg (.bool ((decide (r69 < r72)))) rfl rfl (by kernel_rfl) (dp (.bool ((decide (r69 < r72)))) rfl (by kernel_rfl) (dp (.bool ((decide (r69 < r72)))) rfl (by kernel_rfl) ?_))))
      cases hb74 : (decide (r69 < r72))
      · have h := ite_f hb74 h
        refine dk rfl (by kernel_rfl) (dk rfl (by kernel_rfl) (dk rfl (by kernel_rfl) (dk rfl (by kernel_rfl) (dk rfl (by kernel_rfl) (dk rfl (by kernel_rfl) (dk rfl (by kernel_rfl) (dk rfl (by kernel_rfl) (dk rfl (by kernel_rfl) (dk rfl (by kernel_rfl) ?_)))))))))
        refine dk rfl (by kernel_rfl) (dk rfl (by kernel_rfl) (dk rfl (by kernel_rfl) (dk rfl (by kernel_rfl) (dk rfl (by kernel_rfl) (dk rfl (by kernel_rfl) (dk rfl (by kernel_rfl) (dk rfl (by kernel_rfl) (dk rfl (by kernel_rfl) (dp (.bool false) rfl (by kernel_rfl) ?_)))))))))
        refine dp (.bool false) rfl (by kernel_rfl) (d_cons (gq (.own 3 [0] [0]) rfl rfl (Nat.le_of_ble_eq_true rfl) (d_next (by kernel_rfl) (d_cons ?_))))
        have hl75 : LdOk [0] (eT_Si64_Si64_Z a1) [0] 1 false (eSi64 a1.1) := (.fld rfl rfl rfl rfl (.nil rfl rfl rfl))
        refine gq (eSi64 a1.1) rfl (ld_own (i := ⟨.slice 2, 1, 24, (eSi64 [])⟩) rfl rfl rfl hl75) hl75.c (d_next (by kernel_rfl) (d_cons ?_))
        obtain ⟨r76, hr77, h⟩ := bind_some h
        refine a_gcall rfl (args := [(eSi64 a1.1)]) (u := []) (r := (.bool r76)) rfl rfl (impl_isOne_ok a1.1 r76 hr77) rfl (d_next (by kernel_rfl) (dg (.bool r76) rfl rfl (by kernel_rfl) ?_))
        cases hb78 : r76
        · have h := ite_f hb78 h
          refine dk rfl (by kernel_rfl) (dk rfl (by kernel_rfl) (dk rfl (by kernel_rfl) (dk rfl (by kernel_rfl) (dg (.bool false) rfl rfl (by kernel_rfl) (dp (.bool false) rfl (by kernel_rfl) (dp (.bool false) rfl (by kernel_rfl) (d_nil (a_next rfl (a_ret ?_)))))))))
          refine ⟨.inr rfl, ?_⟩
          rw [Try.results130]
          cases h
          exact ⟨_, _, _, _, _, rfl, trivial, .inl ⟨rfl, .inl rfl⟩, rfl, rfl⟩
        · have h := ite_t hb78 h
          refine d_cons (gq (.own 3 [1] [1]) rfl rfl (Nat.le_of_ble_eq_true rfl) (d_next (by kernel_rfl) (d_cons ?_)))
          have hl79 : LdOk [1] (eT_Si64_Si64_Z a1) [1] 1 false (eSi64 a1.2) := (.fld rfl rfl rfl rfl (.nil rfl rfl rfl))
          refine gq (eSi64 a1.2) rfl (ld_own (i := ⟨.slice 2, 1, 24, (eSi64 [])⟩) rfl rfl rfl hl79) hl79.c (d_next (by kernel_rfl) (d_cons (gq (i6 (a1.2.length : Int)) rfl (len_run rfl rfl) trivial (d_next (by kernel_rfl) (dg (.bool (((a1.2.length : Int) == 0))) rfl rfl (by kernel_rfl) (dg (.bool (((a1.2.length : Int) == 0))) rfl rfl (by kernel_rfl) (dp (.bool (((a1.2.length : Int) == 0))) rfl (by kernel_rfl) (dp (.bool (((a1.2.length : Int) == 0))) rfl (by kernel_rfl) (d_nil ?_)))))))))
          refine a_next rfl (a_ret ?_)
          refine ⟨.inr rfl, ?_⟩
          rw [Try.results130]
          cases h
          exact ⟨_, _, _, _, _, rfl, trivial, .inl ⟨rfl, .inl rfl⟩, rfl, rfl⟩
      · have h := ite_t hb74 h
        refine d_cons (gq (.own 2 [0] [0]) rfl rfl (Nat.le_of_ble_eq_true rfl) (d_next (by kernel_rfl) (d_cons ?_)))
        have hl80 : LdOk [0] (eT_i64_Si64_Z a0) [0] 1 false (i6 a0.1) := (.fld rfl rfl rfl rfl (.nil rfl rfl rfl))
        refine gq (i6 a0.1) rfl (ld_own (i := ⟨.int .i64, 1, 8, (.int .i64 0)⟩) rfl rfl rfl hl80) hl80.c (d_next (by kernel_rfl) (d_cons (gq (.own 2 [0] [0]) rfl rfl (Nat.le_of_ble_eq_true rfl) (d_next (by kernel_rfl) (d_cons ?_)))))
        have hl81 : LdOk [0] (eT_i64_Si64_Z a0) [0] 1 false (i6 a0.1) := (.fld rfl rfl rfl rfl (.nil rfl rfl rfl))
        refine gq (i6 a0.1) rfl (ld_own (i := ⟨.int .i64, 1, 8, (.int .i64 0)⟩) rfl rfl rfl hl81) hl81.c (d_next (by kernel_rfl) (d_cons (gq (.own 2 [0] [0]) rfl rfl (Nat.le_of_ble_eq_true rfl) (d_next (by kernel_rfl) (d_cons ?_)))))
        have hl82 : LdOk [0] (eT_i64_Si64_Z a0) [0] 1 false (i6 a0.1) := (.fld rfl rfl rfl rfl (.nil rfl rfl rfl))
        refine gq (i6 a0.1) rfl (ld_own (i := ⟨.int .i64, 1, 8, (.int .i64 0)⟩) rfl rfl rfl hl82) hl82.c (d_next (by kernel_rfl) (d_cons (gq (.own 3 [1] [1]) rfl rfl (Nat.le_of_ble_eq_true rfl) (d_next (by kernel_rfl) (d_cons ?_)))))
        have hl83 : LdOk [1] (eT_Si64_Si64_Z a1) [1] 1 false (eSi64 a1.2) := (.fld rfl rfl rfl rfl (.nil rfl rfl rfl))
        refine gq (eSi64 a1.2) rfl (ld_own (i := ⟨.slice 2, 1, 24, (eSi64 [])⟩) rfl rfl rfl hl83) hl83.c (d_next (by kernel_rfl) (d_cons (gq (.own 3 [1] [1]) rfl rfl (Nat.le_of_ble_eq_true rfl) (d_next (by kernel_rfl) (d_cons ?_)))))
        have hl84 : LdOk [1] (eT_Si64_Si64_Z a1) [1] 1 false (eSi64 a1.2) := (.fld rfl rfl rfl rfl (.nil rfl rfl rfl))
        refine gq (eSi64 a1.2) rfl (ld_own (i := ⟨.slice 2, 1, 24, (eSi64 [])⟩) rfl rfl rfl hl84) hl84.c (d_next (by kernel_rfl) (d_cons ?_))
        obtain ⟨r85, hr86, h⟩ := bind_some h
        refine a_gcall rfl (args := [(i6 a0.1), (eSi64 a1.2), (eSi64 a1.2)]) (u := []) (r := (eSi64 r85)) rfl rfl (impl_prime_times_ok a0.1 a1.2 a1.2 r85 hr86) rfl (d_next (by kernel_rfl) (d_cons (gq (.own 2 [1] [1]) rfl rfl (Nat.le_of_ble_eq_true rfl) (d_next (by kernel_rfl) (d_cons ?_)))))
        have hl87 : LdOk [1] (eT_i64_Si64_Z a0) [1] 1 false (eSi64 a0.2) := (.fld rfl rfl rfl rfl (.nil rfl rfl rfl))
        refine gq (eSi64 a0.2) rfl (ld_own (i := ⟨.slice 2, 1, 24, (eSi64 [])⟩) rfl rfl rfl hl87) hl87.c (d_next (by kernel_rfl) (d_cons ?_))
        obtain ⟨r88, hr89, h⟩ := bind_some h
        refine a_gcall rfl (args := [(i6 a0.1), (eSi64 r85), (eSi64 a0.2), (i6 (-1))]) (u := []) (r := (eSi64 r88)) rfl rfl (impl_prime_combine_ok a0.1 r85 a0.2 (-1) r88 hr89) rfl (d_next (by kernel_rfl) (d_cons (gq (.own 3 [0] [0]) rfl rfl (Nat.le_of_ble_eq_true rfl) (d_next (by kernel_rfl) (d_cons ?_)))))
        have hl90 : LdOk [0] (eT_Si64_Si64_Z a1) [0] 1 false (eSi64 a1.1) := (.fld rfl rfl rfl rfl (.nil rfl rfl rfl))
        refine gq (eSi64 a1.1) rfl (ld_own (i := ⟨.slice 2, 1, 24, (eSi64 [])⟩) rfl rfl rfl hl90) hl90.c (d_next (by kernel_rfl) (d_cons ?_))
        obtain ⟨r91, hr92, h⟩ := bind_some h
        refine a_gcall rfl (args := [(i6 a0.1), (eSi64 r88), (eSi64 a1.1)]) (u := []) (r := (eSi64 r91)) rfl rfl (impl_prime_rest_ok a0.1 r88 a1.1 r91 hr92) rfl (d_next (by kernel_rfl) (d_cons (gq (i6 (r91.length : Int)) rfl (len_run rfl rfl) trivial (d_next (by kernel_rfl) (dg (.bool (((r91.length : Int) == 0))) rfl rfl (by kernel_rfl) (dp (.bool (((r91.length : Int) == 0))) rfl (by kernel_rfl) (dp (.bool (((r91.length : Int) == 0))) rfl (by kernel_rfl) ?_)))))))
        cases hb93 : ((r91.length : Int) == 0)
        · have h := ite_f hb93 h
          refine d_cons (gq (.own 3 [0] [0]) rfl rfl (Nat.le_of_ble_eq_true rfl) (d_next (by kernel_rfl) (d_cons ?_)))
          have hl94 : LdOk [0] (eT_Si64_Si64_Z a1) [0] 1 false (eSi64 a1.1) := (.fld rfl rfl rfl rfl (.nil rfl rfl rfl))
          refine gq (eSi64 a1.1) rfl (ld_own (i := ⟨.slice 2, 1, 24, (eSi64 [])⟩) rfl rfl rfl hl94) hl94.c (d_next (by kernel_rfl) (d_cons ?_))
          obtain ⟨r95, hr96, h⟩ := bind_some h
          refine a_gcall rfl (args := [(eSi64 a1.1)]) (u := []) (r := (.bool r95)) rfl rfl (impl_isOne_ok a1.1 r95 hr96) rfl (d_next (by kernel_rfl) (dg (.bool r95) rfl rfl (by kernel_rfl) ?_))
          cases hb97 : r95
          · have h := ite_f hb97 h
            refine dk rfl (by kernel_rfl) (dk rfl (by kernel_rfl) (dk rfl (by kernel_rfl) (dk rfl (by kernel_rfl) (dg (.bool false) rfl rfl (by kernel_rfl) (dp (.bool false) rfl (by kernel_rfl) (dp (.bool false) rfl (by kernel_rfl) (d_nil (a_next rfl (a_ret ?_)))))))))
            refine ⟨.inr rfl, ?_⟩
            rw [Try.results130]
            cases h
            exact ⟨_, _, _, _, _, rfl, trivial, .inl ⟨rfl, .inl rfl⟩, rfl, rfl⟩
          · have h := ite_t hb97 h
            refine d_cons (gq (.own 3 [1] [1]) rfl rfl (Nat.le_of_ble_eq_true rfl) (d_next (by kernel_rfl) (d_cons ?_)))
            have hl98 : LdOk [1] (eT_Si64_Si64_Z a1) [1] 1 false (eSi64 a1.2) := (.fld rfl rfl rfl rfl (.nil rfl rfl rfl))
            refine gq (eSi64 a1.2) rfl (ld_own (i := ⟨.slice 2, 1, 24, (eSi64 [])⟩) rfl rfl rfl hl98) hl98.c (d_next (by kernel_rfl) (d_cons (gq (i6 (a1.2.length : Int)) rfl (len_run rfl rfl) trivial (d_next (by kernel_rfl) (dg (.bool (((a1.2.length : Int) == 0))) rfl rfl (by kernel_rfl) (dg (.bool (((a1.2.length : Int) == 0))) rfl rfl (by kernel_rfl) (dp (.bool (((a1.2.length : Int) == 0))) rfl (by kernel_rfl) (dp (.bool (((a1.2.length : Int) == 0))) rfl (by kernel_rfl) (d_nil ?_)))))))))
            refine a_next rfl (a_ret ?_)
            refine ⟨.inr rfl, ?_⟩
            rw [Try.results130]
            cases h
            exact ⟨_, _, _, _, _, rfl, trivial, .inl ⟨rfl, .inl rfl⟩, rfl, rfl⟩
        · have h := ite_t hb93 h
          refine dk rfl (by kernel_rfl) (dk rfl (by kernel_rfl) (dk rfl (by kernel_rfl) (dk rfl (by kernel_rfl) (d_cons (a_gskip0 rfl (d_next (by kernel_rfl) (d_cons (a_gskip0 rfl (d_next (by kernel_rfl) ?_)))))))))
          refine d_cons (a_gskip0 rfl (d_next (by kernel_rfl) (d_cons (a_gskip0 rfl (d_next (by kernel_rfl) (dk rfl (by kernel_rfl) (dp (.bool true) rfl (by kernel_rfl) (dp (.bool true) rfl (by kernel_rfl) (d_nil ?_)))))))))
          refine a_next rfl (a_ret ?_)
          refine ⟨.inr rfl, ?_⟩
          rw [Try.results130]
          cases h
          exact ⟨_, _, _, _, _, rfl, trivial, .inl ⟨rfl, .inl rfl⟩, rfl, rfl⟩
def impl_IsForm_c : ACode := (.seq (.region 0 [q 4 (.box 26 (t 1)), q 5 (.box 74 (t 2)), q 6 (.asg 0 (.const (.bool false)) 4)] false) (.seq (.region 1 [q 7 (.mov (t 0)), q 8 (.load 26 (t 4)), ⟨some 9, .call 0 (.func 122) [(t 7), (t 8)], none, [0, 1]⟩, ⟨some 10, .mov (t 9), none, [2, 2]⟩, ⟨some 11, .mov (t 0), some (10, true), [3]⟩, ⟨some 12, .fieldAddr 74 (t 5) 0, some (10, true), [3]⟩, ⟨some 13, .load 26 (t 12), some (10, true), [5, 3]⟩, ⟨some 14, .call 0 (.func 139) [(t 11), (t 13)], some (10, true), [4, 6, 3, 3]⟩, ⟨some 15, .pick (t 10) (t 14) (.const (.bool false)), none, [3, 7]⟩, ⟨some 16, .mov (t 15), none, [8, 7]⟩, ⟨some 17, .mov (t 0), some (16, true), [9]⟩, ⟨some 18, .fieldAddr 74 (t 5) 1, some (16, true), [9]⟩, ⟨some 19, .load 26 (t 18), some (16, true), [11, 9]⟩, ⟨some 20, .call 0 (.func 139) [(t 17), (t 19)], some (16, true), [10, 12, 9, 9]⟩, ⟨some 21, .pick (t 16) (t 20) (.const (.bool false)), none, [9, 13]⟩, ⟨some 22, .mov (t 21), none, [14, 13]⟩, ⟨some 23, .mov (t 0), some (22, true), [15]⟩, ⟨some 24, .load 26 (t 4), some (22, true), [15]⟩, ⟨some 25, .call 0 (.func 53) [(t 23), (t 24)], some (22, true), [16, 17, 15, 15]⟩, ⟨some 26, .load 74 (t 5), some (22, true), [15]⟩, ⟨some 27, .call 0 (.func 128) [(t 26)], some (22, true), [19, 18, 15]⟩, ⟨some 28, .call 0 (.func 130) [(t 25), (t 27)], some (22, true), [18, 20, 20, 15]⟩, ⟨some 29, .pick (t 22) (t 28) (.const (.bool false)), none, [15, 21]⟩, ⟨some 6, .asg 0 (t 29) 4, none, [22, 21, 0, 1, 2, 3, 4, 5, 6, 7, 8, 9, 10, 11, 12, 13, 14, 15, 16, 17, 18, 19, 20, 21, 22]⟩] true) .ret))
def impl_IsForm_L : Live := [(0, [0, 1, 2]), (1, [0, 4, 5])]
noncomputable def impl_IsForm (a0 : Int) (a1 : (Vec Int 64)) (a2 : ((Vec Int 64) × (Vec Int 64))) : Option Bool :=
  (Option.bind (impl_IsDiscriminant a0 a1) fun r22 => (if r22 then (Option.bind (impl_isPoly a0 a2.1) fun r26 => (if r26 then (Option.bind (impl_isPoly a0 a2.2) fun r30 => (if r30 then (Option.bind (impl_curveOf a0 a1) fun r34 => (Option.bind (impl_formOf a2) fun r37 => (Option.bind (impl_curve_isForm r34 r37) fun r39 => (some r39)))) else (some false))) else (some false))) else (some false)))
theorem impl_IsForm_ok (a0 : Int) (a1 : (Vec Int 64)) (a2 : ((Vec Int 64) × (Vec Int 64))) (r : Bool) (h : impl_IsForm a0 a1 a2 = some r) : Den Try.prog 125 [(i6 a0), (eA64u8 a1), (eT_A64u8_A64u8_Z a2)] { r := (.bool r) } := by
  refine den_of (rs := [(.bool r)]) (ac := impl_IsForm_c) (L := impl_IsForm_L) (n := 30) (m := []) (c := Try.f125.body.getD .skip) good Try.func125 (by kernel_rfl) (by kernel_rfl) Try.ntmps125 rfl rfl (by kernel_rfl) rfl rfl ?_
  refine a_st (σ' := ⟨[(0, (i6 a0)), (1, (eA64u8 a1)), (2, (eT_A64u8_A64u8_Z a2))], []⟩) (by kernel_rfl) ?_
  unfold impl_IsForm_c
  refine sr (vo 1400 (eA64u8 a1) rfl rfl (vo 1500 (eT_A64u8_A64u8_Z a2) rfl rfl (vp (.bool false) rfl (nx ⟨[(0, (i6 a0)), (4, (ow 4)), (5, (ow 5))], [(4, (bk (eA64u8 a1))), (5, (bk (eT_A64u8_A64u8_Z a2)))]⟩ (by kernel_rfl) (a_seq (a_draw [⟨[], [], [], []⟩, ⟨[4], [], [], []⟩, ⟨[], [], [], [0, 1]⟩, ⟨[], [], [], [0, 1, 2]⟩, ⟨[], [], [], [0, 1, 2, 3]⟩, ⟨[5], [], [5], [0, 1, 2, 3]⟩, ⟨[5], [], [], [0, 1, 2, 3, 5]⟩, ⟨[], [], [], [0, 1, 2, 3, 4, 5, 6]⟩, ⟨[], [], [], [0, 1, 2, 3, 4, 5, 6, 7]⟩, ⟨[], [], [], [0, 1, 2, 3, 4, 5, 6, 7, 8]⟩, ⟨[], [], [], [0, 1, 2, 3, 4, 5, 6, 7, 8, 9]⟩, ⟨[5], [], [5], [0, 1, 2, 3, 4, 5, 6, 7, 8, 9]⟩, ⟨[5], [], [], [0, 1, 2, 3, 4, 5, 6, 7, 8, 9, 11]⟩, ⟨[], [], [], [0, 1, 2, 3, 4, 5, 6, 7, 8, 9, 10, 11, 12]⟩, ⟨[], [], [], [0, 1, 2, 3, 4, 5, 6, 7, 8, 9, 10, 11, 12, 13]⟩, ⟨[], [], [], [0, 1, 2, 3, 4, 5, 6, 7, 8, 9, 10, 11, 12, 13, 14]⟩, ⟨[], [], [], [0, 1, 2, 3, 4, 5, 6, 7, 8, 9, 10, 11, 12, 13, 14, 15]⟩, ⟨[4], [], [], [0, 1, 2, 3, 4, 5, 6, 7, 8, 9, 10, 11, 12, 13, 14, 15]⟩, ⟨[], [], [], [0, 1, 2, 3, 4, 5, 6, 7, 8, 9, 10, 11, 12, 13, 14, 15, 16, 17]⟩, ⟨[5], [], [], [0, 1, 2, 3, 4, 5, 6, 7, 8, 9, 10, 11, 12, 13, 14, 15]⟩, ⟨[], [], [], [0, 1, 2, 3, 4, 5, 6, 7, 8, 9, 10, 11, 12, 13, 14, 15, 16, 17, 18, 19]⟩, ⟨[], [], [], [0, 1, 2, 3, 4, 5, 6, 7, 8, 9, 10, 11, 12, 13, 14, 15, 16, 17, 18, 19, 20]⟩, ⟨[], [], [], [0, 1, 2, 3, 4, 5, 6, 7, 8, 9, 10, 11, 12, 13, 14, 15, 16, 17, 18, 19, 20, 21]⟩, ⟨[], [], [], [0, 1, 2, 3, 4, 5, 6, 7, 8, 9, 10, 11, 12, 13, 14, 15, 16, 17, 18, 19, 20, 21, 22]⟩] (by kernel_rfl) (dp (i6 a0) rfl (by kernel_rfl) (d_cons (vl (eA64u8 a1) rfl rfl rfl rfl rfl rfl ?_)))))))))
  refine d_next (by kernel_rfl) (d_cons ?_)
  obtain ⟨r22, hr23, h⟩ := bind_some h
  refine a_call (args := [(i6 a0), (eA64u8 a1)]) (u := []) (r := (.bool r22)) rfl rfl (impl_IsDiscriminant_ok a0 a1 r22 hr23) rfl (d_next (by kernel_rfl) (dp (.bool r22) rfl (by kernel_rfl) ?_))
  cases hb24 : r22
  · have h := ite_f hb24 h
    refine dk rfl (by kernel_rfl) (dk rfl (by kernel_rfl) (dk rfl (by kernel_rfl) (dk rfl (by kernel_rfl) (dp (.bool false) rfl (by kernel_rfl) (dp (.bool false) rfl (by kernel_rfl) (dk rfl (by kernel_rfl) (dk rfl (by kernel_rfl) (dk rfl (by kernel_rfl) (dk rfl (by kernel_rfl) ?_)))))))))
    refine dp (.bool false) rfl (by kernel_rfl) (dp (.bool false) rfl (by kernel_rfl) (dk rfl (by kernel_rfl) (dk rfl (by kernel_rfl) (dk rfl (by kernel_rfl) (dk rfl (by kernel_rfl) (dk rfl (by kernel_rfl) (dk rfl (by kernel_rfl) (dp (.bool false) rfl (by kernel_rfl) (dp (.bool false) rfl (by kernel_rfl) ?_)))))))))
    refine d_nil (a_next rfl (a_ret ?_))
    refine ⟨.inr rfl, ?_⟩
    rw [Try.results125]
    cases h
    exact ⟨_, _, _, _, _, rfl, trivial, .inl ⟨rfl, .inl rfl⟩, rfl, rfl⟩
  · have h := ite_t hb24 h
    refine dg (i6 a0) rfl rfl (by kernel_rfl) (d_cons (gq (.own 5 [0] [0]) rfl rfl (Nat.le_of_ble_eq_true rfl) (d_next (by kernel_rfl) (d_cons ?_))))
    have hl25 : LdOk [0] (eT_A64u8_A64u8_Z a2) [0] 64 true (eA64u8 a2.1) := (.fld rfl rfl rfl rfl (.nil rfl rfl rfl))
    refine gq (eA64u8 a2.1) rfl (ld_own (i := ⟨.arr 64 5, 64, 64, (eA64u8 (vrep 64 (0 : Int)))⟩) rfl rfl rfl hl25) hl25.c (d_next (by kernel_rfl) (d_cons ?_))
    obtain ⟨r26, hr27, h⟩ := bind_some h
    refine a_gcall rfl (args := [(i6 a0), (eA64u8 a2.1)]) (u := []) (r := (.bool r26)) rfl rfl (impl_isPoly_ok a0 a2.1 r26 hr27) rfl (d_next (by kernel_rfl) (dp (.bool r26) rfl (by kernel_rfl) (dp (.bool r26) rfl (by kernel_rfl) ?_)))
    cases hb28 : r26
    · have h := ite_f hb28 h
      refine dk rfl (by kernel_rfl) (dk rfl (by kernel_rfl) (dk rfl (by kernel_rfl) (dk rfl (by kernel_rfl) (dp (.bool false) rfl (by kernel_rfl) (dp (.bool false) rfl (by kernel_rfl) (dk rfl (by kernel_rfl) (dk rfl (by kernel_rfl) (dk rfl (by kernel_rfl) (dk rfl (by kernel_rfl) ?_)))))))))
      refine dk rfl (by kernel_rfl) (dk rfl (by kernel_rfl) (dp (.bool false) rfl (by kernel_rfl) (dp (.bool false) rfl (by kernel_rfl) (d_nil (a_next rfl (a_ret ?_))))))
      refine ⟨.inr rfl, ?_⟩
      rw [Try.results125]
      cases h
      exact ⟨_, _, _, _, _, rfl, trivial, .inl ⟨rfl, .inl rfl⟩, rfl, rfl⟩
    · have h := ite_t hb28 h
      refine dg (i6 a0) rfl rfl (by kernel_rfl) (d_cons (gq (.own 5 [1] [64]) rfl rfl (Nat.le_of_ble_eq_true rfl) (d_next (by kernel_rfl) (d_cons ?_))))
      have hl29 : LdOk [1] (eT_A64u8_A64u8_Z a2) [64] 64 true (eA64u8 a2.2) := (.fld rfl rfl rfl rfl (.nil rfl rfl rfl))
      refine gq (eA64u8 a2.2) rfl (ld_own (i := ⟨.arr 64 5, 64, 64, (eA64u8 (vrep 64 (0 : Int)))⟩) rfl rfl rfl hl29) hl29.c (d_next (by kernel_rfl) (d_cons ?_))
      obtain ⟨r30, hr31, h⟩ := bind_some h
      refine a_gcall rfl (args := [(i6 a0), (eA64u8 a2.2)]) (u := []) (r := (.bool r30)) rfl rfl (impl_isPoly_ok a0 a2.2 r30 hr31) rfl (d_next (by kernel_rfl) (dp (.bool r30) rfl (by kernel_rfl) (dp (.bool r30) rfl (by kernel_rfl) ?_)))
      cases hb32 : r30
      · have h := ite_f hb32 h
        refine dk rfl (by kernel_rfl) (dk rfl (by kernel_rfl) (dk rfl (by kernel_rfl) (dk rfl (by kernel_rfl) (dk rfl (by kernel_rfl) (dk rfl (by kernel_rfl) (dp (.bool false) rfl (by kernel_rfl) (dp (.bool false) rfl (by kernel_rfl) (d_nil (a_next rfl ?_)))))))))
        refine a_ret ?_
        refine ⟨.inr rfl, ?_⟩
        rw [Try.results125]
        cases h
        exact ⟨_, _, _, _, _, rfl, trivial, .inl ⟨rfl, .inl rfl⟩, rfl, rfl⟩
      · have h := ite_t hb32 h
        refine dg (i6 a0) rfl rfl (by kernel_rfl) (d_cons ?_)
        have hl33 : LdOk [] (eA64u8 a1) [] 64 true (eA64u8 a1) := (.nil rfl rfl rfl)
        refine gq (eA64u8 a1) rfl (ld_own (i := ⟨.arr 64 5, 64, 64, (eA64u8 (vrep 64 (0 : Int)))⟩) rfl rfl rfl hl33) hl33.c (d_next (by kernel_rfl) (d_cons ?_))
        obtain ⟨r34, hr35, h⟩ := bind_some h
        refine a_gcall rfl (args := [(i6 a0), (eA64u8 a1)]) (u := []) (r := (eT_i64_Si64_Z r34)) rfl rfl (impl_curveOf_ok a0 a1 r34 hr35) rfl (d_next (by kernel_rfl) (d_cons ?_))
        have hl36 : LdOk [] (eT_A64u8_A64u8_Z a2) [] 128 true (eT_A64u8_A64u8_Z a2) := (.nil rfl rfl rfl)
        refine gq (eT_A64u8_A64u8_Z a2) rfl (ld_own (i := ⟨.struct [(0, 26), (64, 26)], 128, 128, (eT_A64u8_A64u8_Z ((vrep 64 (0 : Int)), (vrep 64 (0 : Int))))⟩) rfl rfl rfl hl36) hl36.c (d_next (by kernel_rfl) (d_cons ?_))
        obtain ⟨r37, hr38, h⟩ := bind_some h
        refine a_gcall rfl (args := [(eT_A64u8_A64u8_Z a2)]) (u := []) (r := (eT_Si64_Si64_Z r37)) rfl rfl (impl_formOf_ok a2 r37 hr38) rfl (d_next (by kernel_rfl) (d_cons ?_))
        obtain ⟨r39, hr40, h⟩ := bind_some h
        refine a_gcall rfl (args := [(eT_i64_Si64_Z r34), (eT_Si64_Si64_Z r37)]) (u := []) (r := (.bool r39)) rfl rfl (impl_curve_isForm_ok r34 r37 r39 hr40) rfl (d_next (by kernel_rfl) (dp (.bool r39) rfl (by kernel_rfl) (dp (.bool r39) rfl (by kernel_rfl) (d_nil (a_next rfl (a_ret ?_))))))
        refine ⟨.inr rfl, ?_⟩
        rw [Try.results125]
        cases h
        exact ⟨_, _, _, _, _, rfl, trivial, .inl ⟨rfl, .inl rfl⟩, rfl, rfl⟩
def impl_formCode_c1_of_p_p_c : ACode := (.seq (.region 0 [q 3 (.box 74 (t 0)), q 4 (.asg 0 (.const (.bool false)) 4)] false) (.seq (.region 1 [q 5 (.load 2 (t 1)), q 6 (.load 26 (t 2)), q 7 (.load 74 (t 3)), q 8 (.call 0 (.func 125) [(t 5), (t 6), (t 7)]), q 4 (.asg 0 (t 8) 4)] false) .ret))
def impl_formCode_c1_of_p_p_L : Live := [(0, [0, 1, 2]), (1, [1, 2, 3])]
noncomputable def impl_formCode_c1_of_p_p (a0 : ((Vec Int 64) × (Vec Int 64))) (a1 : Int) (a2 : (Vec Int 64)) : Option Bool :=
  (Option.bind (impl_IsForm a1 a2 a0) fun r4 => (some r4))
theorem impl_formCode_c1_of_p_p_ok (a0 : ((Vec Int 64) × (Vec Int 64))) (a1 : Int) (a2 : (Vec Int 64)) (r : Bool) (h : impl_formCode_c1_of_p_p a0 a1 a2 = some r) : Den Try.prog 124 [(eT_A64u8_A64u8_Z a0), (.ref (i6 a1) [] []), (.ref (eA64u8 a2) [] [])] { r := (.bool r) } := by
  refine den_of (rs := [(.bool r)]) (ac := impl_formCode_c1_of_p_p_c) (L := impl_formCode_c1_of_p_p_L) (n := 9) (m := []) (c := Try.f124.body.getD .skip) good Try.func124 (by kernel_rfl) (by kernel_rfl) Try.ntmps124 rfl rfl (by kernel_rfl) rfl rfl ?_
  refine a_st (σ' := ⟨[(0, (eT_A64u8_A64u8_Z a0)), (1, (.ref (i6 a1) [] [])), (2, (.ref (eA64u8 a2) [] []))], []⟩) (by kernel_rfl) ?_
  unfold impl_formCode_c1_of_p_p_c
  refine sr (vo 1300 (eT_A64u8_A64u8_Z a0) rfl rfl (vp (.bool false) rfl (nx ⟨[(1, (.ref (i6 a1) [] [])), (2, (.ref (eA64u8 a2) [] [])), (3, (ow 3))], [(3, (bk (eT_A64u8_A64u8_Z a0)))]⟩ (by kernel_rfl) (sr ?_))))
  have hl1 : LdOk [] (i6 a1) [] 1 false (i6 a1) := (.nil rfl rfl rfl)
  refine vq (i6 a1) (ld_ref (i := ⟨.int .i64, 1, 8, (.int .i64 0)⟩) rfl rfl hl1) hl1.c ?_
  have hl2 : LdOk [] (eA64u8 a2) [] 64 true (eA64u8 a2) := (.nil rfl rfl rfl)
  refine vq (eA64u8 a2) (ld_ref (i := ⟨.arr 64 5, 64, 64, (eA64u8 (vrep 64 (0 : Int)))⟩) rfl rfl hl2) hl2.c (vl (eT_A64u8_A64u8_Z a0) rfl rfl rfl rfl rfl rfl ?_)
  obtain ⟨r4, hr5, h⟩ := bind_some h
  refine a_call (args := [(i6 a1), (eA64u8 a2), (eT_A64u8_A64u8_Z a0)]) (u := []) (r := (.bool r4)) rfl rfl (impl_IsForm_ok a1 a2 a0 r4 hr5) rfl (vp (.bool r4) rfl (nx _ rfl (a_ret ?_)))
  refine ⟨.inr rfl, ?_⟩
  rw [Try.results124]
  cases h
  exact ⟨_, _, _, _, _, rfl, trivial, .inl ⟨rfl, .inl rfl⟩, rfl, rfl⟩
def impl_areAll_impl_Form__c1_of_p_formCode_c1_c : ACode := (.seq (.region 0 [q 2 (.box 74 (t 0)), q 3 (.asg 0 (.const (.bool false)) 4)] false) (.seq (.region 1 [q 4 (.load 134 (t 1)), q 5 (.load 74 (t 2)), q 6 (.call 0 (t 4) [(t 5)]), q 7 (.un .not (t 6)), q 3 (.asg 0 (t 7) 4)] false) .ret))
def impl_areAll_impl_Form__c1_of_p_formCode_c1_L : Live := [(0, [0, 1]), (1, [1, 2])]
noncomputable def impl_areAll_impl_Form__c1_of_p_formCode_c1 (a0 : ((Vec Int 64) × (Vec Int 64))) (a1c0 : Int) (a1c1 : (Vec Int 64)) : Option Bool :=
  (Option.bind (impl_formCode_c1_of_p_p a0 a1c0 a1c1) fun r3 => (some (!r3)))
theorem impl_areAll_impl_Form__c1_of_p_formCode_c1_ok (a0 : ((Vec Int 64) × (Vec Int 64))) (a1c0 : Int) (a1c1 : (Vec Int 64)) (r : Bool) (h : impl_areAll_impl_Form__c1_of_p_formCode_c1 a0 a1c0 a1c1 = some r) : Den Try.prog 172 [(eT_A64u8_A64u8_Z a0), (.ref (.clo 124 [] [(.ref (i6 a1c0) [] []), (.ref (eA64u8 a1c1) [] [])]) [] [])] { r := (.bool r) } := by
  refine den_of (rs := [(.bool r)]) (ac := impl_areAll_impl_Form__c1_of_p_formCode_c1_c) (L := impl_areAll_impl_Form__c1_of_p_formCode_c1_L) (n := 8) (m := []) (c := Try.f172.body.getD .skip) good Try.func172 (by kernel_rfl) (by kernel_rfl) Try.ntmps172 rfl rfl (by kernel_rfl) rfl rfl ?_
  refine a_st (σ' := ⟨[(0, (eT_A64u8_A64u8_Z a0)), (1, (.ref (.clo 124 [] [(.ref (i6 a1c0) [] []), (.ref (eA64u8 a1c1) [] [])]) [] []))], []⟩) (by kernel_rfl) ?_
  unfold impl_areAll_impl_Form__c1_of_p_formCode_c1_c
  refine sr (vo 1200 (eT_A64u8_A64u8_Z a0) rfl rfl (vp (.bool false) rfl (nx ⟨[(1, (.ref (.clo 124 [] [(.ref (i6 a1c0) [] []), (.ref (eA64u8 a1c1) [] [])]) [] [])), (2, (ow 2))], [(2, (bk (eT_A64u8_A64u8_Z a0)))]⟩ (by kernel_rfl) (sr ?_))))
  have hl1 : LdOk [] (.clo 124 [] [(.ref (i6 a1c0) [] []), (.ref (eA64u8 a1c1) [] [])]) [] 1 false (.clo 124 [] [(.ref (i6 a1c0) [] []), (.ref (eA64u8 a1c1) [] [])]) := (.nil rfl rfl rfl)
  refine vq (.clo 124 [] [(.ref (i6 a1c0) [] []), (.ref (eA64u8 a1c1) [] [])]) (ld_ref (i := ⟨.other, 1, 8, (.raw .nilFunc)⟩) rfl rfl hl1) hl1.c (vl (eT_A64u8_A64u8_Z a0) rfl rfl rfl rfl rfl rfl ?_)
  obtain ⟨r3, hr4, h⟩ := bind_some h
  refine a_call (args := [(eT_A64u8_A64u8_Z a0), (.ref (i6 a1c0) [] []), (.ref (eA64u8 a1c1) [] [])]) (u := []) (r := (.bool r3)) rfl rfl (impl_formCode_c1_of_p_p_ok a0 a1c0 a1c1 r3 hr4) rfl (vp (.bool (!r3)) rfl (vp (.bool (!r3)) rfl (nx _ rfl (a_ret ?_))))
  refine ⟨.inr rfl, ?_⟩
  rw [Try.results172]
  cases h
  exact ⟨_, _, _, _, _, rfl, trivial, .inl ⟨rfl, .inl rfl⟩, rfl, rfl⟩
def slices_IndexFunc_impl_Form_impl_Form_of_impl_areAll_impl_Form__c1_p_formCode_c1_c : ACode := (.seq (.region 0 [q 4 (.asg 0 (.const (.int .i64 0)) 3)] false) (.seq (.seq (.region 1 [q 6 (.mov (t 0)), q 7 (.blt 0 .len [(t 6)] [23]), q 8 (.mov (.const (.int .i64 0)))] false) (.block 0 (.loop (.seq (.region 2 [q 9 (.bin .lss 3 (t 8) (t 7))] false) (.seq (.cond (t 9) .skip (.exit 0)) (.seq (.block 1 (.seq (.region 3 [q 10 (.mov (t 8)), q 5 (.asg 0 (t 10) 3)] false) (.seq (.region 4 [q 11 (.mov (t 1)), q 12 (.mov (t 0)), q 13 (.mov (t 5)), q 14 (.indexAddr 23 (t 12) (t 13)), q 15 (.load 74 (t 14)), q 16 (.call 0 (t 11) [(t 15)])] false) (.cond (t 16) (.seq (.region 5 [q 17 (.mov (t 5)), q 4 (.asg 0 (t 17) 3)] false) .ret) .skip)))) (.region 6 [q 18 (.bin .add 3 (t 8) (.const (.int .i64 1))), q 8 (.mov (t 18))] false))))))) (.seq (.region 7 [q 4 (.asg 0 (.const (.int .i64 (-1))) 3)] false) .ret)))
def slices_IndexFunc_impl_Form_impl_Form_of_impl_areAll_impl_Form__c1_p_formCode_c1_L : Live := [(0, [0, 1]), (1, [0, 1]), (2, [0, 1, 7, 8]), (3, [0, 1, 7, 8]), (4, [0, 1, 5, 7, 8]), (5, [5]), (6, [0, 1, 7, 8]), (7, []), (100009, [0, 1, 7, 8, 9]), (100016, [0, 1, 5, 7, 8, 16])]
noncomputable def slices_IndexFunc_impl_Form_impl_Form_of_impl_areAll_impl_Form__c1_p_formCode_c1_l1 (a0 : (List ((Vec Int 64) × (Vec Int 64)))) (a1c0c0 : Int) (a1c0c1 : (Vec Int 64)) (x33 : Int) : Option (Int ⊕ (Unit ⊕ Int)) :=
  (if (decide (x33 < (a0.length : Int))) then (ifp (0 ≤ x33 ∧ x33 < ((a0.length : Nat) : Int)) ((Option.bind (impl_areAll_impl_Form__c1_of_p_formCode_c1 (rd a0 x33.toNat) a1c0c0 a1c0c1) fun r46 => (if r46 then (some (.inr (.inr x33))) else (some (.inl (IntKind.i64.wrap (x33 + 1)))))))) else (some (.inr (((.inl ()))))))
noncomputable def slices_IndexFunc_impl_Form_impl_Form_of_impl_areAll_impl_Form__c1_p_formCode_c1 (a0 : (List ((Vec Int 64) × (Vec Int 64)))) (a1c0c0 : Int) (a1c0c1 : (Vec Int 64)) : Option Int :=
  (Option.bind (α := (Unit ⊕ Int)) ((loopM (fun s : Int => slices_IndexFunc_impl_Form_impl_Form_of_impl_areAll_impl_Form__c1_p_formCode_c1_l1 a0 a1c0c0 a1c0c1 s) 0)) fun z => match z with | .inl _ => (some (-1)) | .inr r50 => (some r50))
theorem slices_IndexFunc_impl_Form_impl_Form_of_impl_areAll_impl_Form__c1_p_formCode_c1_ok (a0 : (List ((Vec Int 64) × (Vec Int 64)))) (a1c0c0 : Int) (a1c0c1 : (Vec Int 64)) (r : Int) (h : slices_IndexFunc_impl_Form_impl_Form_of_impl_areAll_impl_Form__c1_p_formCode_c1 a0 a1c0c0 a1c0c1 = some r) : Den Try.prog 194 [(eST_A64u8_A64u8_Z a0), (.clo 172 [] [(.ref (.clo 124 [] [(.ref (i6 a1c0c0) [] []), (.ref (eA64u8 a1c0c1) [] [])]) [] [])])] { r := (i6 r) } := by
  refine den_of (rs := [(i6 r)]) (ac := slices_IndexFunc_impl_Form_impl_Form_of_impl_areAll_impl_Form__c1_p_formCode_c1_c) (L := slices_IndexFunc_impl_Form_impl_Form_of_impl_areAll_impl_Form__c1_p_formCode_c1_L) (n := 19) (m := []) (c := Try.f194.body.getD .skip) good Try.func194 (by kernel_rfl) (by kernel_rfl) Try.ntmps194 rfl rfl (by kernel_rfl) rfl rfl ?_
  refine a_st (σ' := ⟨[(0, (eST_A64u8_A64u8_Z a0)), (1, (.clo 172 [] [(.ref (.clo 124 [] [(.ref (i6 a1c0c0) [] []), (.ref (eA64u8 a1c0c1) [] [])]) [] [])]))], []⟩) (by kernel_rfl) ?_
  unfold slices_IndexFunc_impl_Form_impl_Form_of_impl_areAll_impl_Form__c1_p_formCode_c1_c
  refine sr (vp (i6 0) rfl (nx ⟨[(0, (eST_A64u8_A64u8_Z a0)), (1, (.clo 172 [] [(.ref (.clo 124 [] [(.ref (i6 a1c0c0) [] []), (.ref (eA64u8 a1c0c1) [] [])]) [] [])]))], []⟩ (by kernel_rfl) ?_))
  obtain ⟨y24, hy25, hk26⟩ := bind_some h
  clear h
  refine a_join (emb := fun (s : Unit) => ⟨[], []⟩) (pre := fun s => (.inl s) = y24) ?_ ?_
  · rintro _ rfl
    have h := hk26
    refine a_st (σ' := ⟨[], []⟩) (by kernel_rfl) (sr (vp (i6 (-1)) rfl (nx _ rfl (a_ret ?_))))
    refine ⟨.inr rfl, ?_⟩
    rw [Try.results194]
    cases h
    exact ⟨_, _, _, _, _, rfl, trivial, .inl ⟨rfl, .inl rfl⟩, rfl, rfl⟩
  · have h := hy25
    refine sr (vp (eST_A64u8_A64u8_Z a0) rfl (vq (i6 (a0.length : Int)) (len_run rfl rfl) trivial (vp (i6 0) rfl (nx ⟨[(0, (eST_A64u8_A64u8_Z a0)), (1, (.clo 172 [] [(.ref (.clo 124 [] [(.ref (i6 a1c0c0) [] []), (.ref (eA64u8 a1c0c1) [] [])]) [] [])])), (7, (i6 (a0.length : Int))), (8, (i6 0))], []⟩ (by kernel_rfl) (a_block ?_)))))
    refine a_loop (emb := fun (s : Int) => ⟨[(0, (eST_A64u8_A64u8_Z a0)), (1, (.clo 172 [] [(.ref (.clo 124 [] [(.ref (i6 a1c0c0) [] []), (.ref (eA64u8 a1c0c1) [] [])]) [] [])])), (7, (i6 (a0.length : Int))), (8, (i6 s))], []⟩) (body := (fun s : Int => slices_IndexFunc_impl_Form_impl_Form_of_impl_areAll_impl_Form__c1_p_formCode_c1_l1 a0 a1c0c0 a1c0c1 s)) (G := fun q => some q = some y24) h rfl ?_ (by kernel_rfl)
    rintro X40 x33 x41 h hX42
    have h : slices_IndexFunc_impl_Form_impl_Form_of_impl_areAll_impl_Form__c1_p_formCode_c1_l1 a0 a1c0c0 a1c0c1 x33 = some x41 := h
    refine a_st (σ' := ⟨[(0, (eST_A64u8_A64u8_Z a0)), (1, (.clo 172 [] [(.ref (.clo 124 [] [(.ref (i6 a1c0c0) [] []), (.ref (eA64u8 a1c0c1) [] [])]) [] [])])), (7, (i6 (a0.length : Int))), (8, (i6 x33))], []⟩) (by kernel_rfl) (sr (vp (.bool ((decide (x33 < (a0.length : Int))))) rfl (nx ⟨[(0, (eST_A64u8_A64u8_Z a0)), (1, (.clo 172 [] [(.ref (.clo 124 [] [(.ref (i6 a1c0c0) [] []), (.ref (eA64u8 a1c0c1) [] [])]) [] [])])), (7, (i6 (a0.length : Int))), (8, (i6 x33)), (9, (.bool ((decide (x33 < (a0.length : Int))))))], []⟩ (by kernel_rfl) (a_seq ?_))))
    cases hb43 : (decide (x33 < (a0.length : Int)))
    · have h := ite_f hb43 h
      refine a_cond_f rfl (a_exit (t_exit ?_))
      cases h
      have h := hX42
      refine t_exit (b_exit ?_)
      exact j_leaf () (Option.some.inj h) (by kernel_rfl)
    · have h := ite_t hb43 h
      refine a_cond_t rfl (a_skip (a_next (σ' := ⟨[(0, (eST_A64u8_A64u8_Z a0)), (1, (.clo 172 [] [(.ref (.clo 124 [] [(.ref (i6 a1c0c0) [] []), (.ref (eA64u8 a1c0c1) [] [])]) [] [])])), (7, (i6 (a0.length : Int))), (8, (i6 x33))], []⟩) (by kernel_rfl) (a_seq (a_block (sr (vp (i6 x33) rfl (vp (i6 x33) rfl (nx ⟨[(0, (eST_A64u8_A64u8_Z a0)), (1, (.clo 172 [] [(.ref (.clo 124 [] [(.ref (i6 a1c0c0) [] []), (.ref (eA64u8 a1c0c1) [] [])]) [] [])])), (5, (i6 x33)), (7, (i6 (a0.length : Int))), (8, (i6 x33))], []⟩ (by kernel_rfl) (sr ?_)))))))))
      refine vp (.clo 172 [] [(.ref (.clo 124 [] [(.ref (i6 a1c0c0) [] []), (.ref (eA64u8 a1c0c1) [] [])]) [] [])]) rfl (vp (eST_A64u8_A64u8_Z a0) rfl (vp (i6 x33) rfl ?_))
      obtain ⟨hc44, h⟩ := ifp_some h
      refine vq (.ref (.row 128 (a0.map eT_A64u8_A64u8_Z)) [x33.toNat] [x33.toNat * 128]) rfl (lmap hc44) ?_
      have hl45 : LdOk [x33.toNat] (.row 128 (a0.map eT_A64u8_A64u8_Z)) [x33.toNat * 128] 128 true (eT_A64u8_A64u8_Z (rd a0 x33.toNat)) := (.row (llt hc44) rfl (.nil rfl rfl rfl))
      refine vq (eT_A64u8_A64u8_Z (rd a0 x33.toNat)) (ld_ref (i := ⟨.struct [(0, 26), (64, 26)], 128, 128, (eT_A64u8_A64u8_Z ((vrep 64 (0 : Int)), (vrep 64 (0 : Int))))⟩) rfl rfl hl45) hl45.c ?_
      obtain ⟨r46, hr47, h⟩ := bind_some h
      refine a_call (args := [(eT_A64u8_A64u8_Z (rd a0 x33.toNat)), (.ref (.clo 124 [] [(.ref (i6 a1c0c0) [] []), (.ref (eA64u8 a1c0c1) [] [])]) [] [])]) (u := []) (r := (.bool r46)) rfl rfl (impl_areAll_impl_Form__c1_of_p_formCode_c1_ok (rd a0 x33.toNat) a1c0c0 a1c0c1 r46 hr47) rfl (nx ⟨[(0, (eST_A64u8_A64u8_Z a0)), (1, (.clo 172 [] [(.ref (.clo 124 [] [(.ref (i6 a1c0c0) [] []), (.ref (eA64u8 a1c0c1) [] [])]) [] [])])), (5, (i6 x33)), (7, (i6 (a0.length : Int))), (8, (i6 x33)), (16, (.bool r46))], []⟩ (by kernel_rfl) ?_)
      cases hb48 : r46
      · have h := ite_f hb48 h
        refine a_cond_f rfl (a_skip (b_norm (a_next (σ' := ⟨[(0, (eST_A64u8_A64u8_Z a0)), (1, (.clo 172 [] [(.ref (.clo 124 [] [(.ref (i6 a1c0c0) [] []), (.ref (eA64u8 a1c0c1) [] [])]) [] [])])), (7, (i6 (a0.length : Int))), (8, (i6 x33))], []⟩) (by kernel_rfl) (a_region (vp (i6 (IntKind.i64.wrap (x33 + 1))) rfl (vp (i6 (IntKind.i64.wrap (x33 + 1))) rfl (a_nil ?_)))))))
        cases h
        exact a_again (by kernel_rfl) hX42
      · have h := ite_t hb48 h
        refine a_cond_t rfl (sr (vp (i6 x33) rfl (vp (i6 x33) rfl (nx _ rfl (a_ret (b_ret (t_ret ?_)))))))
        cases h
        have h := hX42
        refine t_ret (b_ret (t_ret ?_))
        cases h
        have h := hk26
        refine ⟨.inr rfl, ?_⟩
        rw [Try.results194]
        cases h
        exact ⟨_, _, _, _, _, rfl, trivial, .inl ⟨rfl, .inl rfl⟩, rfl, rfl⟩
def slices_ContainsFunc_impl_Form_impl_Form_of_impl_areAll_impl_Form__c1_p_formCode_c1_c : ACode := (.seq (.region 0 [q 4 (.asg 0 (.const (.bool false)) 4)] false) (.seq (.region 1 [q 5 (.mov (t 0)), q 6 (.mov (t 1)), q 7 (.call 0 (.func 194) [(t 5), (t 6)]), q 8 (.bin .geq 3 (t 7) (.const (.int .i64 0))), q 4 (.asg 0 (t 8) 4)] false) .ret))
def slices_ContainsFunc_impl_Form_impl_Form_of_impl_areAll_impl_Form__c1_p_formCode_c1_L : Live := [(0, [0, 1]), (1, [0, 1])]
noncomputable def slices_ContainsFunc_impl_Form_impl_Form_of_impl_areAll_impl_Form__c1_p_formCode_c1 (a0 : (List ((Vec Int 64) × (Vec Int 64)))) (a1c0c0 : Int) (a1c0c1 : (Vec Int 64)) : Option Bool :=
  (Option.bind (slices_IndexFunc_impl_Form_impl_Form_of_impl_areAll_impl_Form__c1_p_formCode_c1 a0 a1c0c0 a1c0c1) fun r1 => (some ((decide (r1 ≥ 0)))))
theorem slices_ContainsFunc_impl_Form_impl_Form_of_impl_areAll_impl_Form__c1_p_formCode_c1_ok (a0 : (List ((Vec Int 64) × (Vec Int 64)))) (a1c0c0 : Int) (a1c0c1 : (Vec Int 64)) (r : Bool) (h : slices_ContainsFunc_impl_Form_impl_Form_of_impl_areAll_impl_Form__c1_p_formCode_c1 a0 a1c0c0 a1c0c1 = some r) : Den Try.prog 171 [(eST_A64u8_A64u8_Z a0), (.clo 172 [] [(.ref (.clo 124 [] [(.ref (i6 a1c0c0) [] []), (.ref (eA64u8 a1c0c1) [] [])]) [] [])])] { r := (.bool r) } := by
  refine den_of (rs := [(.bool r)]) (ac := slices_ContainsFunc_impl_Form_impl_Form_of_impl_areAll_impl_Form__c1_p_formCode_c1_c) (L := slices_ContainsFunc_impl_Form_impl_Form_of_impl_areAll_impl_Form__c1_p_formCode_c1_L) (n := 9) (m := []) (c := Try.f171.body.getD .skip) good Try.func171 (by kernel_rfl) (by kernel_rfl) Try.ntmps171 rfl rfl (by kernel_rfl) rfl rfl ?_
  refine a_st (σ' := ⟨[(0, (eST_A64u8_A64u8_Z a0)), (1, (.clo 172 [] [(.ref (.clo 124 [] [(.ref (i6 a1c0c0) [] []), (.ref (eA64u8 a1c0c1) [] [])]) [] [])]))], []⟩) (by kernel_rfl) ?_
  unfold slices_ContainsFunc_impl_Form_impl_Form_of_impl_areAll_impl_Form__c1_p_formCode_c1_c
  refine sr (vp (.bool false) rfl (nx ⟨[(0, (eST_A64u8_A64u8_Z a0)), (1, (.clo 172 [] [(.ref (.clo 124 [] [(.ref (i6 a1c0c0) [] []), (.ref (eA64u8 a1c0c1) [] [])]) [] [])]))], []⟩ (by kernel_rfl) (sr (vp (eST_A64u8_A64u8_Z a0) rfl (vp (.clo 172 [] [(.ref (.clo 124 [] [(.ref (i6 a1c0c0) [] []), (.ref (eA64u8 a1c0c1) [] [])]) [] [])]) rfl ?_)))))
  obtain ⟨r1, hr2, h⟩ := bind_some h
  refine a_call (args := [(eST_A64u8_A64u8_Z a0), (.clo 172 [] [(.ref (.clo 124 [] [(.ref (i6 a1c0c0) [] []), (.ref (eA64u8 a1c0c1) [] [])]) [] [])])]) (u := []) (r := (i6 r1)) rfl rfl (slices_IndexFunc_impl_Form_impl_Form_of_impl_areAll_impl_Form__c1_p_formCode_c1_ok a0 a1c0c0 a1c0c1 r1 hr2) rfl (vp (.bool ((decide (r1 ≥ 0)))) rfl (vp (.bool ((decide (r1 ≥ 0)))) rfl (nx _ rfl (a_ret ?_))))
  refine ⟨.inr rfl, ?_⟩
  rw [Try.results171]
  cases h
  exact ⟨_, _, _, _, _, rfl, trivial, .inl ⟨rfl, .inl rfl⟩, rfl, rfl⟩
def impl_areAll_impl_Form_of_impl_formCode_c1_p_p_c : ACode := (.seq (.region 0 [q 3 (.box 134 (t 1)), q 4 (.asg 0 (.const (.bool false)) 4)] false) (.seq (.region 1 [q 5 (.mov (t 0)), q 6 (.mkfn 172 [] [(t 3)]), q 7 (.call 0 (.func 171) [(t 5), (t 6)]), q 8 (.un .not (t 7)), q 4 (.asg 0 (t 8) 4)] false) .ret))
def impl_areAll_impl_Form_of_impl_formCode_c1_p_p_L : Live := [(0, [0, 1]), (1, [0, 3])]
noncomputable def impl_areAll_impl_Form_of_impl_formCode_c1_p_p (a0 : (List ((Vec Int 64) × (Vec Int 64)))) (a1c0 : Int) (a1c1 : (Vec Int 64)) : Option Bool :=
  (Option.bind (slices_ContainsFunc_impl_Form_impl_Form_of_impl_areAll_impl_Form__c1_p_formCode_c1 a0 a1c0 a1c1) fun r1 => (some (!r1)))
theorem impl_areAll_impl_Form_of_impl_formCode_c1_p_p_ok (a0 : (List ((Vec Int 64) × (Vec Int 64)))) (a1c0 : Int) (a1c1 : (Vec Int 64)) (r : Bool) (h : impl_areAll_impl_Form_of_impl_formCode_c1_p_p a0 a1c0 a1c1 = some r) : Den Try.prog 123 [(eST_A64u8_A64u8_Z a0), (.clo 124 [] [(.ref (i6 a1c0) [] []), (.ref (eA64u8 a1c1) [] [])])] { r := (.bool r) } := by
  refine den_of (rs := [(.bool r)]) (ac := impl_areAll_impl_Form_of_impl_formCode_c1_p_p_c) (L := impl_areAll_impl_Form_of_impl_formCode_c1_p_p_L) (n := 9) (m := []) (c := Try.f123.body.getD .skip) good Try.func123 (by kernel_rfl) (by kernel_rfl) Try.ntmps123 rfl rfl (by kernel_rfl) rfl rfl ?_
  refine a_st (σ' := ⟨[(0, (eST_A64u8_A64u8_Z a0)), (1, (.clo 124 [] [(.ref (i6 a1c0) [] []), (.ref (eA64u8 a1c1) [] [])]))], []⟩) (by kernel_rfl) ?_
  unfold impl_areAll_impl_Form_of_impl_formCode_c1_p_p_c
  refine sr (vo 1300 (.clo 124 [] [(.ref (i6 a1c0) [] []), (.ref (eA64u8 a1c1) [] [])]) rfl rfl (vp (.bool false) rfl (nx ⟨[(0, (eST_A64u8_A64u8_Z a0)), (3, (ow 3))], [(3, (bk (.clo 124 [] [(.ref (i6 a1c0) [] []), (.ref (eA64u8 a1c1) [] [])])))]⟩ (by kernel_rfl) (sr (vp (eST_A64u8_A64u8_Z a0) rfl (vu (.clo 172 [] [(.ref (.clo 124 [] [(.ref (i6 a1c0) [] []), (.ref (eA64u8 a1c1) [] [])]) [] [])]) [(3, (bf (.clo 124 [] [(.ref (i6 a1c0) [] []), (.ref (eA64u8 a1c1) [] [])])))] rfl trivial rfl ?_))))))
  obtain ⟨r1, hr2, h⟩ := bind_some h
  refine a_call (args := [(eST_A64u8_A64u8_Z a0), (.clo 172 [] [(.ref (.clo 124 [] [(.ref (i6 a1c0) [] []), (.ref (eA64u8 a1c1) [] [])]) [] [])])]) (u := []) (r := (.bool r1)) rfl rfl (slices_ContainsFunc_impl_Form_impl_Form_of_impl_areAll_impl_Form__c1_p_formCode_c1_ok a0 a1c0 a1c1 r1 hr2) rfl (vp (.bool (!r1)) rfl (vp (.bool (!r1)) rfl (nx _ rfl (a_ret ?_))))
  refine ⟨.inr rfl, ?_⟩
  rw [Try.results123]
  cases h
  exact ⟨_, _, _, _, _, rfl, trivial, .inl ⟨rfl, .inl rfl⟩, rfl, rfl⟩
def impl_curve_genus_c : ACode := (.seq (.region 0 [q 1 (.box 68 (t 0)), q 2 (.asg 0 (.const (.int .i64 0)) 2)] false) (.seq (.region 1 [q 3 (.fieldAddr 68 (t 1) 1), q 4 (.load 66 (t 3)), q 5 (.call 0 (.func 69) [(t 4)]), q 6 (.bin .sub 2 (t 5) (.const (.int .i64 1))), q 7 (.bin .quo 2 (t 6) (.const (.int .i64 2))), q 2 (.asg 0 (t 7) 2)] false) .ret))
def impl_curve_genus_L : Live := [(0, [0]), (1, [1])]
noncomputable def impl_curve_genus (a0 : (Int × (List Int))) : Option Int :=
  (Option.bind (impl_row_degree a0.2) fun r2 => (some (IntKind.i64.wrap (Int.tdiv (IntKind.i64.wrap (r2 - 1)) 2))))
theorem impl_curve_genus_ok (a0 : (Int × (List Int))) (r : Int) (h : impl_curve_genus a0 = some r) : Den Try.prog 129 [(eT_i64_Si64_Z a0)] { r := (i6 r) } := by
  refine den_of (rs := [(i6 r)]) (ac := impl_curve_genus_c) (L := impl_curve_genus_L) (n := 8) (m := []) (c := Try.f129.body.getD .skip) good Try.func129 (by kernel_rfl) (by kernel_rfl) Try.ntmps129 rfl rfl (by kernel_rfl) rfl rfl ?_
  refine a_st (σ' := ⟨[(0, (eT_i64_Si64_Z a0))], []⟩) (by kernel_rfl) ?_
  unfold impl_curve_genus_c
  refine sr (vo 1100 (eT_i64_Si64_Z a0) rfl rfl (vp (i6 0) rfl (nx ⟨[(1, (ow 1))], [(1, (bk (eT_i64_Si64_Z a0)))]⟩ (by kernel_rfl) (sr (vb (.own 1 [1] [1]) rfl rfl ?_)))))
  have hl1 : LdOk [1] (eT_i64_Si64_Z a0) [1] 1 false (eSi64 a0.2) := (.fld rfl rfl rfl rfl (.nil rfl rfl rfl))
  refine vq (eSi64 a0.2) (ld_own (i := ⟨.slice 2, 1, 24, (eSi64 [])⟩) rfl rfl rfl hl1) hl1.c ?_
  obtain ⟨r2, hr3, h⟩ := bind_some h
  refine a_call (args := [(eSi64 a0.2)]) (u := []) (r := (i6 r2)) rfl rfl (impl_row_degree_ok a0.2 r2 hr3) rfl (vp (i6 (IntKind.i64.wrap (r2 - 1))) rfl (vq (i6 (IntKind.i64.wrap (Int.tdiv (IntKind.i64.wrap (r2 - 1)) 2))) rfl (by decide) (vp (i6 (IntKind.i64.wrap (Int.tdiv (IntKind.i64.wrap (r2 - 1)) 2))) rfl (nx _ rfl (a_ret ?_)))))
  refine ⟨.inr rfl, ?_⟩
  rw [Try.results129]
  cases h
  exact ⟨_, _, _, _, _, rfl, trivial, .inl ⟨rfl, .inl rfl⟩, rfl, rfl⟩
def impl_curve_isReduced_c : ACode := (.seq (.region 0 [q 2 (.box 68 (t 0)), q 3 (.box 72 (t 1)), q 4 (.asg 0 (.const (.bool false)) 4)] false) (.seq (.region 1 [q 5 (.fieldAddr 72 (t 3) 0), ⟨some 6, .load 66 (t 5), none, [0]⟩, ⟨some 7, .call 0 (.func 69) [(t 6)], none, [1]⟩, q 8 (.load 68 (t 2)), ⟨some 9, .call 0 (.func 129) [(t 8)], none, [3, 2]⟩, ⟨some 10, .bin .leq 2 (t 7) (t 9), none, [2, 4]⟩, ⟨some 4, .asg 0 (t 10) 4, none, [5, 4, 0, 1, 2, 3, 4, 5]⟩] true) .ret))
def impl_curve_isReduced_L : Live := [(0, [0, 1]), (1, [2, 3])]
noncomputable def impl_curve_isReduced (a0 : (Int × (List Int))) (a1 : ((List Int) × (List Int))) : Option Bool :=
  (Option.bind (impl_row_degree a1.1) fun r8 => (Option.bind (impl_curve_genus a0) fun r11 => (some ((decide (r8 ≤ r11))))))
theorem impl_curve_isReduced_ok (a0 : (Int × (List Int))) (a1 : ((List Int) × (List Int))) (r : Bool) (h : impl_curve_isReduced a0 a1 = some r) : Den Try.prog 127 [(eT_i64_Si64_Z a0), (eT_Si64_Si64_Z a1)] { r := (.bool r) } := by
  refine den_of (rs := [(.bool r)]) (ac := impl_curve_isReduced_c) (L := impl_curve_isReduced_L) (n := 11) (m := []) (c := Try.f127.body.getD .skip) good Try.func127 (by kernel_rfl) (by kernel_rfl) Try.ntmps127 rfl rfl (by kernel_rfl) rfl rfl ?_
  refine a_st (σ' := ⟨[(0, (eT_i64_Si64_Z a0)), (1, (eT_Si64_Si64_Z a1))], []⟩) (by kernel_rfl) ?_
  unfold impl_curve_isReduced_c
  refine sr (vo 1200 (eT_i64_Si64_Z a0) rfl rfl (vo 1300 (eT_Si64_Si64_Z a1) rfl rfl (vp (.bool false) rfl (nx ⟨[(2, (ow 2)), (3, (ow 3))], [(2, (bk (eT_i64_Si64_Z a0))), (3, (bk (eT_Si64_Si64_Z a1)))]⟩ (by kernel_rfl) (a_seq (a_draw [⟨[3], [], [3], []⟩, ⟨[3], [], [], [0]⟩, ⟨[], [], [], [0, 1]⟩, ⟨[2], [], [], []⟩, ⟨[], [], [], [0, 1, 2, 3]⟩, ⟨[], [], [], [0, 1, 2, 3, 4]⟩, ⟨[], [], [], [0, 1, 2, 3, 4, 5]⟩] (by kernel_rfl) (d_cons (vb (.own 3 [0] [0]) rfl rfl (d_next (by kernel_rfl) ?_)))))))))
  refine d_cons ?_
  have hl7 : LdOk [0] (eT_Si64_Si64_Z a1) [0] 1 false (eSi64 a1.1) := (.fld rfl rfl rfl rfl (.nil rfl rfl rfl))
  refine vq (eSi64 a1.1) (ld_own (i := ⟨.slice 2, 1, 24, (eSi64 [])⟩) rfl rfl rfl hl7) hl7.c (d_next (by kernel_rfl) (d_cons ?_))
  obtain ⟨r8, hr9, h⟩ := bind_some h
  refine a_call (args := [(eSi64 a1.1)]) (u := []) (r := (i6 r8)) rfl rfl (impl_row_degree_ok a1.1 r8 hr9) rfl (d_next (by kernel_rfl) (d_cons (vl (eT_i64_Si64_Z a0) rfl rfl rfl rfl rfl rfl (d_next (by kernel_rfl) (d_cons ?_)))))
  obtain ⟨r11, hr12, h⟩ := bind_some h
  refine a_call (args := [(eT_i64_Si64_Z a0)]) (u := []) (r := (i6 r11)) rfl rfl (impl_curve_genus_ok a0 r11 hr12) rfl (d_next (by kernel_rfl) (dp (.bool ((decide (r8 ≤ r11)))) rfl (by kernel_rfl) (dp (.bool ((decide (r8 ≤ r11)))) rfl (by kernel_rfl) (d_nil (a_next rfl (a_ret ?_))))))
  refine ⟨.inr rfl, ?_⟩
  rw [Try.results127]
  cases h
  exact ⟨_, _, _, _, _, rfl, trivial, .inl ⟨rfl, .inl rfl⟩, rfl, rfl⟩
def impl_formCode_c2_of_p_p_c : ACode := (.seq (.region 0 [q 3 (.box 74 (t 0)), q 4 (.asg 0 (.const (.bool false)) 4)] false) (.seq (.region 1 [q 5 (.load 2 (t 1)), q 6 (.load 26 (t 2)), ⟨some 7, .call 0 (.func 53) [(t 5), (t 6)], none, [0, 1]⟩, q 8 (.load 74 (t 3)), ⟨some 9, .call 0 (.func 128) [(t 8)], none, [3, 2]⟩, ⟨some 10, .call 0 (.func 127) [(t 7), (t 9)], none, [2, 4, 4]⟩, ⟨some 4, .asg 0 (t 10) 4, none, [5, 5, 0, 1, 2, 3, 4, 5]⟩] true) .ret))
def impl_formCode_c2_of_p_p_L : Live := [(0, [0, 1, 2]), (1, [1, 2, 3])]
noncomputable def impl_formCode_c2_of_p_p (a0 : ((Vec Int 64) × (Vec Int 64))) (a1 : Int) (a2 : (Vec Int 64)) : Option Bool :=
  (Option.bind (impl_curveOf a1 a2) fun r12 => (Option.bind (impl_formOf a0) fun r15 => (Option.bind (impl_curve_isReduced r12 r15) fun r17 => (some r17))))
theorem impl_formCode_c2_of_p_p_ok (a0 : ((Vec Int 64) × (Vec Int 64))) (a1 : Int) (a2 : (Vec Int 64)) (r : Bool) (h : impl_formCode_c2_of_p_p a0 a1 a2 = some r) : Den Try.prog 126 [(eT_A64u8_A64u8_Z a0), (.ref (i6 a1) [] []), (.ref (eA64u8 a2) [] [])] { r := (.bool r) } := by
  refine den_of (rs := [(.bool r)]) (ac := impl_formCode_c2_of_p_p_c) (L := impl_formCode_c2_of_p_p_L) (n := 11) (m := []) (c := Try.f126.body.getD .skip) good Try.func126 (by kernel_rfl) (by kernel_rfl) Try.ntmps126 rfl rfl (by kernel_rfl) rfl rfl ?_
  refine a_st (σ' := ⟨[(0, (eT_A64u8_A64u8_Z a0)), (1, (.ref (i6 a1) [] [])), (2, (.ref (eA64u8 a2) [] []))], []⟩) (by kernel_rfl) ?_
  unfold impl_formCode_c2_of_p_p_c
  refine sr (vo 1300 (eT_A64u8_A64u8_Z a0) rfl rfl (vp (.bool false) rfl (nx ⟨[(1, (.ref (i6 a1) [] [])), (2, (.ref (eA64u8 a2) [] [])), (3, (ow 3))], [(3, (bk (eT_A64u8_A64u8_Z a0)))]⟩ (by kernel_rfl) (a_seq (a_draw [⟨[], [], [], []⟩, ⟨[], [], [], []⟩, ⟨[], [], [], [0, 1]⟩, ⟨[3], [], [], []⟩, ⟨[], [], [], [0, 1, 2, 3]⟩, ⟨[], [], [], [0, 1, 2, 3, 4]⟩, ⟨[], [], [], [0, 1, 2, 3, 4, 5]⟩] (by kernel_rfl) (d_cons ?_))))))
  have hl10 : LdOk [] (i6 a1) [] 1 false (i6 a1) := (.nil rfl rfl rfl)
  refine vq (i6 a1) (ld_ref (i := ⟨.int .i64, 1, 8, (.int .i64 0)⟩) rfl rfl hl10) hl10.c (d_next (by kernel_rfl) (d_cons ?_))
  have hl11 : LdOk [] (eA64u8 a2) [] 64 true (eA64u8 a2) := (.nil rfl rfl rfl)
  refine vq (eA64u8 a2) (ld_ref (i := ⟨.arr 64 5, 64, 64, (eA64u8 (vrep 64 (0 : Int)))⟩) rfl rfl hl11) hl11.c (d_next (by kernel_rfl) (d_cons ?_))
  obtain ⟨r12, hr13, h⟩ := bind_some h
  refine a_call (args := [(i6 a1), (eA64u8 a2)]) (u := []) (r := (eT_i64_Si64_Z r12)) rfl rfl (impl_curveOf_ok a1 a2 r12 hr13) rfl (d_next (by kernel_rfl) (d_cons (vl (eT_A64u8_A64u8_Z a0) rfl rfl rfl rfl rfl rfl (d_next (by kernel_rfl) (d_cons ?_)))))
  obtain ⟨r15, hr16, h⟩ := bind_some h
  refine a_call (args := [(eT_A64u8_A64u8_Z a0)]) (u := []) (r := (eT_Si64_Si64_Z r15)) rfl rfl (impl_formOf_ok a0 r15 hr16) rfl (d_next (by kernel_rfl) (d_cons ?_))
  obtain ⟨r17, hr18, h⟩ := bind_some h
  refine a_call (args := [(eT_i64_Si64_Z r12), (eT_Si64_Si64_Z r15)]) (u := []) (r := (.bool r17)) rfl rfl (impl_curve_isReduced_ok r12 r15 r17 hr18) rfl (d_next (by kernel_rfl) (dp (.bool r17) rfl (by kernel_rfl) (d_nil (a_next rfl (a_ret ?_)))))
  refine ⟨.inr rfl, ?_⟩
  rw [Try.results126]
  cases h
  exact ⟨_, _, _, _, _, rfl, trivial, .inl ⟨rfl, .inl rfl⟩, rfl, rfl⟩
def impl_areAll_impl_Form__c1_of_p_formCode_c2_c : ACode := (.seq (.region 0 [q 2 (.box 74 (t 0)), q 3 (.asg 0 (.const (.bool false)) 4)] false) (.seq (.region 1 [q 4 (.load 134 (t 1)), q 5 (.load 74 (t 2)), q 6 (.call 0 (t 4) [(t 5)]), q 7 (.un .not (t 6)), q 3 (.asg 0 (t 7) 4)] false) .ret))
def impl_areAll_impl_Form__c1_of_p_formCode_c2_L : Live := [(0, [0, 1]), (1, [1, 2])]
noncomputable def impl_areAll_impl_Form__c1_of_p_formCode_c2 (a0 : ((Vec Int 64) × (Vec Int 64))) (a1c0 : Int) (a1c1 : (Vec Int 64)) : Option Bool :=
  (Option.bind (impl_formCode_c2_of_p_p a0 a1c0 a1c1) fun r3 => (some (!r3)))
theorem impl_areAll_impl_Form__c1_of_p_formCode_c2_ok (a0 : ((Vec Int 64) × (Vec Int 64))) (a1c0 : Int) (a1c1 : (Vec Int 64)) (r : Bool) (h : impl_areAll_impl_Form__c1_of_p_formCode_c2 a0 a1c0 a1c1 = some r) : Den Try.prog 172 [(eT_A64u8_A64u8_Z a0), (.ref (.clo 126 [] [(.ref (i6 a1c0) [] []), (.ref (eA64u8 a1c1) [] [])]) [] [])] { r := (.bool r) } := by
  refine den_of (rs := [(.bool r)]) (ac := impl_areAll_impl_Form__c1_of_p_formCode_c2_c) (L := impl_areAll_impl_Form__c1_of_p_formCode_c2_L) (n := 8) (m := []) (c := Try.f172.body.getD .skip) good Try.func172 (by kernel_rfl) (by kernel_rfl) Try.ntmps172 rfl rfl (by kernel_rfl) rfl rfl ?_
  refine a_st (σ' := ⟨[(0, (eT_A64u8_A64u8_Z a0)), (1, (.ref (.clo 126 [] [(.ref (i6 a1c0) [] []), (.ref (eA64u8 a1c1) [] [])]) [] []))], []⟩) (by kernel_rfl) ?_
  unfold impl_areAll_impl_Form__c1_of_p_formCode_c2_c
  refine sr (vo 1200 (eT_A64u8_A64u8_Z a0) rfl rfl (vp (.bool false) rfl (nx ⟨[(1, (.ref (.clo 126 [] [(.ref (i6 a1c0) [] []), (.ref (eA64u8 a1c1) [] [])]) [] [])), (2, (ow 2))], [(2, (bk (eT_A64u8_A64u8_Z a0)))]⟩ (by kernel_rfl) (sr ?_))))
  have hl1 : LdOk [] (.clo 126 [] [(.ref (i6 a1c0) [] []), (.ref (eA64u8 a1c1) [] [])]) [] 1 false (.clo 126 [] [(.ref (i6 a1c0) [] []), (.ref (eA64u8 a1c1) [] [])]) := (.nil rfl rfl rfl)
  refine vq (.clo 126 [] [(.ref (i6 a1c0) [] []), (.ref (eA64u8 a1c1) [] [])]) (ld_ref (i := ⟨.other, 1, 8, (.raw .nilFunc)⟩) rfl rfl hl1) hl1.c (vl (eT_A64u8_A64u8_Z a0) rfl rfl rfl rfl rfl rfl ?_)
  obtain ⟨r3, hr4, h⟩ := bind_some h
  refine a_call (args := [(eT_A64u8_A64u8_Z a0), (.ref (i6 a1c0) [] []), (.ref (eA64u8 a1c1) [] [])]) (u := []) (r := (.bool r3)) rfl rfl (impl_formCode_c2_of_p_p_ok a0 a1c0 a1c1 r3 hr4) rfl (vp (.bool (!r3)) rfl (vp (.bool (!r3)) rfl (nx _ rfl (a_ret ?_))))
  refine ⟨.inr rfl, ?_⟩
  rw [Try.results172]
  cases h
  exact ⟨_, _, _, _, _, rfl, trivial, .inl ⟨rfl, .inl rfl⟩, rfl, rfl⟩
def slices_IndexFunc_impl_Form_impl_Form_of_impl_areAll_impl_Form__c1_p_formCode_c2_c : ACode := (.seq (.region 0 [q 4 (.asg 0 (.const (.int .i64 0)) 3)] false) (.seq (.seq (.region 1 [q 6 (.mov (t 0)), q 7 (.blt 0 .len [(t 6)] [23]), q 8 (.mov (.const (.int .i64 0)))] false) (.block 0 (.loop (.seq (.region 2 [q 9 (.bin .lss 3 (t 8) (t 7))] false) (.seq (.cond (t 9) .skip (.exit 0)) (.seq (.block 1 (.seq (.region 3 [q 10 (.mov (t 8)), q 5 (.asg 0 (t 10) 3)] false) (.seq (.region 4 [q 11 (.mov (t 1)), q 12 (.mov (t 0)), q 13 (.mov (t 5)), q 14 (.indexAddr 23 (t 12) (t 13)), q 15 (.load 74 (t 14)), q 16 (.call 0 (t 11) [(t 15)])] false) (.cond (t 16) (.seq (.region 5 [q 17 (.mov (t 5)), q 4 (.asg 0 (t 17) 3)] false) .ret) .skip)))) (.region 6 [q 18 (.bin .add 3 (t 8) (.const (.int .i64 1))), q 8 (.mov (t 18))] false))))))) (.seq (.region 7 [q 4 (.asg 0 (.const (.int .i64 (-1))) 3)] false) .ret)))
def slices_IndexFunc_impl_Form_impl_Form_of_impl_areAll_impl_Form__c1_p_formCode_c2_L : Live := [(0, [0, 1]), (1, [0, 1]), (2, [0, 1, 7, 8]), (3, [0, 1, 7, 8]), (4, [0, 1, 5, 7, 8]), (5, [5]), (6, [0, 1, 7, 8]), (7, []), (100009, [0, 1, 7, 8, 9]), (100016, [0, 1, 5, 7, 8, 16])]
noncomputable def slices_IndexFunc_impl_Form_impl_Form_of_impl_areAll_impl_Form__c1_p_formCode_c2_l1 (a0 : (List ((Vec Int 64) × (Vec Int 64)))) (a1c0c0 : Int) (a1c0c1 : (Vec Int 64)) (x33 : Int) : Option (Int ⊕ (Unit ⊕ Int)) :=
  (if (decide (x33 < (a0.length : Int))) then (ifp (0 ≤ x33 ∧ x33 < ((a0.length : Nat) : Int)) ((Option.bind (impl_areAll_impl_Form__c1_of_p_formCode_c2 (rd a0 x33.toNat) a1c0c0 a1c0c1) fun r46 => (if r46 then (some (.inr (.inr x33))) else (some (.inl (IntKind.i64.wrap (x33 + 1)))))))) else (some (.inr (((.inl ()))))))
noncomputable def slices_IndexFunc_impl_Form_impl_Form_of_impl_areAll_impl_Form__c1_p_formCode_c2 (a0 : (List ((Vec Int 64) × (Vec Int 64)))) (a1c0c0 : Int) (a1c0c1 : (Vec Int 64)) : Option Int :=
  (Option.bind (α := (Unit ⊕ Int)) ((loopM (fun s : Int => slices_IndexFunc_impl_Form_impl_Form_of_impl_areAll_impl_Form__c1_p_formCode_c2_l1 a0 a1c0c0 a1c0c1 s) 0)) fun z => match z with | .inl _ => (some (-1)) | .inr r50 => (some r50))
theorem slices_IndexFunc_impl_Form_impl_Form_of_impl_areAll_impl_Form__c1_p_formCode_c2_ok (a0 : (List ((Vec Int 64) × (Vec Int 64)))) (a1c0c0 : Int) (a1c0c1 : (Vec Int 64)) (r : Int) (h : slices_IndexFunc_impl_Form_impl_Form_of_impl_areAll_impl_Form__c1_p_formCode_c2 a0 a1c0c0 a1c0c1 = some r) : Den Try.prog 194 [(eST_A64u8_A64u8_Z a0), (.clo 172 [] [(.ref (.clo 126 [] [(.ref (i6 a1c0c0) [] []), (.ref (eA64u8 a1c0c1) [] [])]) [] [])])] { r := (i6 r) } := by
  refine den_of (rs := [(i6 r)]) (ac := slices_IndexFunc_impl_Form_impl_Form_of_impl_areAll_impl_Form__c1_p_formCode_c2_c) (L := slices_IndexFunc_impl_Form_impl_Form_of_impl_areAll_impl_Form__c1_p_formCode_c2_L) (n := 19) (m := []) (c := Try.f194.body.getD .skip) good Try.func194 (by kernel_rfl) (by kernel_rfl) Try.ntmps194 rfl rfl (by kernel_rfl) rfl rfl ?_
  refine a_st (σ' := ⟨[(0, (eST_A64u8_A64u8_Z a0)), (1, (.clo 172 [] [(.ref (.clo 126 [] [(.ref (i6 a1c0c0) [] []), (.ref (eA64u8 a1c0c1) [] [])]) [] [])]))], []⟩) (by kernel_rfl) ?_
  unfold slices_IndexFunc_impl_Form_impl_Form_of_impl_areAll_impl_Form__c1_p_formCode_c2_c
  refine sr (vp (i6 0) rfl (nx ⟨[(0, (eST_A64u8_A64u8_Z a0)), (1, (.clo 172 [] [(.ref (.clo 126 [] [(.ref (i6 a1c0c0) [] []), (.ref (eA64u8 a1c0c1) [] [])]) [] [])]))], []⟩ (by kernel_rfl) ?_))
  obtain ⟨y24, hy25, hk26⟩ := bind_some h
  clear h
  refine a_join (emb := fun (s : Unit) => ⟨[], []⟩) (pre := fun s => (.inl s) = y24) ?_ ?_
  · rintro _ rfl
    have h := hk26
    refine a_st (σ' := ⟨[], []⟩) (by kernel_rfl) (sr (vp (i6 (-1)) rfl (nx _ rfl (a_ret ?_))))
    refine ⟨.inr rfl, ?_⟩
    rw [Try.results194]
    cases h
    exact ⟨_, _, _, _, _, rfl, trivial, .inl ⟨rfl, .inl rfl⟩, rfl, rfl⟩
  · have h := hy25
    refine sr (vp (eST_A64u8_A64u8_Z a0) rfl (vq (i6 (a0.length : Int)) (len_run rfl rfl) trivial (vp (i6 0) rfl (nx ⟨[(0, (eST_A64u8_A64u8_Z a0)), (1, (.clo 172 [] [(.ref (.clo 126 [] [(.ref (i6 a1c0c0) [] []), (.ref (eA64u8 a1c0c1) [] [])]) [] [])])), (7, (i6 (a0.length : Int))), (8, (i6 0))], []⟩ (by kernel_rfl) (a_block ?_)))))
    refine a_loop (emb := fun (s : Int) => ⟨[(0, (eST_A64u8_A64u8_Z a0)), (1, (.clo 172 [] [(.ref (.clo 126 [] [(.ref (i6 a1c0c0) [] []), (.ref (eA64u8 a1c0c1) [] [])]) [] [])])), (7, (i6 (a0.length : Int))), (8, (i6 s))], []⟩) (body := (fun s : Int => slices_IndexFunc_impl_Form_impl_Form_of_impl_areAll_impl_Form__c1_p_formCode_c2_l1 a0 a1c0c0 a1c0c1 s)) (G := fun q => some q = some y24) h rfl ?_ (by kernel_rfl)
    rintro X40 x33 x41 h hX42
    have h : slices_IndexFunc_impl_Form_impl_Form_of_impl_areAll_impl_Form__c1_p_formCode_c2_l1 a0 a1c0c0 a1c0c1 x33 = some x41 := h
    refine a_st (σ' := ⟨[(0, (eST_A64u8_A64u8_Z a0)), (1, (.clo 172 [] [(.ref (.clo 126 [] [(.ref (i6 a1c0c0) [] []), (.ref (eA64u8 a1c0c1) [] [])]) [] [])])), (7, (i6 (a0.length : Int))), (8, (i6 x33))], []⟩) (by kernel_rfl) (sr (vp (.bool ((decide (x33 < (a0.length : Int))))) rfl (nx ⟨[(0, (eST_A64u8_A64u8_Z a0)), (1, (.clo 172 [] [(.ref (.clo 126 [] [(.ref (i6 a1c0c0) [] []), (.ref (eA64u8 a1c0c1) [] [])]) [] [])])), (7, (i6 (a0.length : Int))), (8, (i6 x33)), (9, (.bool ((decide (x33 < (a0.length : Int))))))], []⟩ (by kernel_rfl) (a_seq ?_))))
    cases hb43 : (decide (x33 < (a0.length : Int)))
    · have h := ite_f hb43 h
      refine a_cond_f rfl (a_exit (t_exit ?_))
      cases h
      have h := hX42
      refine t_exit (b_exit ?_)
      exact j_leaf () (Option.some.inj h) (by kernel_rfl)
    · have h := ite_t hb43 h
      refine a_cond_t rfl (a_skip (a_next (σ' := ⟨[(0, (eST_A64u8_A64u8_Z a0)), (1, (.clo 172 [] [(.ref (.clo 126 [] [(.ref (i6 a1c0c0) [] []), (.ref (eA64u8 a1c0c1) [] [])]) [] [])])), (7, (i6 (a0.length : Int))), (8, (i6 x33))], []⟩) (by kernel_rfl) (a_seq (a_block (sr (vp (i6 x33) rfl (vp (i6 x33) rfl (nx ⟨[(0, (eST_A64u8_A64u8_Z a0)), (1, (.clo 172 [] [(.ref (.clo 126 [] [(.ref (i6 a1c0c0) [] []), (.ref (eA64u8 a1c0c1) [] [])]) [] [])])), (5, (i6 x33)), (7, (i6 (a0.length : Int))), (8, (i6 x33))], []⟩ (by kernel_rfl) (sr ?_)))))))))
      refine vp (.clo 172 [] [(.ref (.clo 126 [] [(.ref (i6 a1c0c0) [] []), (.ref (eA64u8 a1c0c1) [] [])]) [] [])]) rfl (vp (eST_A64u8_A64u8_Z a0) rfl (vp (i6 x33) rfl ?_))
      obtain ⟨hc44, h⟩ := ifp_some h
      refine vq (.ref (.row 128 (a0.map eT_A64u8_A64u8_Z)) [x33.toNat] [x33.toNat * 128]) rfl (lmap hc44) ?_
      have hl45 : LdOk [x33.toNat] (.row 128 (a0.map eT_A64u8_A64u8_Z)) [x33.toNat * 128] 128 true (eT_A64u8_A64u8_Z (rd a0 x33.toNat)) := (.row (llt hc44) rfl (.nil rfl rfl rfl))
      refine vq (eT_A64u8_A64u8_Z (rd a0 x33.toNat)) (ld_ref (i := ⟨.struct [(0, 26), (64, 26)], 128, 128, (eT_A64u8_A64u8_Z ((vrep 64 (0 : Int)), (vrep 64 (0 : Int))))⟩) rfl rfl hl45) hl45.c ?_
      obtain ⟨r46, hr47, h⟩ := bind_some h
      refine a_call (args := [(eT_A64u8_A64u8_Z (rd a0 x33.toNat)), (.ref (.clo 126 [] [(.ref (i6 a1c0c0) [] []), (.ref (eA64u8 a1c0c1) [] [])]) [] [])]) (u := []) (r := (.bool r46)) rfl rfl (impl_areAll_impl_Form__c1_of_p_formCode_c2_ok (rd a0 x33.toNat) a1c0c0 a1c0c1 r46 hr47) rfl (nx ⟨[(0, (eST_A64u8_A64u8_Z a0)), (1, (.clo 172 [] [(.ref (.clo 126 [] [(.ref (i6 a1c0c0) [] []), (.ref (eA64u8 a1c0c1) [] [])]) [] [])])), (5, (i6 x33)), (7, (i6 (a0.length : Int))), (8, (i6 x33)), (16, (.bool r46))], []⟩ (by kernel_rfl) ?_)
      cases hb48 : r46
      · have h := ite_f hb48 h
        refine a_cond_f rfl (a_skip (b_norm (a_next (σ' := ⟨[(0, (eST_A64u8_A64u8_Z a0)), (1, (.clo 172 [] [(.ref (.clo 126 [] [(.ref (i6 a1c0c0) [] []), (.ref (eA64u8 a1c0c1) [] [])]) [] [])])), (7, (i6 (a0.length : Int))), (8, (i6 x33))], []⟩) (by kernel_rfl) (a_region (vp (i6 (IntKind.i64.wrap (x33 + 1))) rfl (vp (i6 (IntKind.i64.wrap (x33 + 1))) rfl (a_nil ?_)))))))
        cases h
        exact a_again (by kernel_rfl) hX42
      · have h := ite_t hb48 h
        refine a_cond_t rfl (sr (vp (i6 x33) rfl (vp (i6 x33) rfl (nx _ rfl (a_ret (b_ret (t_ret ?_)))))))
        cases h
        have h := hX42
        refine t_ret (b_ret (t_ret ?_))
        cases h
        have h := hk26
        refine ⟨.inr rfl, ?_⟩
        rw [Try.results194]
        cases h
        exact ⟨_, _, _, _, _, rfl, trivial, .inl ⟨rfl, .inl rfl⟩, rfl, rfl⟩
def slices_ContainsFunc_impl_Form_impl_Form_of_impl_areAll_impl_Form__c1_p_formCode_c2_c : ACode := (.seq (.region 0 [q 4 (.asg 0 (.const (.bool false)) 4)] false) (.seq (.region 1 [q 5 (.mov (t 0)), q 6 (.mov (t 1)), q 7 (.call 0 (.func 194) [(t 5), (t 6)]), q 8 (.bin .geq 3 (t 7) (.const (.int .i64 0))), q 4 (.asg 0 (t 8) 4)] false) .ret))
def slices_ContainsFunc_impl_Form_impl_Form_of_impl_areAll_impl_Form__c1_p_formCode_c2_L : Live := [(0, [0, 1]), (1, [0, 1])]
noncomputable def slices_ContainsFunc_impl_Form_impl_Form_of_impl_areAll_impl_Form__c1_p_formCode_c2 (a0 : (List ((Vec Int 64) × (Vec Int 64)))) (a1c0c0 : Int) (a1c0c1 : (Vec Int 64)) : Option Bool :=
  (Option.bind (slices_IndexFunc_impl_Form_impl_Form_of_impl_areAll_impl_Form__c1_p_formCode_c2 a0 a1c0c0 a1c0c1) fun r1 => (some ((decide (r1 ≥ 0)))))
theorem slices_ContainsFunc_impl_Form_impl_Form_of_impl_areAll_impl_Form__c1_p_formCode_c2_ok (a0 : (List ((Vec Int 64) × (Vec Int 64)))) (a1c0c0 : Int) (a1c0c1 : (Vec Int 64)) (r : Bool) (h : slices_ContainsFunc_impl_Form_impl_Form_of_impl_areAll_impl_Form__c1_p_formCode_c2 a0 a1c0c0 a1c0c1 = some r) : Den Try.prog 171 [(eST_A64u8_A64u8_Z a0), (.clo 172 [] [(.ref (.clo 126 [] [(.ref (i6 a1c0c0) [] []), (.ref (eA64u8 a1c0c1) [] [])]) [] [])])] { r := (.bool r) } := by
  refine den_of (rs := [(.bool r)]) (ac := slices_ContainsFunc_impl_Form_impl_Form_of_impl_areAll_impl_Form__c1_p_formCode_c2_c) (L := slices_ContainsFunc_impl_Form_impl_Form_of_impl_areAll_impl_Form__c1_p_formCode_c2_L) (n := 9) (m := []) (c := Try.f171.body.getD .skip) good Try.func171 (by kernel_rfl) (by kernel_rfl) Try.ntmps171 rfl rfl (by kernel_rfl) rfl rfl ?_
  refine a_st (σ' := ⟨[(0, (eST_A64u8_A64u8_Z a0)), (1, (.clo 172 [] [(.ref (.clo 126 [] [(.ref (i6 a1c0c0) [] []), (.ref (eA64u8 a1c0c1) [] [])]) [] [])]))], []⟩) (by kernel_rfl) ?_
  unfold slices_ContainsFunc_impl_Form_impl_Form_of_impl_areAll_impl_Form__c1_p_formCode_c2_c
  refine sr (vp (.bool false) rfl (nx ⟨[(0, (eST_A64u8_A64u8_Z a0)), (1, (.clo 172 [] [(.ref (.clo 126 [] [(.ref (i6 a1c0c0) [] []), (.ref (eA64u8 a1c0c1) [] [])]) [] [])]))], []⟩ (by kernel_rfl) (sr (vp (eST_A64u8_A64u8_Z a0) rfl (vp (.clo 172 [] [(.ref (.clo 126 [] [(.ref (i6 a1c0c0) [] []), (.ref (eA64u8 a1c0c1) [] [])]) [] [])]) rfl ?_)))))
  obtain ⟨r1, hr2, h⟩ := bind_some h
  refine a_call (args := [(eST_A64u8_A64u8_Z a0), (.clo 172 [] [(.ref (.clo 126 [] [(.ref (i6 a1c0c0) [] []), (.ref (eA64u8 a1c0c1) [] [])]) [] [])])]) (u := []) (r := (i6 r1)) rfl rfl (slices_IndexFunc_impl_Form_impl_Form_of_impl_areAll_impl_Form__c1_p_formCode_c2_ok a0 a1c0c0 a1c0c1 r1 hr2) rfl (vp (.bool ((decide (r1 ≥ 0)))) rfl (vp (.bool ((decide (r1 ≥ 0)))) rfl (nx _ rfl (a_ret ?_))))
  refine ⟨.inr rfl, ?_⟩
  rw [Try.results171]
  cases h
  exact ⟨_, _, _, _, _, rfl, trivial, .inl ⟨rfl, .inl rfl⟩, rfl, rfl⟩
def impl_areAll_impl_Form_of_impl_formCode_c2_p_p_c : ACode := (.seq (.region 0 [q 3 (.box 134 (t 1)), q 4 (.asg 0 (.const (.bool false)) 4)] false) (.seq (.region 1 [q 5 (.mov (t 0)), q 6 (.mkfn 172 [] [(t 3)]), q 7 (.call 0 (.func 171) [(t 5), (t 6)]), q 8 (.un .not (t 7)), q 4 (.asg 0 (t 8) 4)] false) .ret))
def impl_areAll_impl_Form_of_impl_formCode_c2_p_p_L : Live := [(0, [0, 1]), (1, [0, 3])]
noncomputable def impl_areAll_impl_Form_of_impl_formCode_c2_p_p (a0 : (List ((Vec Int 64) × (Vec Int 64)))) (a1c0 : Int) (a1c1 : (Vec Int 64)) : Option Bool :=
  (Option.bind (slices_ContainsFunc_impl_Form_impl_Form_of_impl_areAll_impl_Form__c1_p_formCode_c2 a0 a1c0 a1c1) fun r1 => (some (!r1)))
theorem impl_areAll_impl_Form_of_impl_formCode_c2_p_p_ok (a0 : (List ((Vec Int 64) × (Vec Int 64)))) (a1c0 : Int) (a1c1 : (Vec Int 64)) (r : Bool) (h : impl_areAll_impl_Form_of_impl_formCode_c2_p_p a0 a1c0 a1c1 = some r) : Den Try.prog 123 [(eST_A64u8_A64u8_Z a0), (.clo 126 [] [(.ref (i6 a1c0) [] []), (.ref (eA64u8 a1c1) [] [])])] { r := (.bool r) } := by
  refine den_of (rs := [(.bool r)]) (ac := impl_areAll_impl_Form_of_impl_formCode_c2_p_p_c) (L := impl_areAll_impl_Form_of_impl_formCode_c2_p_p_L) (n := 9) (m := []) (c := Try.f123.body.getD .skip) good Try.func123 (by kernel_rfl) (by kernel_rfl) Try.ntmps123 rfl rfl (by kernel_rfl) rfl rfl ?_
  refine a_st (σ' := ⟨[(0, (eST_A64u8_A64u8_Z a0)), (1, (.clo 126 [] [(.ref (i6 a1c0) [] []), (.ref (eA64u8 a1c1) [] [])]))], []⟩) (by kernel_rfl) ?_
  unfold impl_areAll_impl_Form_of_impl_formCode_c2_p_p_c
  refine sr (vo 1300 (.clo 126 [] [(.ref (i6 a1c0) [] []), (.ref (eA64u8 a1c1) [] [])]) rfl rfl (vp (.bool false) rfl (nx ⟨[(0, (eST_A64u8_A64u8_Z a0)), (3, (ow 3))], [(3, (bk (.clo 126 [] [(.ref (i6 a1c0) [] []), (.ref (eA64u8 a1c1) [] [])])))]⟩ (by kernel_rfl) (sr (vp (eST_A64u8_A64u8_Z a0) rfl (vu (.clo 172 [] [(.ref (.clo 126 [] [(.ref (i6 a1c0) [] []), (.ref (eA64u8 a1c1) [] [])]) [] [])]) [(3, (bf (.clo 126 [] [(.ref (i6 a1c0) [] []), (.ref (eA64u8 a1c1) [] [])])))] rfl trivial rfl ?_))))))
  obtain ⟨r1, hr2, h⟩ := bind_some h
  refine a_call (args := [(eST_A64u8_A64u8_Z a0), (.clo 172 [] [(.ref (.clo 126 [] [(.ref (i6 a1c0) [] []), (.ref (eA64u8 a1c1) [] [])]) [] [])])]) (u := []) (r := (.bool r1)) rfl rfl (slices_ContainsFunc_impl_Form_impl_Form_of_impl_areAll_impl_Form__c1_p_formCode_c2_ok a0 a1c0 a1c1 r1 hr2) rfl (vp (.bool (!r1)) rfl (vp (.bool (!r1)) rfl (nx _ rfl (a_ret ?_))))
  refine ⟨.inr rfl, ?_⟩
  rw [Try.results123]
  cases h
  exact ⟨_, _, _, _, _, rfl, trivial, .inl ⟨rfl, .inl rfl⟩, rfl, rfl⟩
def impl_formCode_c : ACode := (.seq (.region 0 [q 5 (.box 2 (t 0)), q 6 (.box 26 (t 1)), q 10 (.asg 0 (.const (.int .i64 0)) 2)] false) (.seq (.block 0 (.seq (.region 1 [q 12 (.load 2 (t 5)), q 13 (.load 26 (t 6)), q 14 (.call 0 (.func 122) [(t 12), (t 13)]), q 15 (.un .not (t 14)), q 16 (.mov (t 15)), ⟨some 17, .mov (t 4), some (16, false), []⟩, ⟨some 18, .mkfn 124 [] [(t 5), (t 6)], some (16, false), []⟩, ⟨some 19, .call 0 (.func 123) [(t 17), (t 18)], some (16, false), []⟩, ⟨some 20, .un .not (t 19), some (16, false), []⟩, q 21 (.pick (t 16) (.const (.bool true)) (t 20)), q 11 (.asg 0 (t 21) 4)] false) (.cond (t 11) (.seq (.region 2 [q 10 (.asg 0 (.const (.int .i64 1)) 2)] false) .ret) (.seq (.region 3 [q 23 (.mov (t 2)), q 24 (.un .not (t 23)), q 22 (.asg 0 (t 24) 4)] false) (.cond (t 22) (.seq (.region 4 [q 10 (.asg 0 (.const (.int .i64 2)) 2)] false) .ret) (.seq (.region 5 [q 26 (.mov (t 3)), q 27 (.mov (t 26)), ⟨some 28, .mov (t 4), some (27, true), []⟩, ⟨some 29, .mkfn 126 [] [(t 5), (t 6)], some (27, true), []⟩, ⟨some 30, .call 0 (.func 123) [(t 28), (t 29)], some (27, true), []⟩, ⟨some 31, .un .not (t 30), some (27, true), []⟩, q 32 (.pick (t 27) (t 31) (.const (.bool false))), q 25 (.asg 0 (t 32) 4)] false) (.cond (t 25) (.seq (.region 6 [q 10 (.asg 0 (.const (.int .i64 5)) 2)] false) .ret) .skip))))))) (.seq (.region 7 [q 10 (.asg 0 (.const (.int .i64 0)) 2)] false) .ret)))
def impl_formCode_L : Live := [(0, [0, 1, 2, 3, 4]), (1, [2, 3, 4, 5, 6]), (2, []), (3, [2, 3, 4, 5, 6]), (4, []), (5, [3, 4, 5, 6]), (6, []), (7, []), (100011, [2, 3, 4, 5, 6, 11]), (100022, [3, 4, 5, 6, 22]), (100025, [25])]
noncomputable def impl_formCode (a0 : Int) (a1 : (Vec Int 64)) (a2 : Bool) (a3 : Bool) (a4 : (List ((Vec Int 64) × (Vec Int 64)))) : Option Int :=
  (Option.bind (impl_IsDiscriminant a0 a1) fun r11 => (if (!r11) then (some 1) else (Option.bind (impl_areAll_impl_Form_of_impl_formCode_c1_p_p a4 a0 a1) fun r14 => (if (!r14) then (some 1) else (if (!a2) then (some 2) else (Option.bind (α := Bool) ((if a3 then (Option.bind (impl_areAll_impl_Form_of_impl_formCode_c2_p_p a4 a0 a1) fun r26 => (some (!r26))) else (some false))) fun x21 => (if x21 then (some 5) else (some 0))))))))
theorem impl_formCode_ok (a0 : Int) (a1 : (Vec Int 64)) (a2 : Bool) (a3 : Bool) (a4 : (List ((Vec Int 64) × (Vec Int 64)))) (r : Int) (h : impl_formCode a0 a1 a2 a3 a4 = some r) : Den Try.prog 52 [(i6 a0), (eA64u8 a1), (.bool a2), (.bool a3), (eST_A64u8_A64u8_Z a4)] { r := (i6 r) } := by
  refine den_of (rs := [(i6 r)]) (ac := impl_formCode_c) (L := impl_formCode_L) (n := 33) (m := []) (c := Try.f52.body.getD .skip) good Try.func52 (by kernel_rfl) (by kernel_rfl) Try.ntmps52 rfl rfl (by kernel_rfl) rfl rfl ?_
  refine a_st (σ' := ⟨[(0, (i6 a0)), (1, (eA64u8 a1)), (2, (.bool a2)), (3, (.bool a3)), (4, (eST_A64u8_A64u8_Z a4))], []⟩) (by kernel_rfl) ?_
  unfold impl_formCode_c
  refine sr (vo 1500 (i6 a0) rfl rfl (vo 1600 (eA64u8 a1) rfl rfl (vp (i6 0) rfl (nx ⟨[(2, (.bool a2)), (3, (.bool a3)), (4, (eST_A64u8_A64u8_Z a4)), (5, (ow 5)), (6, (ow 6))], [(5, (bk (i6 a0))), (6, (bk (eA64u8 a1)))]⟩ (by kernel_rfl) (a_seq (a_block (sr (vl (i6 a0) rfl rfl rfl rfl rfl rfl (vl (eA64u8 a1) rfl rfl rfl rfl rfl rfl ?_)))))))))
  obtain ⟨r11, hr12, h⟩ := bind_some h
  refine a_call (args := [(i6 a0), (eA64u8 a1)]) (u := []) (r := (.bool r11)) rfl rfl (impl_IsDiscriminant_ok a0 a1 r11 hr12) rfl (vp (.bool (!r11)) rfl (vp (.bool (!r11)) rfl ?_))
  cases hb13 : (!r11)
  · have h := ite_f hb13 h
    refine gp (eST_A64u8_A64u8_Z a4) rfl rfl (a_gval rfl (v := (.clo 124 [] [(.ref (i6 a0) [] []), (.ref (eA64u8 a1) [] [])])) (u := [(5, (bf (i6 a0))), (6, (bf (eA64u8 a1)))]) rfl trivial rfl ?_)
    obtain ⟨r14, hr15, h⟩ := bind_some h
    refine a_gcall rfl (args := [(eST_A64u8_A64u8_Z a4), (.clo 124 [] [(.ref (i6 a0) [] []), (.ref (eA64u8 a1) [] [])])]) (u := []) (r := (.bool r14)) rfl rfl (impl_areAll_impl_Form_of_impl_formCode_c1_p_p_ok a4 a0 a1 r14 hr15) rfl (gp (.bool (!r14)) rfl rfl (vp (.bool (!r14)) rfl (vp (.bool (!r14)) rfl (nx ⟨[(2, (.bool a2)), (3, (.bool a3)), (4, (eST_A64u8_A64u8_Z a4)), (5, (ow 5)), (6, (ow 6)), (11, (.bool (!r14)))], [(5, (bf (i6 a0))), (6, (bf (eA64u8 a1)))]⟩ (by kernel_rfl) ?_))))
    cases hb16 : (!r14)
    · have h := ite_f hb16 h
      refine a_cond_f rfl (sr (vp (.bool a2) rfl (vp (.bool (!a2)) rfl (vp (.bool (!a2)) rfl (nx ⟨[(3, (.bool a3)), (4, (eST_A64u8_A64u8_Z a4)), (5, (ow 5)), (6, (ow 6)), (22, (.bool (!a2)))], [(5, (bf (i6 a0))), (6, (bf (eA64u8 a1)))]⟩ (by kernel_rfl) ?_)))))
      cases hb17 : (!a2)
      · have h := ite_f hb17 h
        refine a_cond_f rfl ?_
        obtain ⟨y22, hy23, hk24⟩ := bind_some h
        clear h
        refine a_join (emb := fun (s : Bool) => ⟨[(25, (.bool s))], []⟩) (pre := fun s => s = y22) ?_ ?_
        · rintro x21 rfl
          have h := hk24
          refine a_st (σ' := ⟨[(25, (.bool x21))], []⟩) (by kernel_rfl) ?_
          cases hb28 : x21
          · have h := ite_f hb28 h
            refine a_cond_f rfl (a_skip (b_norm (a_next (σ' := ⟨[], []⟩) (by kernel_rfl) (sr (vp (i6 0) rfl (nx _ rfl (a_ret ?_)))))))
            refine ⟨.inr rfl, ?_⟩
            rw [Try.results52]
            cases h
            exact ⟨_, _, _, _, _, rfl, trivial, .inl ⟨rfl, .inl rfl⟩, rfl, rfl⟩
          · have h := ite_t hb28 h
            refine a_cond_t rfl (sr (vp (i6 5) rfl (nx _ rfl (a_ret (b_ret (t_ret ?_))))))
            refine ⟨.inr rfl, ?_⟩
            rw [Try.results52]
            cases h
            exact ⟨_, _, _, _, _, rfl, trivial, .inl ⟨rfl, .inl rfl⟩, rfl, rfl⟩
        · have h := hy23
          refine a_region (vp (.bool a3) rfl (vp (.bool a3) rfl ?_))
          cases hb25 : a3
          · have h := ite_f hb25 h
            refine a_gskip rfl (a_gskip rfl (a_gskip rfl (a_gskip rfl (vp (.bool false) rfl (vp (.bool false) rfl (a_nil ?_))))))
            exact j_leaf false (Option.some.inj h) (by kernel_rfl)
          · have h := ite_t hb25 h
            refine gp (eST_A64u8_A64u8_Z a4) rfl rfl (a_gval rfl (v := (.clo 126 [] [(.ref (i6 a0) [] []), (.ref (eA64u8 a1) [] [])])) (u := [(5, (bf (i6 a0))), (6, (bf (eA64u8 a1)))]) rfl trivial rfl ?_)
            obtain ⟨r26, hr27, h⟩ := bind_some h
            refine a_gcall rfl (args := [(eST_A64u8_A64u8_Z a4), (.clo 126 [] [(.ref (i6 a0) [] []), (.ref (eA64u8 a1) [] [])])]) (u := []) (r := (.bool r26)) rfl rfl (impl_areAll_impl_Form_of_impl_formCode_c2_p_p_ok a4 a0 a1 r26 hr27) rfl (gp (.bool (!r26)) rfl rfl (vp (.bool (!r26)) rfl (vp (.bool (!r26)) rfl (a_nil ?_))))
            exact j_leaf (!r26) (Option.some.inj h) (by kernel_rfl)
      · have h := ite_t hb17 h
        refine a_cond_t rfl (sr (vp (i6 2) rfl (nx _ rfl (a_ret (b_ret (t_ret ?_))))))
        refine ⟨.inr rfl, ?_⟩
        rw [Try.results52]
        cases h
        exact ⟨_, _, _, _, _, rfl, trivial, .inl ⟨rfl, .inl rfl⟩, rfl, rfl⟩
    · have h := ite_t hb16 h
      refine a_cond_t rfl (sr (vp (i6 1) rfl (nx _ rfl (a_ret (b_ret (t_ret ?_))))))
      refine ⟨.inr rfl, ?_⟩
      rw [Try.results52]
      cases h
      exact ⟨_, _, _, _, _, rfl, trivial, .inl ⟨rfl, .inl rfl⟩, rfl, rfl⟩
  · have h := ite_t hb13 h
    refine a_gskip rfl (a_gskip rfl (a_gskip rfl (a_gskip rfl (vp (.bool true) rfl (vp (.bool true) rfl (nx ⟨[(2, (.bool a2)), (3, (.bool a3)), (4, (eST_A64u8_A64u8_Z a4)), (5, (ow 5)), (6, (ow 6)), (11, (.bool true))], [(5, (bk (i6 a0))), (6, (bk (eA64u8 a1)))]⟩ (by kernel_rfl) (a_cond_t rfl (sr (vp (i6 1) rfl ?_)))))))))
    refine nx _ rfl (a_ret (b_ret (t_ret ?_)))
    refine ⟨.inr rfl, ?_⟩
    rw [Try.results52]
    cases h
    exact ⟨_, _, _, _, _, rfl, trivial, .inl ⟨rfl, .inl rfl⟩, rfl, rfl⟩
def impl_prime_norm_c : ACode := (.seq (.region 0 [q 6 (.asg 0 (.const (.int .i64 0)) 2)] false) (.seq (.region 1 [q 7 (.asg 0 (.const (.int .i64 1)) 2)] false) (.seq (.seq (.region 2 [q 8 (.mov (t 1)), q 9 (.mov (.const (.int .i64 0)))] false) (.block 0 (.loop (.seq (.region 3 [q 10 (.bin .lss 2 (t 9) (t 8))] false) (.seq (.cond (t 10) .skip (.exit 0)) (.seq (.block 1 (.seq (.seq (.region 4 [q 11 (.mov (t 7)), q 12 (.mov (t 2)), q 13 (.bin .gtr 2 (t 11) (t 12))] false) (.cond (t 13) (.exit 0) .skip)) (.region 5 [q 14 (.mov (t 7)), q 15 (.mov (t 0)), q 16 (.bin .mul 2 (t 14) (t 15)), q 7 (.asg 0 (t 16) 2)] false))) (.region 6 [q 17 (.bin .add 2 (t 9) (.const (.int .i64 1))), q 9 (.mov (t 17))] false))))))) (.seq (.region 7 [q 18 (.mov (t 7)), q 6 (.asg 0 (t 18) 2)] false) .ret))))
def impl_prime_norm_L : Live := [(0, [0, 1, 2]), (1, [0, 1, 2]), (2, [0, 1, 2, 7]), (3, [0, 2, 7, 8, 9]), (4, [0, 2, 7, 8, 9]), (5, [0, 2, 7, 8, 9]), (6, [0, 2, 7, 8, 9]), (7, [7]), (100010, [0, 2, 7, 8, 9, 10]), (100013, [0, 2, 7, 8, 9, 13])]
noncomputable def impl_prime_norm_l1 (a1 : Int) (a2 : Int) (a0 : Int) (x19 : Int) (x20 : Int) : Option ((Int × Int) ⊕ Int) :=
  (if (decide (x20 < a1)) then (if (decide (x19 > a2)) then (some (.inr x19)) else (some (.inl ((IntKind.i64.wrap (x19 * a0), IntKind.i64.wrap (x20 + 1)))))) else (some (.inr x19)))
noncomputable def impl_prime_norm (a0 : Int) (a1 : Int) (a2 : Int) : Option Int :=
  (Option.bind (α := Int) ((loopM (fun s : (Int × Int) => impl_prime_norm_l1 a1 a2 a0 s.1 s.2) (1, 0))) fun x13 => (some x13))
theorem impl_prime_norm_ok (a0 : Int) (a1 : Int) (a2 : Int) (r : Int) (h : impl_prime_norm a0 a1 a2 = some r) : Den Try.prog 73 [(i6 a0), (i6 a1), (i6 a2)] { r := (i6 r) } := by
  refine den_of (rs := [(i6 r)]) (ac := impl_prime_norm_c) (L := impl_prime_norm_L) (n := 19) (m := []) (c := Try.f73.body.getD .skip) good Try.func73 (by kernel_rfl) (by kernel_rfl) Try.ntmps73 rfl rfl (by kernel_rfl) rfl rfl ?_
  refine a_st (σ' := ⟨[(0, (i6 a0)), (1, (i6 a1)), (2, (i6 a2))], []⟩) (by kernel_rfl) ?_
  unfold impl_prime_norm_c
  refine sr (vp (i6 0) rfl (nx ⟨[(0, (i6 a0)), (1, (i6 a1)), (2, (i6 a2))], []⟩ (by kernel_rfl) (sr (vp (i6 1) rfl (nx ⟨[(0, (i6 a0)), (1, (i6 a1)), (2, (i6 a2)), (7, (i6 1))], []⟩ (by kernel_rfl) ?_)))))
  obtain ⟨y14, hy15, hk16⟩ := bind_some h
  clear h
  refine a_join (emb := fun (s : Int) => ⟨[(7, (i6 s))], []⟩) (pre := fun s => s = y14) ?_ ?_
  · rintro x13 rfl
    have h := hk16
    refine a_st (σ' := ⟨[(7, (i6 x13))], []⟩) (by kernel_rfl) (sr (vp (i6 x13) rfl (vp (i6 x13) rfl (nx _ rfl (a_ret ?_)))))
    refine ⟨.inr rfl, ?_⟩
    rw [Try.results73]
    cases h
    exact ⟨_, _, _, _, _, rfl, trivial, .inl ⟨rfl, .inl rfl⟩, rfl, rfl⟩
  · have h := hy15
    refine sr (vp (i6 a1) rfl (vp (i6 0) rfl (nx ⟨[(0, (i6 a0)), (2, (i6 a2)), (7, (i6 1)), (8, (i6 a1)), (9, (i6 0))], []⟩ (by kernel_rfl) (a_block ?_))))
    refine a_loop (emb := fun (s : (Int × Int)) => ⟨[(0, (i6 a0)), (2, (i6 a2)), (7, (i6 s.1)), (8, (i6 a1)), (9, (i6 s.2))], []⟩) (body := (fun s : (Int × Int) => impl_prime_norm_l1 a1 a2 a0 s.1 s.2)) (G := fun q => some q = some y14) h rfl ?_ (by kernel_rfl)
    rintro X23 ⟨x19, x20⟩ x24 h hX25
    have h : impl_prime_norm_l1 a1 a2 a0 x19 x20 = some x24 := h
    refine a_st (σ' := ⟨[(0, (i6 a0)), (2, (i6 a2)), (7, (i6 x19)), (8, (i6 a1)), (9, (i6 x20))], []⟩) (by kernel_rfl) (sr (vp (.bool ((decide (x20 < a1)))) rfl (nx ⟨[(0, (i6 a0)), (2, (i6 a2)), (7, (i6 x19)), (8, (i6 a1)), (9, (i6 x20)), (10, (.bool ((decide (x20 < a1)))))], []⟩ (by kernel_rfl) (a_seq ?_))))
    cases hb26 : (decide (x20 < a1))
    · have h := ite_f hb26 h
      refine a_cond_f rfl (a_exit (t_exit ?_))
      cases h
      have h := hX25
      refine t_exit (b_exit ?_)
      exact j_leaf x19 (Option.some.inj h) (by kernel_rfl)
    · have h := ite_t hb26 h
      refine a_cond_t rfl (a_skip (a_next (σ' := ⟨[(0, (i6 a0)), (2, (i6 a2)), (7, (i6 x19)), (8, (i6 a1)), (9, (i6 x20))], []⟩) (by kernel_rfl) (a_seq (a_block (a_seq (sr (vp (i6 x19) rfl (vp (i6 a2) rfl (vp (.bool ((decide (x19 > a2)))) rfl ?_)))))))))
      refine nx ⟨[(0, (i6 a0)), (2, (i6 a2)), (7, (i6 x19)), (8, (i6 a1)), (9, (i6 x20)), (13, (.bool ((decide (x19 > a2)))))], []⟩ (by kernel_rfl) ?_
      cases hb27 : (decide (x19 > a2))
      · have h := ite_f hb27 h
        refine a_cond_f rfl (a_skip (a_next (σ' := ⟨[(0, (i6 a0)), (2, (i6 a2)), (7, (i6 x19)), (8, (i6 a1)), (9, (i6 x20))], []⟩) (by kernel_rfl) (a_region (vp (i6 x19) rfl (vp (i6 a0) rfl (vp (i6 (IntKind.i64.wrap (x19 * a0))) rfl (vp (i6 (IntKind.i64.wrap (x19 * a0))) rfl (a_nil (b_norm ?_)))))))))
        refine a_next (σ' := ⟨[(0, (i6 a0)), (2, (i6 a2)), (7, (i6 (IntKind.i64.wrap (x19 * a0)))), (8, (i6 a1)), (9, (i6 x20))], []⟩) (by kernel_rfl) (a_region (vp (i6 (IntKind.i64.wrap (x20 + 1))) rfl (vp (i6 (IntKind.i64.wrap (x20 + 1))) rfl (a_nil ?_))))
        cases h
        exact a_again (by kernel_rfl) hX25
      · have h := ite_t hb27 h
        refine a_cond_t rfl (a_exit (t_exit (b_other rfl (t_exit ?_))))
        cases h
        have h := hX25
        refine t_exit (b_exit ?_)
        exact j_leaf x19 (Option.some.inj h) (by kernel_rfl)
def impl_prime_numbered_c : ACode := (.seq (.region 0 [q 4 (.asg 1 (.const (.slice none 0 0)) 66)] false) (.seq (.region 1 [q 5 (.asg 2 (.const (.slice none 0 0)) 66)] false) (.seq (.block 0 (.loop (.seq (.seq (.region 2 [q 6 (.mov (t 1)), q 7 (.bin .gtr 2 (t 6) (.const (.int .i64 0)))] false) (.cond (t 7) .skip (.exit 0))) (.seq (.block 1 (.region 4 [q 11 (.mov (t 5)), q 12 (.mov (t 1)), q 13 (.mov (t 0)), q 14 (.bin .rem 2 (t 12) (t 13)), q 15 (.bslice 0 66 1 [(0, (t 14))]), q 16 (.blt 0 .append [(t 11), (t 15)] [66, 66]), q 5 (.asg 2 (t 16) 66)] false)) (.region 3 [q 8 (.mov (t 1)), q 9 (.mov (t 0)), q 10 (.bin .quo 2 (t 8) (t 9)), q 1 (.asg 0 (t 10) 2)] false))))) (.seq (.region 5 [q 17 (.mov (t 5)), q 4 (.asg 1 (t 17) 66)] false) .ret))))
def impl_prime_numbered_L : Live := [(0, [0, 1]), (1, [0, 1]), (2, [0, 1, 5]), (3, [0, 1, 5]), (4, [0, 1, 5]), (5, [5]), (100007, [0, 1, 5, 7])]
noncomputable def impl_prime_numbered_l1 (a0 : Int) (x27 : Int) (x28 : (List Int)) : Option ((Int × (List Int)) ⊕ (List Int)) :=
  (if (decide (x27 > 0)) then (ifp (a0 ≠ 0) ((ifp ((x28.length + ([Int.tmod x27 a0] : List Int).length) * 8 ≤ 140737488355328) ((ifp (a0 ≠ 0) ((some (.inl ((IntKind.i64.wrap (Int.tdiv x27 a0), (x28 ++ ([Int.tmod x27 a0])))))))))))) else (some (.inr x28)))
noncomputable def impl_prime_numbered (a0 : Int) (a1 : Int) : Option (List Int) :=
  (Option.bind (α := (List Int)) ((loopM (fun s : (Int × (List Int)) => impl_prime_numbered_l1 a0 s.1 s.2) (a1, []))) fun x19 => (some x19))
theorem impl_prime_numbered_ok (a0 : Int) (a1 : Int) (r : (List Int)) (h : impl_prime_numbered a0 a1 = some r) : Den Try.prog 72 [(i6 a0), (i6 a1)] { r := (eSi64 r) } := by
  refine den_of (rs := [(eSi64 r)]) (ac := impl_prime_numbered_c) (L := impl_prime_numbered_L) (n := 18) (m := [(4, 1), (5, 2)]) (c := Try.f72.body.getD .skip) good Try.func72 (by kernel_rfl) (by kernel_rfl) Try.ntmps72 rfl rfl (by kernel_rfl) rfl rfl ?_
  refine a_st (σ' := ⟨[(0, (i6 a0)), (1, (i6 a1))], []⟩) (by kernel_rfl) ?_
  unfold impl_prime_numbered_c
  refine sr (vp (eSi64 ([])) rfl (nx ⟨[(0, (i6 a0)), (1, (i6 a1))], []⟩ (by kernel_rfl) (sr (vu (.osl 1500) [(1500, (bk (.row 1 (([]).map (AV.int .i64)))))] rfl trivial rfl (nx ⟨[(0, (i6 a0)), (1, (i6 a1)), (5, (.osl 5))], [(5, (bk (.row 1 (([]).map (AV.int .i64)))))]⟩ (by kernel_rfl) ?_)))))
  obtain ⟨y20, hy21, hk22⟩ := bind_some h
  clear h
  refine a_join (emb := fun (s : (List Int)) => ⟨[(5, (.osl 5))], [(5, (bk (.row 1 (s.map (AV.int .i64)))))]⟩) (pre := fun s => s = y20) ?_ ?_
  · rintro x19 rfl
    have h := hk22
    refine a_st (σ' := ⟨[(5, (.osl 5))], [(5, (bk (.row 1 (x19.map (AV.int .i64)))))]⟩) (by kernel_rfl) (sr (vp (.osl 5) rfl (vu (eSi64 x19) [(5, (bf (.row 1 (x19.map (AV.int .i64)))))] rfl trivial rfl (nx _ rfl (a_ret ?_)))))
    refine ⟨.inr rfl, ?_⟩
    rw [Try.results72]
    cases h
    exact ⟨_, _, _, _, _, rfl, trivial, .inl ⟨rfl, .inl rfl⟩, rfl, rfl⟩
  · have h := hy21
    refine a_block ?_
    refine a_loop (emb := fun (s : (Int × (List Int))) => ⟨[(0, (i6 a0)), (1, (i6 s.1)), (5, (.osl 5))], [(5, (bk (.row 1 (s.2.map (AV.int .i64)))))]⟩) (body := (fun s : (Int × (List Int)) => impl_prime_numbered_l1 a0 s.1 s.2)) (G := fun q => some q = some y20) h rfl ?_ (by kernel_rfl)
    rintro X33 ⟨x27, x28⟩ x34 h hX35
    have h : impl_prime_numbered_l1 a0 x27 x28 = some x34 := h
    refine a_st (σ' := ⟨[(0, (i6 a0)), (1, (i6 x27)), (5, (.osl 5))], [(5, (bk (.row 1 (x28.map (AV.int .i64)))))]⟩) (by kernel_rfl) (a_seq (sr (vp (i6 x27) rfl (vp (.bool ((decide (x27 > 0)))) rfl (nx ⟨[(0, (i6 a0)), (1, (i6 x27)), (5, (.osl 5)), (7, (.bool ((decide (x27 > 0)))))], [(5, (bk (.row 1 (x28.map (AV.int .i64)))))]⟩ (by kernel_rfl) ?_)))))
    cases hb36 : (decide (x27 > 0))
    · have h := ite_f hb36 h
      refine a_cond_f rfl (a_exit (t_exit ?_))
      cases h
      have h := hX35
      refine t_exit (b_exit ?_)
      exact j_leaf x28 (Option.some.inj h) (by kernel_rfl)
    · have h := ite_t hb36 h
      refine a_cond_t rfl (a_skip (a_next (σ' := ⟨[(0, (i6 a0)), (1, (i6 x27)), (5, (.osl 5))], [(5, (bk (.row 1 (x28.map (AV.int .i64)))))]⟩) (by kernel_rfl) (a_seq (a_block (a_region (vp (.osl 5) rfl (vp (i6 x27) rfl (vp (i6 a0) rfl ?_))))))))
      obtain ⟨hc37, h⟩ := ifp_some h
      refine vq (i6 (Int.tmod x27 a0)) rfl hc37 (vq (.sl 1 true (([Int.tmod x27 a0]).map (AV.int .i64))) rfl ⟨(Nat.le_of_ble_eq_true rfl), (Nat.le_of_ble_eq_true rfl), (all_cons ⟨(Nat.le_of_ble_eq_true rfl), rfl⟩ all_nil)⟩ ?_)
      obtain ⟨hc38, h⟩ := ifp_some h
      refine vu (.osl 2600) [(2600, (bk (.row 1 (((x28 ++ ([Int.tmod x27 a0]))).map (AV.int .i64))))), (5, none)] (app_run (i := ⟨.int .i64, 1, 8, (.int .i64 0)⟩) (f := (AV.int .i64)) (l := x28) (l2 := [Int.tmod x27 a0]) rfl rfl rfl rfl (fun _ => rfl) rfl rfl) (app_c (f := (AV.int .i64)) (s := 1) (sz := 1) (by' := 8) (u := []) (id := 5) hc38 (.inr rfl) rfl rfl rfl) rfl (vp (.osl 2600) rfl (a_nil (b_norm (a_next (σ' := ⟨[(0, (i6 a0)), (1, (i6 x27)), (5, (.osl 5))], [(5, (bk (.row 1 (((x28 ++ ([Int.tmod x27 a0]))).map (AV.int .i64)))))]⟩) (by kernel_rfl) (a_region (vp (i6 x27) rfl (vp (i6 a0) rfl ?_)))))))
      obtain ⟨hc39, h⟩ := ifp_some h
      refine vq (i6 (IntKind.i64.wrap (Int.tdiv x27 a0))) rfl hc39 (vp (i6 (IntKind.i64.wrap (Int.tdiv x27 a0))) rfl (a_nil ?_))
      cases h
      exact a_again (by kernel_rfl) hX35
def impl_prime_monics_c : ACode := (.seq (.region 0 [q 4 (.asg 1 (.const (.slice none 0 0)) 82)] false) (.seq (.region 1 [q 8 (.mov (t 0)), q 9 (.mov (t 1)), q 10 (.call 0 (.func 73) [(t 8), (t 9), (.const (.int .i64 343))]), q 5 (.asg 0 (t 10) 2)] false) (.seq (.region 2 [q 6 (.asg 2 (.const (.slice none 0 0)) 82)] false) (.seq (.seq (.region 3 [q 11 (.mov (t 5)), q 12 (.mov (.const (.int .i64 0)))] false) (.block 0 (.loop (.seq (.region 4 [q 13 (.bin .lss 2 (t 12) (t 11))] false) (.seq (.cond (t 13) .skip (.exit 0)) (.seq (.block 1 (.seq (.region 5 [q 14 (.mov (t 12)), q 7 (.asg 0 (t 14) 2)] false) (.region 6 [q 15 (.mov (t 6)), q 16 (.mov (t 0)), q 17 (.mov (t 5)), q 18 (.mov (t 7)), q 19 (.bin .add 2 (t 17) (t 18)), q 20 (.call 0 (.func 72) [(t 16), (t 19)]), q 21 (.bslice 0 82 1 [(0, (t 20))]), q 22 (.blt 0 .append [(t 15), (t 21)] [82, 82]), q 6 (.asg 2 (t 22) 82)] false))) (.region 7 [q 23 (.bin .add 2 (t 12) (.const (.int .i64 1))), q 12 (.mov (t 23))] false))))))) (.seq (.region 8 [q 24 (.mov (t 6)), q 4 (.asg 1 (t 24) 82)] false) .ret)))))
def impl_prime_monics_L : Live := [(0, [0, 1]), (1, [0, 1]), (2, [0, 5]), (3, [0, 5, 6]), (4, [0, 5, 6, 11, 12]), (5, [0, 5, 6, 11, 12]), (6, [0, 5, 6, 7, 11, 12]), (7, [0, 5, 6, 11, 12]), (8, [6]), (100013, [0, 5, 6, 11, 12, 13])]
noncomputable def impl_prime_monics_l1 (r1 : Int) (a0 : Int) (x29 : Int) (x30 : (List (List Int))) : Option ((Int × (List (List Int))) ⊕ (List (List Int))) :=
  (if (decide (x29 < r1)) then (Option.bind (impl_prime_numbered a0 (IntKind.i64.wrap (r1 + x29))) fun r39 => (ifp ((x30.length + ([r39] : List (List Int)).length) * 24 ≤ 140737488355328) ((some (.inl ((IntKind.i64.wrap (x29 + 1), (x30 ++ ([r39]))))))))) else (some (.inr x30)))
noncomputable def impl_prime_monics (a0 : Int) (a1 : Int) : Option (List (List Int)) :=
  (Option.bind (impl_prime_norm a0 a1 343) fun r1 => (Option.bind (α := (List (List Int))) ((loopM (fun s : (Int × (List (List Int))) => impl_prime_monics_l1 r1 a0 s.1 s.2) (0, []))) fun x21 => (some x21)))
theorem impl_prime_monics_ok (a0 : Int) (a1 : Int) (r : (List (List Int))) (h : impl_prime_monics a0 a1 = some r) : Den Try.prog 107 [(i6 a0), (i6 a1)] { r := (eSSi64 r) } := by
  refine den_of (rs := [(eSSi64 r)]) (ac := impl_prime_monics_c) (L := impl_prime_monics_L) (n := 25) (m := [(4, 1), (6, 2)]) (c := Try.f107.body.getD .skip) good Try.func107 (by kernel_rfl) (by kernel_rfl) Try.ntmps107 rfl rfl (by kernel_rfl) rfl rfl ?_
  refine a_st (σ' := ⟨[(0, (i6 a0)), (1, (i6 a1))], []⟩) (by kernel_rfl) ?_
  unfold impl_prime_monics_c
  refine sr (vp (eSSi64 ([])) rfl (nx ⟨[(0, (i6 a0)), (1, (i6 a1))], []⟩ (by kernel_rfl) (sr (vp (i6 a0) rfl (vp (i6 a1) rfl ?_)))))
  obtain ⟨r1, hr2, h⟩ := bind_some h
  refine a_call (args := [(i6 a0), (i6 a1), (i6 343)]) (u := []) (r := (i6 r1)) rfl rfl (impl_prime_norm_ok a0 a1 343 r1 hr2) rfl (vp (i6 r1) rfl (nx ⟨[(0, (i6 a0)), (5, (i6 r1))], []⟩ (by kernel_rfl) (sr (vu (.osl 1600) [(1600, (bk (.row 1 (([]).map eSi64))))] rfl trivial rfl (nx ⟨[(0, (i6 a0)), (5, (i6 r1)), (6, (.osl 6))], [(6, (bk (.row 1 (([]).map eSi64))))]⟩ (by kernel_rfl) ?_)))))
  obtain ⟨y22, hy23, hk24⟩ := bind_some h
  clear h
  refine a_join (emb := fun (s : (List (List Int))) => ⟨[(6, (.osl 6))], [(6, (bk (.row 1 (s.map eSi64))))]⟩) (pre := fun s => s = y22) ?_ ?_
  · rintro x21 rfl
    have h := hk24
    refine a_st (σ' := ⟨[(6, (.osl 6))], [(6, (bk (.row 1 (x21.map eSi64))))]⟩) (by kernel_rfl) (sr (vp (.osl 6) rfl (vu (eSSi64 x21) [(6, (bf (.row 1 (x21.map eSi64))))] rfl trivial rfl (nx _ rfl (a_ret ?_)))))
    refine ⟨.inr rfl, ?_⟩
    rw [Try.results107]
    cases h
    exact ⟨_, _, _, _, _, rfl, trivial, .inl ⟨rfl, .inl rfl⟩, rfl, rfl⟩
  · have h := hy23
    refine sr (vp (i6 r1) rfl (vp (i6 0) rfl (nx ⟨[(0, (i6 a0)), (5, (i6 r1)), (6, (.osl 6)), (11, (i6 r1)), (12, (i6 0))], [(6, (bk (.row 1 (([]).map eSi64))))]⟩ (by kernel_rfl) (a_block ?_))))
    refine a_loop (emb := fun (s : (Int × (List (List Int)))) => ⟨[(0, (i6 a0)), (5, (i6 r1)), (6, (.osl 6)), (11, (i6 r1)), (12, (i6 s.1))], [(6, (bk (.row 1 (s.2.map eSi64))))]⟩) (body := (fun s : (Int × (List (List Int))) => impl_prime_monics_l1 r1 a0 s.1 s.2)) (G := fun q => some q = some y22) h rfl ?_ (by kernel_rfl)
    rintro X35 ⟨x29, x30⟩ x36 h hX37
    have h : impl_prime_monics_l1 r1 a0 x29 x30 = some x36 := h
    refine a_st (σ' := ⟨[(0, (i6 a0)), (5, (i6 r1)), (6, (.osl 6)), (11, (i6 r1)), (12, (i6 x29))], [(6, (bk (.row 1 (x30.map eSi64))))]⟩) (by kernel_rfl) (sr (vp (.bool ((decide (x29 < r1)))) rfl (nx ⟨[(0, (i6 a0)), (5, (i6 r1)), (6, (.osl 6)), (11, (i6 r1)), (12, (i6 x29)), (13, (.bool ((decide (x29 < r1)))))], [(6, (bk (.row 1 (x30.map eSi64))))]⟩ (by kernel_rfl) (a_seq ?_))))
    cases hb38 : (decide (x29 < r1))
    · have h := ite_f hb38 h
      refine a_cond_f rfl (a_exit (t_exit ?_))
      cases h
      have h := hX37
      refine t_exit (b_exit ?_)
      exact j_leaf x30 (Option.some.inj h) (by kernel_rfl)
    · have h := ite_t hb38 h
      refine a_cond_t rfl (a_skip (a_next (σ' := ⟨[(0, (i6 a0)), (5, (i6 r1)), (6, (.osl 6)), (11, (i6 r1)), (12, (i6 x29))], [(6, (bk (.row 1 (x30.map eSi64))))]⟩) (by kernel_rfl) (a_seq (a_block (sr (vp (i6 x29) rfl (vp (i6 x29) rfl (nx ⟨[(0, (i6 a0)), (5, (i6 r1)), (6, (.osl 6)), (7, (i6 x29)), (11, (i6 r1)), (12, (i6 x29))], [(6, (bk (.row 1 (x30.map eSi64))))]⟩ (by kernel_rfl) (a_region ?_)))))))))
      refine vp (.osl 6) rfl (vp (i6 a0) rfl (vp (i6 r1) rfl (vp (i6 x29) rfl (vp (i6 (IntKind.i64.wrap (r1 + x29))) rfl ?_))))
      obtain ⟨r39, hr40, h⟩ := bind_some h
      refine a_call (args := [(i6 a0), (i6 (IntKind.i64.wrap (r1 + x29)))]) (u := []) (r := (eSi64 r39)) rfl rfl (impl_prime_numbered_ok a0 (IntKind.i64.wrap (r1 + x29)) r39 hr40) rfl (vq (.sl 1 true (([r39]).map eSi64)) rfl ⟨(Nat.le_of_ble_eq_true rfl), (Nat.le_of_ble_eq_true rfl), (all_cons ⟨(Nat.le_of_ble_eq_true rfl), rfl⟩ all_nil)⟩ ?_)
      obtain ⟨hc41, h⟩ := ifp_some h
      refine vu (.osl 3200) [(3200, (bk (.row 1 (((x30 ++ ([r39]))).map eSi64)))), (6, none)] (app_run (i := ⟨.slice 2, 1, 24, (eSi64 [])⟩) (f := eSi64) (l := x30) (l2 := [r39]) rfl rfl rfl rfl (fun _ => rfl) rfl rfl) (app_c (f := eSi64) (s := 1) (sz := 1) (by' := 24) (u := []) (id := 6) hc41 (.inr rfl) rfl rfl rfl) rfl (vp (.osl 3200) rfl (a_nil (b_norm (a_next (σ' := ⟨[(0, (i6 a0)), (5, (i6 r1)), (6, (.osl 6)), (11, (i6 r1)), (12, (i6 x29))], [(6, (bk (.row 1 (((x30 ++ ([r39]))).map eSi64))))]⟩) (by kernel_rfl) (a_region (vp (i6 (IntKind.i64.wrap (x29 + 1))) rfl (vp (i6 (IntKind.i64.wrap (x29 + 1))) rfl (a_nil ?_))))))))
      cases h
      exact a_again (by kernel_rfl) hX37
end Go.Proofs.Ytdhcpekngpndnaa
