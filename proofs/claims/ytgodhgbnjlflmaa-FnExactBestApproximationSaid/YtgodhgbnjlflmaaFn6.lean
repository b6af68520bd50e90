/- Functions of the program: plain Lean functions, and that the program computes them. Printed by gen.py. -/
import Derived.Test.YtgodhgbnjlflmaaFnT
import Derived.Test.YtgodhgbnjlflmaaFn1
import Derived.Test.YtgodhgbnjlflmaaFn2
import Derived.Test.YtgodhgbnjlflmaaFn3
import Derived.Test.YtgodhgbnjlflmaaFn4
import Derived.Test.YtgodhgbnjlflmaaFn5
namespace Go.Proofs.Ytgodhgbnjlflmaa
open Go.Abs Go.Proofs
set_option linter.unusedSimpArgs false
set_option linter.unusedVariables false
attribute [local irreducible] Abs.acode Abs.aops Abs.aopsT Abs.thenK Abs.blockK

def impl_BestApproximation_c : ACode := (.seq (.region 0 [⟨some 5, .box 23 (.tmp 1), none, []⟩, ⟨some 6, .box 23 (.tmp 2), none, []⟩, ⟨some 8, .alloc 23, none, []⟩, ⟨some 9, .alloc 23, none, []⟩, ⟨some 10, .asg 0 (.const (.int .i64 0)) 2, none, []⟩] false) (.seq (.seq (.region 1 [⟨some 17, .mov (.tmp 0), none, []⟩, ⟨some 18, .load 23 (.tmp 5), none, []⟩, ⟨some 19, .load 23 (.tmp 6), none, []⟩, ⟨some 20, .mov (.tmp 3), none, []⟩, ⟨some 21, .call 0 (.func 100) [(.tmp 20), (.const (.int .i64 0)), (.const (.int .i64 63))], none, [3]⟩, ⟨some 22, .call 0 (.func 69) [(.tmp 17), (.tmp 18), (.tmp 19), (.tmp 21)], none, [0, 1, 2, 4, 4]⟩, ⟨some 11, .asg 0 (.tmp 22) 2, none, [5, 5, 0, 1, 2, 3, 4, 5]⟩] true) (.seq (.region 2 [⟨some 23, .mov (.tmp 11), none, []⟩, ⟨some 24, .bin .neq 2 (.tmp 23) (.const (.int .i64 0)), none, []⟩] false) (.cond (.tmp 24) (.seq (.region 3 [⟨some 25, .build 23 [], none, []⟩, ⟨some 26, .build 23 [], none, []⟩, ⟨some 27, .mov (.tmp 11), none, []⟩, ⟨none, .store 23 (.tmp 8) (.tmp 25), none, []⟩, ⟨none, .store 23 (.tmp 9) (.tmp 26), none, []⟩, ⟨some 10, .asg 0 (.tmp 27) 2, none, []⟩] false) .ret) .skip))) (.seq (.region 4 [⟨some 29, .mov (.tmp 0), none, []⟩, ⟨some 30, .mov (.tmp 0), none, []⟩, ⟨some 31, .load 23 (.tmp 5), none, []⟩, ⟨some 32, .call 0 (.func 72) [(.tmp 31)], none, [2]⟩, ⟨some 33, .load 23 (.tmp 6), none, []⟩, ⟨some 34, .call 0 (.func 72) [(.tmp 33)], none, [4, 3]⟩, ⟨some 35, .call 0 (.func 71) [(.tmp 30), (.tmp 32), (.tmp 34)], none, [1, 3, 5, 5]⟩, ⟨some 36, .call 0 (.func 81) [(.tmp 29), (.tmp 35)], none, [0, 6, 6]⟩, ⟨some 28, .mov (.tmp 36), none, [7]⟩, ⟨some 37, .extract (.tmp 28) 0, none, [8]⟩, ⟨some 38, .extract (.tmp 28) 1, none, [8]⟩, ⟨some 12, .asg 1 (.tmp 37) 72, none, [9, 7, 0, 1, 2, 3, 4, 5, 6, 7, 8, 9]⟩, ⟨some 13, .asg 1 (.tmp 38) 72, none, [10, 11, 0, 1, 2, 3, 4, 5, 6, 7, 8, 9, 10, 11]⟩] true) (.seq (.region 5 [⟨some 14, .asg 0 (.const (.int .i64 0)) 3, none, []⟩] false) (.seq (.seq (.region 6 [⟨some 39, .mov (.tmp 13), none, []⟩, ⟨some 40, .blt 0 .len [(.tmp 39)] [72], none, []⟩, ⟨some 41, .mov (.const (.int .i64 0)), none, []⟩] false) (.block 0 (.loop (.seq (.region 7 [⟨some 42, .bin .lss 3 (.tmp 41) (.tmp 40), none, []⟩] false) (.seq (.cond (.tmp 42) .skip (.exit 0)) (.seq (.block 1 (.seq (.region 8 [⟨some 43, .mov (.tmp 41), none, []⟩, ⟨some 44, .indexAddr 72 (.tmp 39) (.tmp 41), none, []⟩, ⟨some 45, .load 64 (.tmp 44), none, []⟩, ⟨some 15, .asg 0 (.tmp 43) 3, none, []⟩, ⟨some 16, .asg 1 (.tmp 45) 64, none, []⟩] false) (.seq (.region 9 [⟨some 46, .mov (.tmp 16), none, []⟩, ⟨some 47, .call 0 (.func 89) [(.tmp 46)], none, []⟩, ⟨some 48, .mov (.tmp 3), none, []⟩, ⟨some 49, .bin .leq 2 (.tmp 47) (.tmp 48), none, []⟩] false) (.cond (.tmp 49) (.region 10 [⟨some 50, .mov (.tmp 15), none, []⟩, ⟨some 14, .asg 0 (.tmp 50) 3, none, []⟩] false) .skip)))) (.region 11 [⟨some 51, .bin .add 3 (.tmp 41) (.const (.int .i64 1)), none, []⟩, ⟨some 41, .mov (.tmp 51), none, []⟩] false))))))) (.seq (.region 12 [⟨some 52, .mov (.tmp 12), none, []⟩, ⟨some 53, .mov (.tmp 14), none, []⟩, ⟨some 54, .indexAddr 72 (.tmp 52) (.tmp 53), none, [0, 1]⟩, ⟨some 55, .load 64 (.tmp 54), none, [2]⟩, ⟨some 56, .call 0 (.func 101) [(.tmp 55)], none, [3]⟩, ⟨some 57, .mov (.tmp 13), none, []⟩, ⟨some 58, .mov (.tmp 14), none, []⟩, ⟨some 59, .indexAddr 72 (.tmp 57) (.tmp 58), none, [5, 6]⟩, ⟨some 60, .load 64 (.tmp 59), none, [7]⟩, ⟨some 61, .call 0 (.func 101) [(.tmp 60)], none, [8, 4]⟩, ⟨none, .store 23 (.tmp 8) (.tmp 56), none, [4, 9, 0, 1, 2, 3, 4]⟩, ⟨none, .store 23 (.tmp 9) (.tmp 61), none, [9, 10, 0, 1, 2, 3, 4, 5, 6, 7, 8, 9, 10]⟩, ⟨some 10, .asg 0 (.const (.int .i64 0)) 2, none, [11, 0, 1, 2, 3, 4, 5, 6, 7, 8, 9, 10, 11]⟩] true) .ret))))))
def impl_BestApproximation_L : Live := [(0, [0, 1, 2, 3]), (1, [0, 3, 5, 6, 8, 9]), (2, [0, 3, 5, 6, 8, 9, 11]), (3, [8, 9, 11]), (4, [0, 3, 5, 6, 8, 9]), (5, [3, 8, 9, 12, 13]), (6, [3, 8, 9, 12, 13, 14]), (7, [3, 8, 9, 12, 13, 14, 39, 40, 41]), (8, [3, 8, 9, 12, 13, 14, 39, 40, 41]), (9, [3, 8, 9, 12, 13, 14, 15, 16, 39, 40, 41]), (10, [3, 8, 9, 12, 13, 15, 39, 40, 41]), (11, [3, 8, 9, 12, 13, 14, 39, 40, 41]), (12, [8, 9, 12, 13, 14]), (100024, [0, 3, 5, 6, 8, 9, 11, 24]), (100042, [3, 8, 9, 12, 13, 14, 39, 40, 41, 42]), (100049, [3, 8, 9, 12, 13, 14, 15, 39, 40, 41, 49])]
theorem impl_BestApproximation_body : Try.f42.body = some (Try.f42.body.getD .skip) := by kernel_rfl
theorem impl_BestApproximation_strip : strip [(12, 1), (13, 1), (16, 1)] (Try.f42.body.getD .skip) = impl_BestApproximation_c := by kernel_rfl
noncomputable def impl_BestApproximation_l1 (r32 : ((List (List Int)) × (List (List Int)))) (a3 : Int) (x117 : Int) (x133 : Int) : Option ((Int × Int) ⊕ Int) :=
  (if (decide (x117 < (r32.2.length : Int))) then (Option.bind (α := Int) ((ifp (0 ≤ x117 ∧ x117 < ((r32.2.length : Nat) : Int)) ((Option.bind (impl_row_degree (rd r32.2 x117.toNat)) fun r164 => (if (decide (r164 ≤ a3)) then (some x117) else (some x133)))))) fun x158 => (some (.inl ((IntKind.i64.wrap (x117 + 1), x158))))) else (some (.inr x133)))
noncomputable def impl_BestApproximation (a0 : Int) (a1 : (Vec Int 64)) (a2 : (Vec Int 64)) (a3 : Int) : Option ((Vec Int 64) × (Vec Int 64) × Int) :=
  (Option.bind (impl_within a3 0 63) fun r9 => (Option.bind (impl_quotientCode a0 a1 a2 r9) fun r11 => (if (r11 != 0) then (some (((vrep 64 (0 : Int)), (vrep 64 (0 : Int)), r11))) else (Option.bind (impl_rowOf a1) fun r25 => (Option.bind (impl_rowOf a2) fun r28 => (Option.bind (impl_prime_partials a0 r25 r28) fun r30 => (Option.bind (impl_prime_convergents a0 r30) fun r32 => (Option.bind (α := Int) ((loopM (fun s : (Int × Int) => impl_BestApproximation_l1 r32 a3 s.1 s.2) (0, 0))) fun x99 => (ifp (0 ≤ x99 ∧ x99 < ((r32.1.length : Nat) : Int)) ((Option.bind (impl_row_poly (rd r32.1 x99.toNat)) fun r180 => (ifp (0 ≤ x99 ∧ x99 < ((r32.2.length : Nat) : Int)) ((Option.bind (impl_row_poly (rd r32.2 x99.toNat)) fun r184 => (some (r180, r184, 0))))))))))))))))
set_option maxHeartbeats 16000000 in
theorem impl_BestApproximation_ok (a0 : Int) (a1 : (Vec Int 64)) (a2 : (Vec Int 64)) (a3 : Int) (r : ((Vec Int 64) × (Vec Int 64) × Int)) (h : impl_BestApproximation a0 a1 a2 a3 = some r) : Den Try.prog 42 [(.int .i64 a0), (eA64u8 a1), (eA64u8 a2), (.int .i64 a3)] { r := (.tuple [(eA64u8 r.1), (eA64u8 r.2.1), (.int .i64 r.2.2)]) } := by
  refine den_of (rs := [(eA64u8 r.1), (eA64u8 r.2.1), (.int .i64 r.2.2)]) (ac := impl_BestApproximation_c) (L := impl_BestApproximation_L) (n := 62) (m := [(12, 1), (13, 1), (16, 1)]) good Try.func42 impl_BestApproximation_body (by kernel_rfl) Try.ntmps42 rfl rfl impl_BestApproximation_strip rfl rfl ?_
  refine a_st (σ' := ⟨[(0, (.int .i64 a0)), (1, (eA64u8 a1)), (2, (eA64u8 a2)), (3, (.int .i64 a3))], []⟩) (by kernel_rfl) ?_
  unfold impl_BestApproximation_c
  refine a_seq ?_
  refine a_region ?_
  refine a_val (v := (.own 1500 [] [])) (u := [(1500, some ⟨(eA64u8 a1), false⟩)]) rfl trivial rfl ?_
  refine a_val (v := (.own 1600 [] [])) (u := [(1600, some ⟨(eA64u8 a2), false⟩)]) rfl trivial rfl ?_
  refine a_val (v := (.own 1800 [] [])) (u := [(1800, some ⟨(eA64u8 ((vrep 64 (0 : Int)))), false⟩)]) rfl trivial rfl ?_
  refine a_val (v := (.own 1900 [] [])) (u := [(1900, some ⟨(eA64u8 ((vrep 64 (0 : Int)))), false⟩)]) rfl trivial rfl ?_
  refine a_val (v := (.int .i64 0)) (u := []) rfl trivial rfl ?_
  refine a_nil ?_
  refine a_next (σ' := ⟨[(0, (.int .i64 a0)), (3, (.int .i64 a3)), (5, (.own 5 [] [])), (6, (.own 6 [] [])), (8, (.own 8 [] [])), (9, (.own 9 [] []))], [(5, some ⟨(eA64u8 a1), false⟩), (6, some ⟨(eA64u8 a2), false⟩), (8, some ⟨(eA64u8 ((vrep 64 (0 : Int)))), false⟩), (9, some ⟨(eA64u8 ((vrep 64 (0 : Int)))), false⟩)]⟩) (by kernel_rfl) ?_
  refine a_seq ?_
  refine a_seq ?_
  refine a_draw [⟨[], [], [], []⟩, ⟨[5], [], [], []⟩, ⟨[6], [], [], []⟩, ⟨[], [], [], []⟩, ⟨[], [], [], [3]⟩, ⟨[], [], [], [0, 1, 2, 3, 4]⟩, ⟨[], [], [], [0, 1, 2, 3, 4, 5]⟩] (by kernel_rfl) ?_
  refine d_cons ?_
  refine a_val (v := (.int .i64 a0)) (u := []) rfl trivial rfl ?_
  refine d_next (by kernel_rfl) ?_
  refine d_cons ?_
  have hl7 : LdOk [] (eA64u8 a1) [] 64 true (eA64u8 a1) := (.nil rfl rfl rfl)
  refine a_val (v := (eA64u8 a1)) (u := []) (ld_own (i := ⟨.arr 64 5, 64, 64, (eA64u8 (vrep 64 (0 : Int)))⟩) rfl rfl rfl hl7) hl7.c rfl ?_
  refine d_next (by kernel_rfl) ?_
  refine d_cons ?_
  have hl8 : LdOk [] (eA64u8 a2) [] 64 true (eA64u8 a2) := (.nil rfl rfl rfl)
  refine a_val (v := (eA64u8 a2)) (u := []) (ld_own (i := ⟨.arr 64 5, 64, 64, (eA64u8 (vrep 64 (0 : Int)))⟩) rfl rfl rfl hl8) hl8.c rfl ?_
  refine d_next (by kernel_rfl) ?_
  refine d_cons ?_
  refine a_val (v := (.int .i64 a3)) (u := []) rfl trivial rfl ?_
  refine d_next (by kernel_rfl) ?_
  refine d_cons ?_
  obtain ⟨r9, hr10, h⟩ := bind_some h
  refine a_call (args := [(.int .i64 a3), (.int .i64 0), (.int .i64 63)]) (u := []) (r := (.bool r9)) rfl rfl (impl_within_ok a3 0 63 r9 hr10) rfl ?_
  refine d_next (by kernel_rfl) ?_
  refine d_cons ?_
  obtain ⟨r11, hr12, h⟩ := bind_some h
  refine a_call (args := [(.int .i64 a0), (eA64u8 a1), (eA64u8 a2), (.bool r9)]) (u := []) (r := (.int .i64 r11)) rfl rfl (impl_quotientCode_ok a0 a1 a2 r9 r11 hr12) rfl ?_
  refine d_next (by kernel_rfl) ?_
  refine d_cons ?_
  refine a_val (v := (.int .i64 r11)) (u := []) rfl trivial rfl ?_
  refine d_next (by kernel_rfl) ?_
  refine d_nil ?_
  refine a_next (σ' := ⟨[(0, (.int .i64 a0)), (3, (.int .i64 a3)), (5, (.own 5 [] [])), (6, (.own 6 [] [])), (8, (.own 8 [] [])), (9, (.own 9 [] [])), (11, (.int .i64 r11))], [(5, some ⟨(eA64u8 a1), false⟩), (6, some ⟨(eA64u8 a2), false⟩), (8, some ⟨(eA64u8 ((vrep 64 (0 : Int)))), false⟩), (9, some ⟨(eA64u8 ((vrep 64 (0 : Int)))), false⟩)]⟩) (by kernel_rfl) ?_
  refine a_seq ?_
  refine a_region ?_
  refine a_val (v := (.int .i64 r11)) (u := []) rfl trivial rfl ?_
  refine a_val (v := (.bool (r11 != 0))) (u := []) rfl trivial rfl ?_
  refine a_nil ?_
  refine a_next (σ' := ⟨[(0, (.int .i64 a0)), (3, (.int .i64 a3)), (5, (.own 5 [] [])), (6, (.own 6 [] [])), (8, (.own 8 [] [])), (9, (.own 9 [] [])), (11, (.int .i64 r11)), (24, (.bool (r11 != 0)))], [(5, some ⟨(eA64u8 a1), false⟩), (6, some ⟨(eA64u8 a2), false⟩), (8, some ⟨(eA64u8 ((vrep 64 (0 : Int)))), false⟩), (9, some ⟨(eA64u8 ((vrep 64 (0 : Int)))), false⟩)]⟩) (by kernel_rfl) ?_
  cases hb13 : (r11 != 0)
  · have h := ite_f hb13 h
    refine a_cond_f rfl ?_
    refine a_skip ?_
    refine a_next (σ' := ⟨[(0, (.int .i64 a0)), (3, (.int .i64 a3)), (5, (.own 5 [] [])), (6, (.own 6 [] [])), (8, (.own 8 [] [])), (9, (.own 9 [] []))], [(5, some ⟨(eA64u8 a1), false⟩), (6, some ⟨(eA64u8 a2), false⟩), (8, some ⟨(eA64u8 ((vrep 64 (0 : Int)))), false⟩), (9, some ⟨(eA64u8 ((vrep 64 (0 : Int)))), false⟩)]⟩) (by kernel_rfl) ?_
    refine a_seq ?_
    refine a_draw [⟨[], [], [], []⟩, ⟨[], [], [], []⟩, ⟨[5], [], [], []⟩, ⟨[], [], [], [2]⟩, ⟨[6], [], [], []⟩, ⟨[], [], [], [2, 3, 4]⟩, ⟨[], [], [], [1, 2, 3, 4, 5]⟩, ⟨[], [], [], [0, 1, 2, 3, 4, 5, 6]⟩, ⟨[], [], [], [0, 1, 2, 3, 4, 5, 6, 7]⟩, ⟨[], [], [], [0, 1, 2, 3, 4, 5, 6, 7, 8]⟩, ⟨[], [], [], [0, 1, 2, 3, 4, 5, 6, 7, 8]⟩, ⟨[], [], [], [0, 1, 2, 3, 4, 5, 6, 7, 8, 9]⟩, ⟨[], [], [], [0, 1, 2, 3, 4, 5, 6, 7, 8, 9, 10, 11]⟩] (by kernel_rfl) ?_
    refine d_cons ?_
    refine a_val (v := (.int .i64 a0)) (u := []) rfl trivial rfl ?_
    refine d_next (by kernel_rfl) ?_
    refine d_cons ?_
    refine a_val (v := (.int .i64 a0)) (u := []) rfl trivial rfl ?_
    refine d_next (by kernel_rfl) ?_
    refine d_cons ?_
    have hl24 : LdOk [] (eA64u8 a1) [] 64 true (eA64u8 a1) := (.nil rfl rfl rfl)
    refine a_val (v := (eA64u8 a1)) (u := []) (ld_own (i := ⟨.arr 64 5, 64, 64, (eA64u8 (vrep 64 (0 : Int)))⟩) rfl rfl rfl hl24) hl24.c rfl ?_
    refine d_next (by kernel_rfl) ?_
    refine d_cons ?_
    obtain ⟨r25, hr26, h⟩ := bind_some h
    refine a_call (args := [(eA64u8 a1)]) (u := []) (r := (eSi64 r25)) rfl rfl (impl_rowOf_ok a1 r25 hr26) rfl ?_
    refine d_next (by kernel_rfl) ?_
    refine d_cons ?_
    have hl27 : LdOk [] (eA64u8 a2) [] 64 true (eA64u8 a2) := (.nil rfl rfl rfl)
    refine a_val (v := (eA64u8 a2)) (u := []) (ld_own (i := ⟨.arr 64 5, 64, 64, (eA64u8 (vrep 64 (0 : Int)))⟩) rfl rfl rfl hl27) hl27.c rfl ?_
    refine d_next (by kernel_rfl) ?_
    refine d_cons ?_
    obtain ⟨r28, hr29, h⟩ := bind_some h
    refine a_call (args := [(eA64u8 a2)]) (u := []) (r := (eSi64 r28)) rfl rfl (impl_rowOf_ok a2 r28 hr29) rfl ?_
    refine d_next (by kernel_rfl) ?_
    refine d_cons ?_
    obtain ⟨r30, hr31, h⟩ := bind_some h
    refine a_call (args := [(.int .i64 a0), (eSi64 r25), (eSi64 r28)]) (u := []) (r := (eSSi64 r30)) rfl rfl (impl_prime_partials_ok a0 r25 r28 r30 hr31) rfl ?_
    refine d_next (by kernel_rfl) ?_
    refine d_cons ?_
    obtain ⟨r32, hr33, h⟩ := bind_some h
    refine a_call (args := [(.int .i64 a0), (eSSi64 r30)]) (u := []) (r := (.tuple [(eSSi64 r32.1), (eSSi64 r32.2)])) rfl rfl (impl_prime_convergents_ok a0 r30 r32 hr33) rfl ?_
    refine d_next (by kernel_rfl) ?_
    refine d_cons ?_
    refine a_val (v := (.tuple [(eSSi64 r32.1), (eSSi64 r32.2)])) (u := []) rfl trivial rfl ?_
    refine d_next (by kernel_rfl) ?_
    refine d_cons ?_
    refine a_val (v := (eSSi64 r32.1)) (u := []) rfl (Nat.le_of_ble_eq_true rfl) rfl ?_
    refine d_next (by kernel_rfl) ?_
    refine d_cons ?_
    refine a_val (v := (eSSi64 r32.2)) (u := []) rfl (Nat.le_of_ble_eq_true rfl) rfl ?_
    refine d_next (by kernel_rfl) ?_
    refine d_cons ?_
    refine a_val (v := (eSSi64 r32.1)) (u := []) rfl trivial rfl ?_
    refine d_next (by kernel_rfl) ?_
    refine d_cons ?_
    refine a_val (v := (eSSi64 r32.2)) (u := []) rfl trivial rfl ?_
    refine d_next (by kernel_rfl) ?_
    refine d_nil ?_
    refine a_next (σ' := ⟨[(3, (.int .i64 a3)), (8, (.own 8 [] [])), (9, (.own 9 [] [])), (12, (eSSi64 r32.1)), (13, (eSSi64 r32.2))], [(8, some ⟨(eA64u8 ((vrep 64 (0 : Int)))), false⟩), (9, some ⟨(eA64u8 ((vrep 64 (0 : Int)))), false⟩)]⟩) (by kernel_rfl) ?_
    refine a_seq ?_
    refine a_region ?_
    refine a_val (v := (.int .i64 0)) (u := []) rfl trivial rfl ?_
    refine a_nil ?_
    refine a_next (σ' := ⟨[(3, (.int .i64 a3)), (8, (.own 8 [] [])), (9, (.own 9 [] [])), (12, (eSSi64 r32.1)), (13, (eSSi64 r32.2)), (14, (.int .i64 0))], [(8, some ⟨(eA64u8 ((vrep 64 (0 : Int)))), false⟩), (9, some ⟨(eA64u8 ((vrep 64 (0 : Int)))), false⟩)]⟩) (by kernel_rfl) ?_
    obtain ⟨y100, hy101, hk102⟩ := bind_some h
    clear h
    refine a_join (emb := fun (s : Int) => ⟨[(8, (.own 8 [] [])), (9, (.own 9 [] [])), (12, (eSSi64 r32.1)), (13, (eSSi64 r32.2)), (14, (.int .i64 s))], [(8, some ⟨(eA64u8 ((vrep 64 (0 : Int)))), false⟩), (9, some ⟨(eA64u8 ((vrep 64 (0 : Int)))), false⟩)]⟩) (pre := fun s => s = y100) ?_ ?_
    · rintro x99 rfl
      have h := hk102
      refine a_st (σ' := ⟨[(8, (.own 8 [] [])), (9, (.own 9 [] [])), (12, (eSSi64 r32.1)), (13, (eSSi64 r32.2)), (14, (.int .i64 x99))], [(8, some ⟨(eA64u8 ((vrep 64 (0 : Int)))), false⟩), (9, some ⟨(eA64u8 ((vrep 64 (0 : Int)))), false⟩)]⟩) (by kernel_rfl) ?_
      refine a_seq ?_
      refine a_draw [⟨[], [], [], []⟩, ⟨[], [], [], []⟩, ⟨[], [], [], [0, 1]⟩, ⟨[], [], [], [0, 1, 2]⟩, ⟨[], [], [], [0, 1, 2, 3]⟩, ⟨[], [], [], []⟩, ⟨[], [], [], []⟩, ⟨[], [], [], [5, 6]⟩, ⟨[], [], [], [5, 6, 7]⟩, ⟨[], [], [], [0, 1, 2, 3, 4, 5, 6, 7, 8]⟩, ⟨[8], [8], [], [0, 1, 2, 3, 4, 5, 6, 7, 8, 9]⟩, ⟨[9], [9], [], [0, 1, 2, 3, 4, 5, 6, 7, 8, 9, 10]⟩, ⟨[], [], [], [0, 1, 2, 3, 4, 5, 6, 7, 8, 9, 10, 11]⟩] (by kernel_rfl) ?_
      refine d_cons ?_
      refine a_val (v := (eSSi64 r32.1)) (u := []) rfl trivial rfl ?_
      refine d_next (by kernel_rfl) ?_
      refine d_cons ?_
      refine a_val (v := (.int .i64 x99)) (u := []) rfl trivial rfl ?_
      refine d_next (by kernel_rfl) ?_
      refine d_cons ?_
      obtain ⟨hc178, h⟩ := ifp_some h
      refine a_val (v := (.ref (.row 1 (r32.1.map eSi64)) [x99.toNat] [x99.toNat * 1])) (u := []) rfl (lmap hc178) rfl ?_
      refine d_next (by kernel_rfl) ?_
      refine d_cons ?_
      have hl179 : LdOk [x99.toNat] (.row 1 (r32.1.map eSi64)) [x99.toNat * 1] 1 false (eSi64 (rd r32.1 x99.toNat)) := (.row (llt hc178) rfl (.nil rfl rfl rfl))
      refine a_val (v := (eSi64 (rd r32.1 x99.toNat))) (u := []) (ld_ref (i := ⟨.slice 2, 1, 24, (eSi64 [])⟩) rfl rfl hl179) hl179.c rfl ?_
      refine d_next (by kernel_rfl) ?_
      refine d_cons ?_
      obtain ⟨r180, hr181, h⟩ := bind_some h
      refine a_call (args := [(eSi64 (rd r32.1 x99.toNat))]) (u := []) (r := (eA64u8 r180)) rfl rfl (impl_row_poly_ok (rd r32.1 x99.toNat) r180 hr181) rfl ?_
      refine d_next (by kernel_rfl) ?_
      refine d_cons ?_
      refine a_val (v := (eSSi64 r32.2)) (u := []) rfl trivial rfl ?_
      refine d_next (by kernel_rfl) ?_
      refine d_cons ?_
      refine a_val (v := (.int .i64 x99)) (u := []) rfl trivial rfl ?_
      refine d_next (by kernel_rfl) ?_
      refine d_cons ?_
      obtain ⟨hc182, h⟩ := ifp_some h
      refine a_val (v := (.ref (.row 1 (r32.2.map eSi64)) [x99.toNat] [x99.toNat * 1])) (u := []) rfl (lmap hc182) rfl ?_
      refine d_next (by kernel_rfl) ?_
      refine d_cons ?_
      have hl183 : LdOk [x99.toNat] (.row 1 (r32.2.map eSi64)) [x99.toNat * 1] 1 false (eSi64 (rd r32.2 x99.toNat)) := (.row (llt hc182) rfl (.nil rfl rfl rfl))
      refine a_val (v := (eSi64 (rd r32.2 x99.toNat))) (u := []) (ld_ref (i := ⟨.slice 2, 1, 24, (eSi64 [])⟩) rfl rfl hl183) hl183.c rfl ?_
      refine d_next (by kernel_rfl) ?_
      refine d_cons ?_
      obtain ⟨r184, hr185, h⟩ := bind_some h
      refine a_call (args := [(eSi64 (rd r32.2 x99.toNat))]) (u := []) (r := (eA64u8 r184)) rfl rfl (impl_row_poly_ok (rd r32.2 x99.toNat) r184 hr185) rfl ?_
      refine d_next (by kernel_rfl) ?_
      refine d_cons ?_
      have hs186 : StOk [] (eA64u8 ((vrep 64 (0 : Int)))) [] 64 (eA64u8 r180) (eA64u8 r180) := (.nil rfl rfl rfl rfl)
      refine a_val (v := .top) (u := [(8, some ⟨(eA64u8 r180), false⟩)]) (st_own (i := ⟨.arr 64 5, 64, 64, (eA64u8 (vrep 64 (0 : Int)))⟩) rfl rfl (fun _ => rfl) rfl hs186) (hs186.c rfl) rfl ?_
      refine d_next (by kernel_rfl) ?_
      refine d_cons ?_
      have hs187 : StOk [] (eA64u8 ((vrep 64 (0 : Int)))) [] 64 (eA64u8 r184) (eA64u8 r184) := (.nil rfl rfl rfl rfl)
      refine a_val (v := .top) (u := [(9, some ⟨(eA64u8 r184), false⟩)]) (st_own (i := ⟨.arr 64 5, 64, 64, (eA64u8 (vrep 64 (0 : Int)))⟩) rfl rfl (fun _ => rfl) rfl hs187) (hs187.c rfl) rfl ?_
      refine d_next (by kernel_rfl) ?_
      refine d_cons ?_
      refine a_val (v := (.int .i64 0)) (u := []) rfl trivial rfl ?_
      refine d_next (by kernel_rfl) ?_
      refine d_nil ?_
      refine a_next rfl ?_
      refine a_ret ?_
      have hl188 : LdOk [] (eA64u8 r180) [] 64 true (eA64u8 r180) := (.nil rfl rfl rfl)
      have hl189 : LdOk [] (eA64u8 r184) [] 64 true (eA64u8 r184) := (.nil rfl rfl rfl)
      refine ⟨.inr rfl, ?_⟩
      rw [Try.results42]
      cases h
      exact ⟨_, _, _, _, _, ld_own (i := ⟨.arr 64 5, 64, 64, (eA64u8 (vrep 64 (0 : Int)))⟩) rfl rfl rfl hl188, hl188.c, .inl ⟨rfl, .inl rfl⟩, rfl, ⟨_, _, _, _, _, ld_own (i := ⟨.arr 64 5, 64, 64, (eA64u8 (vrep 64 (0 : Int)))⟩) rfl rfl rfl hl189, hl189.c, .inl ⟨rfl, .inl rfl⟩, rfl, ⟨_, _, _, _, _, rfl, trivial, .inl ⟨rfl, .inl rfl⟩, rfl, rfl⟩⟩⟩
    · have h := hy101
      refine a_seq ?_
      refine a_region ?_
      refine a_val (v := (eSSi64 r32.2)) (u := []) rfl trivial rfl ?_
      refine a_val (v := (.int .i64 (r32.2.length : Int))) (u := []) (len_run rfl rfl) trivial rfl ?_
      refine a_val (v := (.int .i64 0)) (u := []) rfl trivial rfl ?_
      refine a_nil ?_
      refine a_next (σ' := ⟨[(3, (.int .i64 a3)), (8, (.own 8 [] [])), (9, (.own 9 [] [])), (12, (eSSi64 r32.1)), (13, (eSSi64 r32.2)), (14, (.int .i64 0)), (39, (eSSi64 r32.2)), (40, (.int .i64 (r32.2.length : Int))), (41, (.int .i64 0))], [(8, some ⟨(eA64u8 ((vrep 64 (0 : Int)))), false⟩), (9, some ⟨(eA64u8 ((vrep 64 (0 : Int)))), false⟩)]⟩) (by kernel_rfl) ?_
      refine a_block ?_
      refine a_loop (emb := fun (s : (Int × Int)) => ⟨[(3, (.int .i64 a3)), (8, (.own 8 [] [])), (9, (.own 9 [] [])), (12, (eSSi64 r32.1)), (13, (eSSi64 r32.2)), (14, (.int .i64 s.2)), (39, (eSSi64 r32.2)), (40, (.int .i64 (r32.2.length : Int))), (41, (.int .i64 s.1))], [(8, some ⟨(eA64u8 ((vrep 64 (0 : Int)))), false⟩), (9, some ⟨(eA64u8 ((vrep 64 (0 : Int)))), false⟩)]⟩) (body := (fun s : (Int × Int) => impl_BestApproximation_l1 r32 a3 s.1 s.2)) (G := fun q => some q = some y100) h rfl ?_ (by kernel_rfl)
      rintro X149 ⟨x117, x133⟩ x150 h hX151
      have h : impl_BestApproximation_l1 r32 a3 x117 x133 = some x150 := h
      refine a_st (σ' := ⟨[(3, (.int .i64 a3)), (8, (.own 8 [] [])), (9, (.own 9 [] [])), (12, (eSSi64 r32.1)), (13, (eSSi64 r32.2)), (14, (.int .i64 x133)), (39, (eSSi64 r32.2)), (40, (.int .i64 (r32.2.length : Int))), (41, (.int .i64 x117))], [(8, some ⟨(eA64u8 ((vrep 64 (0 : Int)))), false⟩), (9, some ⟨(eA64u8 ((vrep 64 (0 : Int)))), false⟩)]⟩) (by kernel_rfl) ?_
      refine a_seq ?_
      refine a_region ?_
      refine a_val (v := (.bool ((decide (x117 < (r32.2.length : Int)))))) (u := []) rfl trivial rfl ?_
      refine a_nil ?_
      refine a_next (σ' := ⟨[(3, (.int .i64 a3)), (8, (.own 8 [] [])), (9, (.own 9 [] [])), (12, (eSSi64 r32.1)), (13, (eSSi64 r32.2)), (14, (.int .i64 x133)), (39, (eSSi64 r32.2)), (40, (.int .i64 (r32.2.length : Int))), (41, (.int .i64 x117)), (42, (.bool ((decide (x117 < (r32.2.length : Int))))))], [(8, some ⟨(eA64u8 ((vrep 64 (0 : Int)))), false⟩), (9, some ⟨(eA64u8 ((vrep 64 (0 : Int)))), false⟩)]⟩) (by kernel_rfl) ?_
      refine a_seq ?_
      cases hb152 : (decide (x117 < (r32.2.length : Int)))
      · have h := ite_f hb152 h
        refine a_cond_f rfl ?_
        refine a_exit ?_
        refine t_exit ?_
        cases h
        have h := hX151
        refine t_exit ?_
        refine b_exit ?_
        exact j_leaf x133 (Option.some.inj h) (by kernel_rfl)
      · have h := ite_t hb152 h
        refine a_cond_t rfl ?_
        refine a_skip ?_
        refine a_next (σ' := ⟨[(3, (.int .i64 a3)), (8, (.own 8 [] [])), (9, (.own 9 [] [])), (12, (eSSi64 r32.1)), (13, (eSSi64 r32.2)), (14, (.int .i64 x133)), (39, (eSSi64 r32.2)), (40, (.int .i64 (r32.2.length : Int))), (41, (.int .i64 x117))], [(8, some ⟨(eA64u8 ((vrep 64 (0 : Int)))), false⟩), (9, some ⟨(eA64u8 ((vrep 64 (0 : Int)))), false⟩)]⟩) (by kernel_rfl) ?_
        obtain ⟨y159, hy160, hk161⟩ := bind_some h
        clear h
        refine a_join (emb := fun (s : Int) => ⟨[(3, (.int .i64 a3)), (8, (.own 8 [] [])), (9, (.own 9 [] [])), (12, (eSSi64 r32.1)), (13, (eSSi64 r32.2)), (14, (.int .i64 s)), (39, (eSSi64 r32.2)), (40, (.int .i64 (r32.2.length : Int))), (41, (.int .i64 x117))], [(8, some ⟨(eA64u8 ((vrep 64 (0 : Int)))), false⟩), (9, some ⟨(eA64u8 ((vrep 64 (0 : Int)))), false⟩)]⟩) (pre := fun s => s = y159) ?_ ?_
        · rintro x158 rfl
          have h := hk161
          refine a_st (σ' := ⟨[(3, (.int .i64 a3)), (8, (.own 8 [] [])), (9, (.own 9 [] [])), (12, (eSSi64 r32.1)), (13, (eSSi64 r32.2)), (14, (.int .i64 x158)), (39, (eSSi64 r32.2)), (40, (.int .i64 (r32.2.length : Int))), (41, (.int .i64 x117))], [(8, some ⟨(eA64u8 ((vrep 64 (0 : Int)))), false⟩), (9, some ⟨(eA64u8 ((vrep 64 (0 : Int)))), false⟩)]⟩) (by kernel_rfl) ?_
          refine a_region ?_
          refine a_val (v := (.int .i64 (IntKind.i64.wrap (x117 + 1)))) (u := []) rfl trivial rfl ?_
          refine a_val (v := (.int .i64 (IntKind.i64.wrap (x117 + 1)))) (u := []) rfl trivial rfl ?_
          refine a_nil ?_
          cases h
          exact a_again (by kernel_rfl) hX151
        · have h := hy160
          refine a_block ?_
          refine a_seq ?_
          refine a_region ?_
          refine a_val (v := (.int .i64 x117)) (u := []) rfl trivial rfl ?_
          obtain ⟨hc162, h⟩ := ifp_some h
          refine a_val (v := (.ref (.row 1 (r32.2.map eSi64)) [x117.toNat] [x117.toNat * 1])) (u := []) rfl (lmap hc162) rfl ?_
          have hl163 : LdOk [x117.toNat] (.row 1 (r32.2.map eSi64)) [x117.toNat * 1] 1 false (eSi64 (rd r32.2 x117.toNat)) := (.row (llt hc162) rfl (.nil rfl rfl rfl))
          refine a_val (v := (eSi64 (rd r32.2 x117.toNat))) (u := []) (ld_ref (i := ⟨.slice 2, 1, 24, (eSi64 [])⟩) rfl rfl hl163) hl163.c rfl ?_
          refine a_val (v := (.int .i64 x117)) (u := []) rfl trivial rfl ?_
          refine a_val (v := (eSi64 (rd r32.2 x117.toNat))) (u := []) rfl trivial rfl ?_
          refine a_nil ?_
          refine a_next (σ' := ⟨[(3, (.int .i64 a3)), (8, (.own 8 [] [])), (9, (.own 9 [] [])), (12, (eSSi64 r32.1)), (13, (eSSi64 r32.2)), (14, (.int .i64 x133)), (15, (.int .i64 x117)), (16, (eSi64 (rd r32.2 x117.toNat))), (39, (eSSi64 r32.2)), (40, (.int .i64 (r32.2.length : Int))), (41, (.int .i64 x117))], [(8, some ⟨(eA64u8 ((vrep 64 (0 : Int)))), false⟩), (9, some ⟨(eA64u8 ((vrep 64 (0 : Int)))), false⟩)]⟩) (by kernel_rfl) ?_
          refine a_seq ?_
          refine a_region ?_
          refine a_val (v := (eSi64 (rd r32.2 x117.toNat))) (u := []) rfl trivial rfl ?_
          obtain ⟨r164, hr165, h⟩ := bind_some h
          refine a_call (args := [(eSi64 (rd r32.2 x117.toNat))]) (u := []) (r := (.int .i64 r164)) rfl rfl (impl_row_degree_ok (rd r32.2 x117.toNat) r164 hr165) rfl ?_
          refine a_val (v := (.int .i64 a3)) (u := []) rfl trivial rfl ?_
          refine a_val (v := (.bool ((decide (r164 ≤ a3))))) (u := []) rfl trivial rfl ?_
          refine a_nil ?_
          refine a_next (σ' := ⟨[(3, (.int .i64 a3)), (8, (.own 8 [] [])), (9, (.own 9 [] [])), (12, (eSSi64 r32.1)), (13, (eSSi64 r32.2)), (14, (.int .i64 x133)), (15, (.int .i64 x117)), (39, (eSSi64 r32.2)), (40, (.int .i64 (r32.2.length : Int))), (41, (.int .i64 x117)), (49, (.bool ((decide (r164 ≤ a3)))))], [(8, some ⟨(eA64u8 ((vrep 64 (0 : Int)))), false⟩), (9, some ⟨(eA64u8 ((vrep 64 (0 : Int)))), false⟩)]⟩) (by kernel_rfl) ?_
          cases hb166 : (decide (r164 ≤ a3))
          · have h := ite_f hb166 h
            refine a_cond_f rfl ?_
            refine a_skip ?_
            refine b_norm ?_
            exact j_leaf x133 (Option.some.inj h) (by kernel_rfl)
          · have h := ite_t hb166 h
            refine a_cond_t rfl ?_
            refine a_region ?_
            refine a_val (v := (.int .i64 x117)) (u := []) rfl trivial rfl ?_
            refine a_val (v := (.int .i64 x117)) (u := []) rfl trivial rfl ?_
            refine a_nil ?_
            refine b_norm ?_
            exact j_leaf x117 (Option.some.inj h) (by kernel_rfl)
  · have h := ite_t hb13 h
    refine a_cond_t rfl ?_
    refine a_seq ?_
    refine a_region ?_
    refine a_val (v := (eA64u8 ((vrep 64 (0 : Int))))) (u := []) rfl ⟨⟨_, rfl, rfl⟩, all_nil⟩ rfl ?_
    refine a_val (v := (eA64u8 ((vrep 64 (0 : Int))))) (u := []) rfl ⟨⟨_, rfl, rfl⟩, all_nil⟩ rfl ?_
    refine a_val (v := (.int .i64 r11)) (u := []) rfl trivial rfl ?_
    have hs190 : StOk [] (eA64u8 ((vrep 64 (0 : Int)))) [] 64 (eA64u8 ((vrep 64 (0 : Int)))) (eA64u8 ((vrep 64 (0 : Int)))) := (.nil rfl rfl rfl rfl)
    refine a_val (v := .top) (u := [(8, some ⟨(eA64u8 ((vrep 64 (0 : Int)))), false⟩)]) (st_own (i := ⟨.arr 64 5, 64, 64, (eA64u8 (vrep 64 (0 : Int)))⟩) rfl rfl (fun _ => rfl) rfl hs190) (hs190.c rfl) rfl ?_
    have hs191 : StOk [] (eA64u8 ((vrep 64 (0 : Int)))) [] 64 (eA64u8 ((vrep 64 (0 : Int)))) (eA64u8 ((vrep 64 (0 : Int)))) := (.nil rfl rfl rfl rfl)
    refine a_val (v := .top) (u := [(9, some ⟨(eA64u8 ((vrep 64 (0 : Int)))), false⟩)]) (st_own (i := ⟨.arr 64 5, 64, 64, (eA64u8 (vrep 64 (0 : Int)))⟩) rfl rfl (fun _ => rfl) rfl hs191) (hs191.c rfl) rfl ?_
    refine a_val (v := (.int .i64 r11)) (u := []) rfl trivial rfl ?_
    refine a_nil ?_
    refine a_next rfl ?_
    refine a_ret ?_
    refine t_ret ?_
    have hl192 : LdOk [] (eA64u8 ((vrep 64 (0 : Int)))) [] 64 true (eA64u8 ((vrep 64 (0 : Int)))) := (.nil rfl rfl rfl)
    have hl193 : LdOk [] (eA64u8 ((vrep 64 (0 : Int)))) [] 64 true (eA64u8 ((vrep 64 (0 : Int)))) := (.nil rfl rfl rfl)
    refine ⟨.inr rfl, ?_⟩
    rw [Try.results42]
    cases h
    exact ⟨_, _, _, _, _, ld_own (i := ⟨.arr 64 5, 64, 64, (eA64u8 (vrep 64 (0 : Int)))⟩) rfl rfl rfl hl192, hl192.c, .inl ⟨rfl, .inl rfl⟩, rfl, ⟨_, _, _, _, _, ld_own (i := ⟨.arr 64 5, 64, 64, (eA64u8 (vrep 64 (0 : Int)))⟩) rfl rfl rfl hl193, hl193.c, .inl ⟨rfl, .inl rfl⟩, rfl, ⟨_, _, _, _, _, rfl, trivial, .inl ⟨rfl, .inl rfl⟩, rfl, rfl⟩⟩⟩
def laws_eqPoly_c : ACode := (.seq (.region 0 [⟨some 2, .box 23 (.tmp 0), none, []⟩, ⟨some 3, .box 23 (.tmp 1), none, []⟩, ⟨some 4, .asg 0 (.const (.bool false)) 4, none, []⟩] false) (.seq (.seq (.region 1 [⟨some 5, .asg 0 (.const (.int .i64 0)) 3, none, []⟩] false) (.block 0 (.loop (.seq (.seq (.region 2 [⟨some 6, .mov (.tmp 5), none, []⟩, ⟨some 7, .bin .lss 3 (.tmp 6) (.const (.int .i64 64)), none, []⟩] false) (.cond (.tmp 7) .skip (.exit 0))) (.seq (.block 1 (.seq (.region 4 [⟨some 10, .mov (.tmp 5), none, []⟩, ⟨some 11, .indexAddr 23 (.tmp 2) (.tmp 10), none, [0]⟩, ⟨some 12, .load 5 (.tmp 11), none, [1]⟩, ⟨some 13, .mov (.tmp 5), none, []⟩, ⟨some 14, .indexAddr 23 (.tmp 3) (.tmp 13), none, [3]⟩, ⟨some 15, .load 5 (.tmp 14), none, [4]⟩, ⟨some 16, .bin .neq 5 (.tmp 12) (.tmp 15), none, [2, 5]⟩] true) (.cond (.tmp 16) (.seq (.region 5 [⟨some 4, .asg 0 (.const (.bool false)) 4, none, []⟩] false) .ret) .skip))) (.region 3 [⟨some 8, .mov (.tmp 5), none, []⟩, ⟨some 9, .bin .add 3 (.tmp 8) (.const (.int .i64 1)), none, []⟩, ⟨some 5, .asg 0 (.tmp 9) 3, none, []⟩] false)))))) (.seq (.region 6 [⟨some 4, .asg 0 (.const (.bool true)) 4, none, []⟩] false) .ret)))
def laws_eqPoly_L : Live := [(0, [0, 1]), (1, [2, 3]), (2, [2, 3, 5]), (3, [2, 3, 5]), (4, [2, 3, 5]), (5, []), (6, []), (100007, [2, 3, 5, 7]), (100016, [2, 3, 5, 16])]
theorem laws_eqPoly_body : Try.f17.body = some (Try.f17.body.getD .skip) := by kernel_rfl
theorem laws_eqPoly_strip : strip [] (Try.f17.body.getD .skip) = laws_eqPoly_c := by kernel_rfl
noncomputable def laws_eqPoly_l1 (a0 : (Vec Int 64)) (a1 : (Vec Int 64)) (x49 : Int) : Option (Int ⊕ (Unit ⊕ Bool)) :=
  (if (decide (x49 < 64)) then (ifp (0 ≤ x49 ∧ x49 < ((64 : Nat) : Int)) ((ifp (0 ≤ x49 ∧ x49 < ((64 : Nat) : Int)) ((if ((rd a0.1 x49.toNat) != (rd a1.1 x49.toNat)) then (some (.inr (.inr false))) else (some (.inl (IntKind.i64.wrap (x49 + 1))))))))) else (some (.inr (((.inl ()))))))
noncomputable def laws_eqPoly (a0 : (Vec Int 64)) (a1 : (Vec Int 64)) : Option Bool :=
  (Option.bind (α := (Unit ⊕ Bool)) ((loopM (fun s : Int => laws_eqPoly_l1 a0 a1 s) 0)) fun z => match z with | .inl _ => (some true) | .inr r74 => (some r74))
set_option maxHeartbeats 16000000 in
theorem laws_eqPoly_ok (a0 : (Vec Int 64)) (a1 : (Vec Int 64)) (r : Bool) (h : laws_eqPoly a0 a1 = some r) : Den Try.prog 17 [(eA64u8 a0), (eA64u8 a1)] { r := (.bool r) } := by
  refine den_of (rs := [(.bool r)]) (ac := laws_eqPoly_c) (L := laws_eqPoly_L) (n := 17) (m := []) good Try.func17 laws_eqPoly_body (by kernel_rfl) Try.ntmps17 rfl rfl laws_eqPoly_strip rfl rfl ?_
  refine a_st (σ' := ⟨[(0, (eA64u8 a0)), (1, (eA64u8 a1))], []⟩) (by kernel_rfl) ?_
  unfold laws_eqPoly_c
  refine a_seq ?_
  refine a_region ?_
  refine a_val (v := (.own 1200 [] [])) (u := [(1200, some ⟨(eA64u8 a0), false⟩)]) rfl trivial rfl ?_
  refine a_val (v := (.own 1300 [] [])) (u := [(1300, some ⟨(eA64u8 a1), false⟩)]) rfl trivial rfl ?_
  refine a_val (v := (.bool false)) (u := []) rfl trivial rfl ?_
  refine a_nil ?_
  refine a_next (σ' := ⟨[(2, (.own 2 [] [])), (3, (.own 3 [] []))], [(2, some ⟨(eA64u8 a0), false⟩), (3, some ⟨(eA64u8 a1), false⟩)]⟩) (by kernel_rfl) ?_
  obtain ⟨y36, hy37, hk38⟩ := bind_some h
  clear h
  refine a_join (emb := fun (s : Unit) => ⟨[], []⟩) (pre := fun s => (.inl s) = y36) ?_ ?_
  · rintro _ rfl
    have h := hk38
    refine a_st (σ' := ⟨[], []⟩) (by kernel_rfl) ?_
    refine a_seq ?_
    refine a_region ?_
    refine a_val (v := (.bool true)) (u := []) rfl trivial rfl ?_
    refine a_nil ?_
    refine a_next rfl ?_
    refine a_ret ?_
    refine ⟨.inr rfl, ?_⟩
    rw [Try.results17]
    cases h
    exact ⟨_, _, _, _, _, rfl, trivial, .inl ⟨rfl, .inl rfl⟩, rfl, rfl⟩
  · have h := hy37
    refine a_seq ?_
    refine a_region ?_
    refine a_val (v := (.int .i64 0)) (u := []) rfl trivial rfl ?_
    refine a_nil ?_
    refine a_next (σ' := ⟨[(2, (.own 2 [] [])), (3, (.own 3 [] [])), (5, (.int .i64 0))], [(2, some ⟨(eA64u8 a0), false⟩), (3, some ⟨(eA64u8 a1), false⟩)]⟩) (by kernel_rfl) ?_
    refine a_block ?_
    refine a_loop (emb := fun (s : Int) => ⟨[(2, (.own 2 [] [])), (3, (.own 3 [] [])), (5, (.int .i64 s))], [(2, some ⟨(eA64u8 a0), false⟩), (3, some ⟨(eA64u8 a1), false⟩)]⟩) (body := (fun s : Int => laws_eqPoly_l1 a0 a1 s)) (G := fun q => some q = some y36) h rfl ?_ (by kernel_rfl)
    rintro X60 x49 x61 h hX62
    have h : laws_eqPoly_l1 a0 a1 x49 = some x61 := h
    refine a_st (σ' := ⟨[(2, (.own 2 [] [])), (3, (.own 3 [] [])), (5, (.int .i64 x49))], [(2, some ⟨(eA64u8 a0), false⟩), (3, some ⟨(eA64u8 a1), false⟩)]⟩) (by kernel_rfl) ?_
    refine a_seq ?_
    refine a_seq ?_
    refine a_region ?_
    refine a_val (v := (.int .i64 x49)) (u := []) rfl trivial rfl ?_
    refine a_val (v := (.bool ((decide (x49 < 64))))) (u := []) rfl trivial rfl ?_
    refine a_nil ?_
    refine a_next (σ' := ⟨[(2, (.own 2 [] [])), (3, (.own 3 [] [])), (5, (.int .i64 x49)), (7, (.bool ((decide (x49 < 64)))))], [(2, some ⟨(eA64u8 a0), false⟩), (3, some ⟨(eA64u8 a1), false⟩)]⟩) (by kernel_rfl) ?_
    cases hb63 : (decide (x49 < 64))
    · have h := ite_f hb63 h
      refine a_cond_f rfl ?_
      refine a_exit ?_
      refine t_exit ?_
      cases h
      have h := hX62
      refine t_exit ?_
      refine b_exit ?_
      exact j_leaf () (Option.some.inj h) (by kernel_rfl)
    · have h := ite_t hb63 h
      refine a_cond_t rfl ?_
      refine a_skip ?_
      refine a_next (σ' := ⟨[(2, (.own 2 [] [])), (3, (.own 3 [] [])), (5, (.int .i64 x49))], [(2, some ⟨(eA64u8 a0), false⟩), (3, some ⟨(eA64u8 a1), false⟩)]⟩) (by kernel_rfl) ?_
      refine a_seq ?_
      refine a_block ?_
      refine a_seq ?_
      refine a_draw [⟨[], [], [], []⟩, ⟨[2], [], [2], [0]⟩, ⟨[2], [], [], [0, 1]⟩, ⟨[], [], [], []⟩, ⟨[3], [], [3], [3]⟩, ⟨[3], [], [], [3, 4]⟩, ⟨[], [], [], [0, 1, 2, 3, 4, 5]⟩] (by kernel_rfl) ?_
      refine d_cons ?_
      refine a_val (v := (.int .i64 x49)) (u := []) rfl trivial rfl ?_
      refine d_next (by kernel_rfl) ?_
      refine d_cons ?_
      obtain ⟨hc68, h⟩ := ifp_some h
      refine a_val (v := (.own 2 [x49.toNat] [x49.toNat * 1])) (u := []) rfl hc68 rfl ?_
      refine d_next (by kernel_rfl) ?_
      refine d_cons ?_
      have hl69 : LdOk [x49.toNat] (eA64u8 a0) [x49.toNat * 1] 1 false (.int .u8 (rd a0.1 x49.toNat)) := (.arr (vlt a0 hc68) rfl (.nil rfl rfl rfl))
      refine a_val (v := (.int .u8 (rd a0.1 x49.toNat))) (u := []) (ld_own (i := ⟨.int .u8, 1, 1, (.int .u8 0)⟩) rfl rfl rfl hl69) hl69.c rfl ?_
      refine d_next (by kernel_rfl) ?_
      refine d_cons ?_
      refine a_val (v := (.int .i64 x49)) (u := []) rfl trivial rfl ?_
      refine d_next (by kernel_rfl) ?_
      refine d_cons ?_
      obtain ⟨hc70, h⟩ := ifp_some h
      refine a_val (v := (.own 3 [x49.toNat] [x49.toNat * 1])) (u := []) rfl hc70 rfl ?_
      refine d_next (by kernel_rfl) ?_
      refine d_cons ?_
      have hl71 : LdOk [x49.toNat] (eA64u8 a1) [x49.toNat * 1] 1 false (.int .u8 (rd a1.1 x49.toNat)) := (.arr (vlt a1 hc70) rfl (.nil rfl rfl rfl))
      refine a_val (v := (.int .u8 (rd a1.1 x49.toNat))) (u := []) (ld_own (i := ⟨.int .u8, 1, 1, (.int .u8 0)⟩) rfl rfl rfl hl71) hl71.c rfl ?_
      refine d_next (by kernel_rfl) ?_
      refine d_cons ?_
      refine a_val (v := (.bool (((rd a0.1 x49.toNat) != (rd a1.1 x49.toNat))))) (u := []) rfl trivial rfl ?_
      refine d_next (by kernel_rfl) ?_
      refine d_nil ?_
      refine a_next (σ' := ⟨[(2, (.own 2 [] [])), (3, (.own 3 [] [])), (5, (.int .i64 x49)), (16, (.bool (((rd a0.1 x49.toNat) != (rd a1.1 x49.toNat)))))], [(2, some ⟨(eA64u8 a0), false⟩), (3, some ⟨(eA64u8 a1), false⟩)]⟩) (by kernel_rfl) ?_
      cases hb72 : ((rd a0.1 x49.toNat) != (rd a1.1 x49.toNat))
      · have h := ite_f hb72 h
        refine a_cond_f rfl ?_
        refine a_skip ?_
        refine b_norm ?_
        refine a_next (σ' := ⟨[(2, (.own 2 [] [])), (3, (.own 3 [] [])), (5, (.int .i64 x49))], [(2, some ⟨(eA64u8 a0), false⟩), (3, some ⟨(eA64u8 a1), false⟩)]⟩) (by kernel_rfl) ?_
        refine a_region ?_
        refine a_val (v := (.int .i64 x49)) (u := []) rfl trivial rfl ?_
        refine a_val (v := (.int .i64 (IntKind.i64.wrap (x49 + 1)))) (u := []) rfl trivial rfl ?_
        refine a_val (v := (.int .i64 (IntKind.i64.wrap (x49 + 1)))) (u := []) rfl trivial rfl ?_
        refine a_nil ?_
        cases h
        exact a_again (by kernel_rfl) hX62
      · have h := ite_t hb72 h
        refine a_cond_t rfl ?_
        refine a_seq ?_
        refine a_region ?_
        refine a_val (v := (.bool false)) (u := []) rfl trivial rfl ?_
        refine a_nil ?_
        refine a_next rfl ?_
        refine a_ret ?_
        refine b_ret ?_
        refine t_ret ?_
        cases h
        have h := hX62
        refine t_ret ?_
        refine b_ret ?_
        refine t_ret ?_
        cases h
        have h := hk38
        refine ⟨.inr rfl, ?_⟩
        rw [Try.results17]
        cases h
        exact ⟨_, _, _, _, _, rfl, trivial, .inl ⟨rfl, .inl rfl⟩, rfl, rfl⟩
def laws_FnExactBestApproximation_c : ACode := (.seq (.region 0 [⟨some 5, .box 22 (.tmp 1), none, []⟩, ⟨some 6, .box 22 (.tmp 2), none, []⟩, ⟨some 8, .asg 0 (.const (.bool false)) 4, none, []⟩] false) (.seq (.region 1 [⟨some 16, .mov (.tmp 0), none, []⟩, ⟨some 17, .load 22 (.tmp 5), none, []⟩, ⟨some 18, .call 0 (.func 21) [(.tmp 17)], none, [1]⟩, ⟨some 19, .load 22 (.tmp 6), none, []⟩, ⟨some 20, .call 0 (.func 21) [(.tmp 19)], none, [3, 2]⟩, ⟨some 21, .mov (.tmp 3), none, []⟩, ⟨some 22, .call 0 (.func 41) [(.tmp 16), (.tmp 18), (.tmp 20), (.tmp 21)], none, [0, 2, 4, 5, 4]⟩, ⟨some 15, .mov (.tmp 22), none, [6]⟩, ⟨some 23, .extract (.tmp 15) 0, none, [7]⟩, ⟨some 24, .extract (.tmp 15) 1, none, [7]⟩, ⟨some 25, .extract (.tmp 15) 2, none, [7]⟩, ⟨some 9, .alloc 23, none, []⟩, ⟨some 10, .alloc 23, none, []⟩, ⟨none, .store 23 (.tmp 9) (.tmp 23), none, [11, 8, 6, 0, 1, 2, 3, 4, 5, 6, 7, 8, 11, 12]⟩, ⟨none, .store 23 (.tmp 10) (.tmp 24), none, [12, 9, 13, 0, 1, 2, 3, 4, 5, 6, 7, 8, 9, 11, 12, 13]⟩, ⟨some 11, .asg 0 (.tmp 25) 2, none, [10, 14, 0, 1, 2, 3, 4, 5, 6, 7, 8, 9, 10, 11, 12, 13, 14]⟩] true) (.seq (.region 2 [⟨some 27, .mov (.tmp 0), none, []⟩, ⟨some 28, .load 22 (.tmp 5), none, []⟩, ⟨some 29, .call 0 (.func 21) [(.tmp 28)], none, [1]⟩, ⟨some 30, .load 22 (.tmp 6), none, []⟩, ⟨some 31, .call 0 (.func 21) [(.tmp 30)], none, [3, 2]⟩, ⟨some 32, .mov (.tmp 3), none, []⟩, ⟨some 33, .call 0 (.func 42) [(.tmp 27), (.tmp 29), (.tmp 31), (.tmp 32)], none, [0, 2, 4, 5, 4]⟩, ⟨some 26, .mov (.tmp 33), none, [6]⟩, ⟨some 34, .extract (.tmp 26) 0, none, [7]⟩, ⟨some 35, .extract (.tmp 26) 1, none, [7]⟩, ⟨some 36, .extract (.tmp 26) 2, none, [7]⟩, ⟨some 12, .alloc 23, none, []⟩, ⟨some 13, .alloc 23, none, []⟩, ⟨none, .store 23 (.tmp 12) (.tmp 34), none, [11, 8, 6, 0, 1, 2, 3, 4, 5, 6, 7, 8, 11, 12]⟩, ⟨none, .store 23 (.tmp 13) (.tmp 35), none, [12, 9, 13, 0, 1, 2, 3, 4, 5, 6, 7, 8, 9, 11, 12, 13]⟩, ⟨some 14, .asg 0 (.tmp 36) 2, none, [10, 14, 0, 1, 2, 3, 4, 5, 6, 7, 8, 9, 10, 11, 12, 13, 14]⟩] true) (.seq (.seq (.region 3 [⟨some 37, .load 23 (.tmp 12), none, []⟩, ⟨some 38, .load 23 (.tmp 9), none, []⟩, ⟨some 39, .call 0 (.func 17) [(.tmp 37), (.tmp 38)], none, []⟩, ⟨some 40, .un .not (.tmp 39), none, []⟩, ⟨some 41, .mov (.tmp 40), none, []⟩, ⟨some 42, .load 23 (.tmp 13), some (41, false), []⟩, ⟨some 43, .load 23 (.tmp 10), some (41, false), []⟩, ⟨some 44, .call 0 (.func 17) [(.tmp 42), (.tmp 43)], some (41, false), []⟩, ⟨some 45, .un .not (.tmp 44), some (41, false), []⟩, ⟨some 46, .pick (.tmp 41) (.const (.bool true)) (.tmp 45), none, []⟩, ⟨some 47, .mov (.tmp 46), none, []⟩, ⟨some 48, .mov (.tmp 14), some (47, false), []⟩, ⟨some 49, .mov (.tmp 11), some (47, false), []⟩, ⟨some 50, .bin .neq 2 (.tmp 48) (.tmp 49), some (47, false), []⟩, ⟨some 51, .pick (.tmp 47) (.const (.bool true)) (.tmp 50), none, []⟩] false) (.cond (.tmp 51) (.seq (.region 4 [⟨some 8, .asg 0 (.const (.bool false)) 4, none, []⟩] false) .ret) .skip)) (.seq (.region 5 [⟨some 8, .asg 0 (.const (.bool true)) 4, none, []⟩] false) .ret)))))
def laws_FnExactBestApproximation_L : Live := [(0, [0, 1, 2, 3]), (1, [0, 3, 5, 6]), (2, [0, 3, 5, 6, 9, 10, 11]), (3, [9, 10, 11, 12, 13, 14]), (4, []), (5, []), (100051, [51])]
theorem laws_FnExactBestApproximation_body : Try.f11.body = some (Try.f11.body.getD .skip) := by kernel_rfl
theorem laws_FnExactBestApproximation_strip : strip [] (Try.f11.body.getD .skip) = laws_FnExactBestApproximation_c := by kernel_rfl
noncomputable def laws_FnExactBestApproximation (a0 : Int) (a1 : (Vec Int 64)) (a2 : (Vec Int 64)) (a3 : Int) : Option Bool :=
  (Option.bind (laws_toPoly a1) fun r12 => (Option.bind (laws_toPoly a2) fun r15 => (Option.bind (spec_BestApproximation a0 r12 r15 a3) fun r17 => (Option.bind (laws_toPoly a1) fun r32 => (Option.bind (laws_toPoly a2) fun r35 => (Option.bind (impl_BestApproximation a0 r32 r35 a3) fun r37 => (Option.bind (α := Bool) ((Option.bind (laws_eqPoly r37.1 r17.1) fun r57 => (if (!r57) then (some true) else (Option.bind (laws_eqPoly r37.2.1 r17.2.1) fun r62 => (if (!r62) then (some true) else (some (r37.2.2 != r17.2.2))))))) fun x51 => (if x51 then (some false) else (some true)))))))))
set_option maxHeartbeats 16000000 in
theorem laws_FnExactBestApproximation_ok (a0 : Int) (a1 : (Vec Int 64)) (a2 : (Vec Int 64)) (a3 : Int) (r : Bool) (h : laws_FnExactBestApproximation a0 a1 a2 a3 = some r) : Den Try.prog 11 [(.int .i64 a0), (eA64u8 a1), (eA64u8 a2), (.int .i64 a3)] { r := (.bool r) } := by
  refine den_of (rs := [(.bool r)]) (ac := laws_FnExactBestApproximation_c) (L := laws_FnExactBestApproximation_L) (n := 52) (m := []) good Try.func11 laws_FnExactBestApproximation_body (by kernel_rfl) Try.ntmps11 rfl rfl laws_FnExactBestApproximation_strip rfl rfl ?_
  refine a_st (σ' := ⟨[(0, (.int .i64 a0)), (1, (eA64u8 a1)), (2, (eA64u8 a2)), (3, (.int .i64 a3))], []⟩) (by kernel_rfl) ?_
  unfold laws_FnExactBestApproximation_c
  refine a_seq ?_
  refine a_region ?_
  refine a_val (v := (.own 1500 [] [])) (u := [(1500, some ⟨(eA64u8 a1), false⟩)]) rfl trivial rfl ?_
  refine a_val (v := (.own 1600 [] [])) (u := [(1600, some ⟨(eA64u8 a2), false⟩)]) rfl trivial rfl ?_
  refine a_val (v := (.bool false)) (u := []) rfl trivial rfl ?_
  refine a_nil ?_
  refine a_next (σ' := ⟨[(0, (.int .i64 a0)), (3, (.int .i64 a3)), (5, (.own 5 [] [])), (6, (.own 6 [] []))], [(5, some ⟨(eA64u8 a1), false⟩), (6, some ⟨(eA64u8 a2), false⟩)]⟩) (by kernel_rfl) ?_
  refine a_seq ?_
  refine a_draw [⟨[], [], [], []⟩, ⟨[5], [], [], []⟩, ⟨[], [], [], [1]⟩, ⟨[6], [], [], []⟩, ⟨[], [], [], [1, 2, 3]⟩, ⟨[], [], [], []⟩, ⟨[], [], [], [0, 1, 2, 3, 4, 5]⟩, ⟨[], [], [], [0, 1, 2, 3, 4, 5, 6]⟩, ⟨[], [], [], [0, 1, 2, 3, 4, 5, 6, 7]⟩, ⟨[], [], [], [0, 1, 2, 3, 4, 5, 6, 7]⟩, ⟨[], [], [], [0, 1, 2, 3, 4, 5, 6, 7]⟩, ⟨[1900], [1900], [1900], []⟩, ⟨[2000], [2000], [2000], []⟩, ⟨[1900], [1900], [], [0, 1, 2, 3, 4, 5, 6, 7, 8, 11, 12]⟩, ⟨[2000], [2000], [], [0, 1, 2, 3, 4, 5, 6, 7, 8, 9, 11, 12, 13]⟩, ⟨[], [], [], [0, 1, 2, 3, 4, 5, 6, 7, 8, 9, 10, 11, 12, 13, 14]⟩] (by kernel_rfl) ?_
  refine d_cons ?_
  refine a_val (v := (.int .i64 a0)) (u := []) rfl trivial rfl ?_
  refine d_next (by kernel_rfl) ?_
  refine d_cons ?_
  have hl11 : LdOk [] (eA64u8 a1) [] 64 true (eA64u8 a1) := (.nil rfl rfl rfl)
  refine a_val (v := (eA64u8 a1)) (u := []) (ld_own (i := ⟨.arr 64 5, 64, 64, (eA64u8 (vrep 64 (0 : Int)))⟩) rfl rfl rfl hl11) hl11.c rfl ?_
  refine d_next (by kernel_rfl) ?_
  refine d_cons ?_
  obtain ⟨r12, hr13, h⟩ := bind_some h
  refine a_call (args := [(eA64u8 a1)]) (u := []) (r := (eA64u8 r12)) rfl rfl (laws_toPoly_ok a1 r12 hr13) rfl ?_
  refine d_next (by kernel_rfl) ?_
  refine d_cons ?_
  have hl14 : LdOk [] (eA64u8 a2) [] 64 true (eA64u8 a2) := (.nil rfl rfl rfl)
  refine a_val (v := (eA64u8 a2)) (u := []) (ld_own (i := ⟨.arr 64 5, 64, 64, (eA64u8 (vrep 64 (0 : Int)))⟩) rfl rfl rfl hl14) hl14.c rfl ?_
  refine d_next (by kernel_rfl) ?_
  refine d_cons ?_
  obtain ⟨r15, hr16, h⟩ := bind_some h
  refine a_call (args := [(eA64u8 a2)]) (u := []) (r := (eA64u8 r15)) rfl rfl (laws_toPoly_ok a2 r15 hr16) rfl ?_
  refine d_next (by kernel_rfl) ?_
  refine d_cons ?_
  refine a_val (v := (.int .i64 a3)) (u := []) rfl trivial rfl ?_
  refine d_next (by kernel_rfl) ?_
  refine d_cons ?_
  obtain ⟨r17, hr18, h⟩ := bind_some h
  refine a_call (args := [(.int .i64 a0), (eA64u8 r12), (eA64u8 r15), (.int .i64 a3)]) (u := []) (r := (.tuple [(eA64u8 r17.1), (eA64u8 r17.2.1), (.int .i64 r17.2.2)])) rfl rfl (spec_BestApproximation_ok a0 r12 r15 a3 r17 hr18) rfl ?_
  refine d_next (by kernel_rfl) ?_
  refine d_cons ?_
  refine a_val (v := (.tuple [(eA64u8 r17.1), (eA64u8 r17.2.1), (.int .i64 r17.2.2)])) (u := []) rfl trivial rfl ?_
  refine d_next (by kernel_rfl) ?_
  refine d_cons ?_
  refine a_val (v := (eA64u8 r17.1)) (u := []) rfl (Nat.le_of_ble_eq_true rfl) rfl ?_
  refine d_next (by kernel_rfl) ?_
  refine d_cons ?_
  refine a_val (v := (eA64u8 r17.2.1)) (u := []) rfl (Nat.le_of_ble_eq_true rfl) rfl ?_
  refine d_next (by kernel_rfl) ?_
  refine d_cons ?_
  refine a_val (v := (.int .i64 r17.2.2)) (u := []) rfl (Nat.le_of_ble_eq_true rfl) rfl ?_
  refine d_next (by kernel_rfl) ?_
  refine d_cons ?_
  refine a_val (v := (.own 1900 [] [])) (u := [(1900, some ⟨(eA64u8 ((vrep 64 (0 : Int)))), false⟩)]) rfl trivial rfl ?_
  refine d_next (by kernel_rfl) ?_
  refine d_cons ?_
  refine a_val (v := (.own 2000 [] [])) (u := [(2000, some ⟨(eA64u8 ((vrep 64 (0 : Int)))), false⟩)]) rfl trivial rfl ?_
  refine d_next (by kernel_rfl) ?_
  refine d_cons ?_
  have hs19 : StOk [] (eA64u8 ((vrep 64 (0 : Int)))) [] 64 (eA64u8 r17.1) (eA64u8 r17.1) := (.nil rfl rfl rfl rfl)
  refine a_val (v := .top) (u := [(1900, some ⟨(eA64u8 r17.1), false⟩)]) (st_own (i := ⟨.arr 64 5, 64, 64, (eA64u8 (vrep 64 (0 : Int)))⟩) rfl rfl (fun _ => rfl) rfl hs19) (hs19.c rfl) rfl ?_
  refine d_next (by kernel_rfl) ?_
  refine d_cons ?_
  have hs20 : StOk [] (eA64u8 ((vrep 64 (0 : Int)))) [] 64 (eA64u8 r17.2.1) (eA64u8 r17.2.1) := (.nil rfl rfl rfl rfl)
  refine a_val (v := .top) (u := [(2000, some ⟨(eA64u8 r17.2.1), false⟩)]) (st_own (i := ⟨.arr 64 5, 64, 64, (eA64u8 (vrep 64 (0 : Int)))⟩) rfl rfl (fun _ => rfl) rfl hs20) (hs20.c rfl) rfl ?_
  refine d_next (by kernel_rfl) ?_
  refine d_cons ?_
  refine a_val (v := (.int .i64 r17.2.2)) (u := []) rfl trivial rfl ?_
  refine d_next (by kernel_rfl) ?_
  refine d_nil ?_
  refine a_next (σ' := ⟨[(0, (.int .i64 a0)), (3, (.int .i64 a3)), (5, (.own 5 [] [])), (6, (.own 6 [] [])), (9, (.own 9 [] [])), (10, (.own 10 [] [])), (11, (.int .i64 r17.2.2))], [(5, some ⟨(eA64u8 a1), false⟩), (6, some ⟨(eA64u8 a2), false⟩), (9, some ⟨(eA64u8 r17.1), false⟩), (10, some ⟨(eA64u8 r17.2.1), false⟩)]⟩) (by kernel_rfl) ?_
  refine a_seq ?_
  refine a_draw [⟨[], [], [], []⟩, ⟨[5], [], [], []⟩, ⟨[], [], [], [1]⟩, ⟨[6], [], [], []⟩, ⟨[], [], [], [1, 2, 3]⟩, ⟨[], [], [], []⟩, ⟨[], [], [], [0, 1, 2, 3, 4, 5]⟩, ⟨[], [], [], [0, 1, 2, 3, 4, 5, 6]⟩, ⟨[], [], [], [0, 1, 2, 3, 4, 5, 6, 7]⟩, ⟨[], [], [], [0, 1, 2, 3, 4, 5, 6, 7]⟩, ⟨[], [], [], [0, 1, 2, 3, 4, 5, 6, 7]⟩, ⟨[2200], [2200], [2200], []⟩, ⟨[2300], [2300], [2300], []⟩, ⟨[2200], [2200], [], [0, 1, 2, 3, 4, 5, 6, 7, 8, 11, 12]⟩, ⟨[2300], [2300], [], [0, 1, 2, 3, 4, 5, 6, 7, 8, 9, 11, 12, 13]⟩, ⟨[], [], [], [0, 1, 2, 3, 4, 5, 6, 7, 8, 9, 10, 11, 12, 13, 14]⟩] (by kernel_rfl) ?_
  refine d_cons ?_
  refine a_val (v := (.int .i64 a0)) (u := []) rfl trivial rfl ?_
  refine d_next (by kernel_rfl) ?_
  refine d_cons ?_
  have hl31 : LdOk [] (eA64u8 a1) [] 64 true (eA64u8 a1) := (.nil rfl rfl rfl)
  refine a_val (v := (eA64u8 a1)) (u := []) (ld_own (i := ⟨.arr 64 5, 64, 64, (eA64u8 (vrep 64 (0 : Int)))⟩) rfl rfl rfl hl31) hl31.c rfl ?_
  refine d_next (by kernel_rfl) ?_
  refine d_cons ?_
  obtain ⟨r32, hr33, h⟩ := bind_some h
  refine a_call (args := [(eA64u8 a1)]) (u := []) (r := (eA64u8 r32)) rfl rfl (laws_toPoly_ok a1 r32 hr33) rfl ?_
  refine d_next (by kernel_rfl) ?_
  refine d_cons ?_
  have hl34 : LdOk [] (eA64u8 a2) [] 64 true (eA64u8 a2) := (.nil rfl rfl rfl)
  refine a_val (v := (eA64u8 a2)) (u := []) (ld_own (i := ⟨.arr 64 5, 64, 64, (eA64u8 (vrep 64 (0 : Int)))⟩) rfl rfl rfl hl34) hl34.c rfl ?_
  refine d_next (by kernel_rfl) ?_
  refine d_cons ?_
  obtain ⟨r35, hr36, h⟩ := bind_some h
  refine a_call (args := [(eA64u8 a2)]) (u := []) (r := (eA64u8 r35)) rfl rfl (laws_toPoly_ok a2 r35 hr36) rfl ?_
  refine d_next (by kernel_rfl) ?_
  refine d_cons ?_
  refine a_val (v := (.int .i64 a3)) (u := []) rfl trivial rfl ?_
  refine d_next (by kernel_rfl) ?_
  refine d_cons ?_
  obtain ⟨r37, hr38, h⟩ := bind_some h
  refine a_call (args := [(.int .i64 a0), (eA64u8 r32), (eA64u8 r35), (.int .i64 a3)]) (u := []) (r := (.tuple [(eA64u8 r37.1), (eA64u8 r37.2.1), (.int .i64 r37.2.2)])) rfl rfl (impl_BestApproximation_ok a0 r32 r35 a3 r37 hr38) rfl ?_
  refine d_next (by kernel_rfl) ?_
  refine d_cons ?_
  refine a_val (v := (.tuple [(eA64u8 r37.1), (eA64u8 r37.2.1), (.int .i64 r37.2.2)])) (u := []) rfl trivial rfl ?_
  refine d_next (by kernel_rfl) ?_
  refine d_cons ?_
  refine a_val (v := (eA64u8 r37.1)) (u := []) rfl (Nat.le_of_ble_eq_true rfl) rfl ?_
  refine d_next (by kernel_rfl) ?_
  refine d_cons ?_
  refine a_val (v := (eA64u8 r37.2.1)) (u := []) rfl (Nat.le_of_ble_eq_true rfl) rfl ?_
  refine d_next (by kernel_rfl) ?_
  refine d_cons ?_
  refine a_val (v := (.int .i64 r37.2.2)) (u := []) rfl (Nat.le_of_ble_eq_true rfl) rfl ?_
  refine d_next (by kernel_rfl) ?_
  refine d_cons ?_
  refine a_val (v := (.own 2200 [] [])) (u := [(2200, some ⟨(eA64u8 ((vrep 64 (0 : Int)))), false⟩)]) rfl trivial rfl ?_
  refine d_next (by kernel_rfl) ?_
  refine d_cons ?_
  refine a_val (v := (.own 2300 [] [])) (u := [(2300, some ⟨(eA64u8 ((vrep 64 (0 : Int)))), false⟩)]) rfl trivial rfl ?_
  refine d_next (by kernel_rfl) ?_
  refine d_cons ?_
  have hs39 : StOk [] (eA64u8 ((vrep 64 (0 : Int)))) [] 64 (eA64u8 r37.1) (eA64u8 r37.1) := (.nil rfl rfl rfl rfl)
  refine a_val (v := .top) (u := [(2200, some ⟨(eA64u8 r37.1), false⟩)]) (st_own (i := ⟨.arr 64 5, 64, 64, (eA64u8 (vrep 64 (0 : Int)))⟩) rfl rfl (fun _ => rfl) rfl hs39) (hs39.c rfl) rfl ?_
  refine d_next (by kernel_rfl) ?_
  refine d_cons ?_
  have hs40 : StOk [] (eA64u8 ((vrep 64 (0 : Int)))) [] 64 (eA64u8 r37.2.1) (eA64u8 r37.2.1) := (.nil rfl rfl rfl rfl)
  refine a_val (v := .top) (u := [(2300, some ⟨(eA64u8 r37.2.1), false⟩)]) (st_own (i := ⟨.arr 64 5, 64, 64, (eA64u8 (vrep 64 (0 : Int)))⟩) rfl rfl (fun _ => rfl) rfl hs40) (hs40.c rfl) rfl ?_
  refine d_next (by kernel_rfl) ?_
  refine d_cons ?_
  refine a_val (v := (.int .i64 r37.2.2)) (u := []) rfl trivial rfl ?_
  refine d_next (by kernel_rfl) ?_
  refine d_nil ?_
  refine a_next (σ' := ⟨[(9, (.own 9 [] [])), (10, (.own 10 [] [])), (11, (.int .i64 r17.2.2)), (12, (.own 12 [] [])), (13, (.own 13 [] [])), (14, (.int .i64 r37.2.2))], [(9, some ⟨(eA64u8 r17.1), false⟩), (10, some ⟨(eA64u8 r17.2.1), false⟩), (12, some ⟨(eA64u8 r37.1), false⟩), (13, some ⟨(eA64u8 r37.2.1), false⟩)]⟩) (by kernel_rfl) ?_
  refine a_seq ?_
  obtain ⟨y52, hy53, hk54⟩ := bind_some h
  clear h
  refine a_join (emb := fun (s : Bool) => ⟨[(51, (.bool s))], []⟩) (pre := fun s => s = y52) ?_ ?_
  · rintro x51 rfl
    have h := hk54
    refine a_st (σ' := ⟨[(51, (.bool x51))], []⟩) (by kernel_rfl) ?_
    cases hb65 : x51
    · have h := ite_f hb65 h
      refine a_cond_f rfl ?_
      refine a_skip ?_
      refine a_next (σ' := ⟨[], []⟩) (by kernel_rfl) ?_
      refine a_seq ?_
      refine a_region ?_
      refine a_val (v := (.bool true)) (u := []) rfl trivial rfl ?_
      refine a_nil ?_
      refine a_next rfl ?_
      refine a_ret ?_
      refine ⟨.inr rfl, ?_⟩
      rw [Try.results11]
      cases h
      exact ⟨_, _, _, _, _, rfl, trivial, .inl ⟨rfl, .inl rfl⟩, rfl, rfl⟩
    · have h := ite_t hb65 h
      refine a_cond_t rfl ?_
      refine a_seq ?_
      refine a_region ?_
      refine a_val (v := (.bool false)) (u := []) rfl trivial rfl ?_
      refine a_nil ?_
      refine a_next rfl ?_
      refine a_ret ?_
      refine t_ret ?_
      refine ⟨.inr rfl, ?_⟩
      rw [Try.results11]
      cases h
      exact ⟨_, _, _, _, _, rfl, trivial, .inl ⟨rfl, .inl rfl⟩, rfl, rfl⟩
  · have h := hy53
    refine a_region ?_
    have hl55 : LdOk [] (eA64u8 r37.1) [] 64 true (eA64u8 r37.1) := (.nil rfl rfl rfl)
    refine a_val (v := (eA64u8 r37.1)) (u := []) (ld_own (i := ⟨.arr 64 5, 64, 64, (eA64u8 (vrep 64 (0 : Int)))⟩) rfl rfl rfl hl55) hl55.c rfl ?_
    have hl56 : LdOk [] (eA64u8 r17.1) [] 64 true (eA64u8 r17.1) := (.nil rfl rfl rfl)
    refine a_val (v := (eA64u8 r17.1)) (u := []) (ld_own (i := ⟨.arr 64 5, 64, 64, (eA64u8 (vrep 64 (0 : Int)))⟩) rfl rfl rfl hl56) hl56.c rfl ?_
    obtain ⟨r57, hr58, h⟩ := bind_some h
    refine a_call (args := [(eA64u8 r37.1), (eA64u8 r17.1)]) (u := []) (r := (.bool r57)) rfl rfl (laws_eqPoly_ok r37.1 r17.1 r57 hr58) rfl ?_
    refine a_val (v := (.bool (!r57))) (u := []) rfl trivial rfl ?_
    refine a_val (v := (.bool (!r57))) (u := []) rfl trivial rfl ?_
    cases hb59 : (!r57)
    · have h := ite_f hb59 h
      have hl60 : LdOk [] (eA64u8 r37.2.1) [] 64 true (eA64u8 r37.2.1) := (.nil rfl rfl rfl)
      refine a_gval rfl (v := (eA64u8 r37.2.1)) (u := []) (ld_own (i := ⟨.arr 64 5, 64, 64, (eA64u8 (vrep 64 (0 : Int)))⟩) rfl rfl rfl hl60) hl60.c rfl ?_
      have hl61 : LdOk [] (eA64u8 r17.2.1) [] 64 true (eA64u8 r17.2.1) := (.nil rfl rfl rfl)
      refine a_gval rfl (v := (eA64u8 r17.2.1)) (u := []) (ld_own (i := ⟨.arr 64 5, 64, 64, (eA64u8 (vrep 64 (0 : Int)))⟩) rfl rfl rfl hl61) hl61.c rfl ?_
      obtain ⟨r62, hr63, h⟩ := bind_some h
      refine a_gcall rfl (args := [(eA64u8 r37.2.1), (eA64u8 r17.2.1)]) (u := []) (r := (.bool r62)) rfl rfl (laws_eqPoly_ok r37.2.1 r17.2.1 r62 hr63) rfl ?_
      refine a_gval rfl (v := (.bool (!r62))) (u := []) rfl trivial rfl ?_
      refine a_val (v := (.bool (!r62))) (u := []) rfl trivial rfl ?_
      refine a_val (v := (.bool (!r62))) (u := []) rfl trivial rfl ?_
      cases hb64 : (!r62)
      · have h := ite_f hb64 h
        refine a_gval rfl (v := (.int .i64 r37.2.2)) (u := []) rfl trivial rfl ?_
        refine a_gval rfl (v := (.int .i64 r17.2.2)) (u := []) rfl trivial rfl ?_
        refine a_gval rfl (v := (.bool (r37.2.2 != r17.2.2))) (u := []) rfl trivial rfl ?_
        refine a_val (v := (.bool (r37.2.2 != r17.2.2))) (u := []) rfl trivial rfl ?_
        refine a_nil ?_
        exact j_leaf (r37.2.2 != r17.2.2) (Option.some.inj h) (by kernel_rfl)
      · have h := ite_t hb64 h
        refine a_gskip rfl ?_
        refine a_gskip rfl ?_
        refine a_gskip rfl ?_
        refine a_val (v := (.bool true)) (u := []) rfl trivial rfl ?_
        refine a_nil ?_
        exact j_leaf true (Option.some.inj h) (by kernel_rfl)
    · have h := ite_t hb59 h
      refine a_gskip rfl ?_
      refine a_gskip rfl ?_
      refine a_gskip rfl ?_
      refine a_gskip rfl ?_
      refine a_val (v := (.bool true)) (u := []) rfl trivial rfl ?_
      refine a_val (v := (.bool true)) (u := []) rfl trivial rfl ?_
      refine a_gskip rfl ?_
      refine a_gskip rfl ?_
      refine a_gskip rfl ?_
      refine a_val (v := (.bool true)) (u := []) rfl trivial rfl ?_
      refine a_nil ?_
      exact j_leaf true (Option.some.inj h) (by kernel_rfl)
def impl_prime_raised_c : ACode := (.seq (.region 0 [⟨some 6, .asg 1 (.const (.slice none 0 0)) 64, none, []⟩] false) (.seq (.region 1 [⟨some 8, .bslice 0 64 1 [(0, (.const (.int .i64 1)))], none, []⟩, ⟨some 7, .asg 1 (.tmp 8) 64, none, []⟩] false) (.seq (.seq (.region 2 [⟨some 9, .mov (.tmp 2), none, []⟩, ⟨some 10, .mov (.const (.int .i64 0)), none, []⟩] false) (.block 0 (.loop (.seq (.region 3 [⟨some 11, .bin .lss 2 (.tmp 10) (.tmp 9), none, []⟩] false) (.seq (.cond (.tmp 11) .skip (.exit 0)) (.seq (.block 1 (.region 4 [⟨some 12, .mov (.tmp 0), none, []⟩, ⟨some 13, .mov (.tmp 7), none, []⟩, ⟨some 14, .mov (.tmp 1), none, []⟩, ⟨some 15, .call 0 (.func 59) [(.tmp 12), (.tmp 13), (.tmp 14)], none, []⟩, ⟨some 7, .asg 1 (.tmp 15) 64, none, []⟩] false)) (.region 5 [⟨some 16, .bin .add 2 (.tmp 10) (.const (.int .i64 1)), none, []⟩, ⟨some 10, .mov (.tmp 16), none, []⟩] false))))))) (.seq (.region 6 [⟨some 17, .mov (.tmp 7), none, []⟩, ⟨some 6, .asg 1 (.tmp 17) 64, none, []⟩] false) .ret))))
def impl_prime_raised_L : Live := [(0, [0, 1, 2]), (1, [0, 1, 2]), (2, [0, 1, 2, 7]), (3, [0, 1, 7, 9, 10]), (4, [0, 1, 7, 9, 10]), (5, [0, 1, 7, 9, 10]), (6, [7]), (100011, [0, 1, 7, 9, 10, 11])]
theorem impl_prime_raised_body : Try.f99.body = some (Try.f99.body.getD .skip) := by kernel_rfl
theorem impl_prime_raised_strip : strip [(6, 1), (7, 1)] (Try.f99.body.getD .skip) = impl_prime_raised_c := by kernel_rfl
noncomputable def impl_prime_raised_l1 (a2 : Int) (a0 : Int) (a1 : (List Int)) (x23 : (List Int)) (x24 : Int) : Option (((List Int) × Int) ⊕ (List Int)) :=
  (if (decide (x24 < a2)) then (Option.bind (impl_prime_times a0 x23 a1) fun r32 => (some (.inl ((r32, IntKind.i64.wrap (x24 + 1)))))) else (some (.inr x23)))
noncomputable def impl_prime_raised (a0 : Int) (a1 : (List Int)) (a2 : Int) : Option (List Int) :=
  (Option.bind (α := (List Int)) ((loopM (fun s : ((List Int) × Int) => impl_prime_raised_l1 a2 a0 a1 s.1 s.2) ([1], 0))) fun x16 => (some x16))
set_option maxHeartbeats 16000000 in
theorem impl_prime_raised_ok (a0 : Int) (a1 : (List Int)) (a2 : Int) (r : (List Int)) (h : impl_prime_raised a0 a1 a2 = some r) : Den Try.prog 99 [(.int .i64 a0), (eSi64 a1), (.int .i64 a2)] { r := (eSi64 r) } := by
  refine den_of (rs := [(eSi64 r)]) (ac := impl_prime_raised_c) (L := impl_prime_raised_L) (n := 18) (m := [(6, 1), (7, 1)]) good Try.func99 impl_prime_raised_body (by kernel_rfl) Try.ntmps99 rfl rfl impl_prime_raised_strip rfl rfl ?_
  refine a_st (σ' := ⟨[(0, (.int .i64 a0)), (1, (eSi64 a1)), (2, (.int .i64 a2))], []⟩) (by kernel_rfl) ?_
  unfold impl_prime_raised_c
  refine a_seq ?_
  refine a_region ?_
  refine a_val (v := (eSi64 ([]))) (u := []) rfl trivial rfl ?_
  refine a_nil ?_
  refine a_next (σ' := ⟨[(0, (.int .i64 a0)), (1, (eSi64 a1)), (2, (.int .i64 a2))], []⟩) (by kernel_rfl) ?_
  refine a_seq ?_
  refine a_region ?_
  refine a_val (v := (.sl 1 true (([1]).map (AV.int .i64)))) (u := []) rfl ⟨(Nat.le_of_ble_eq_true rfl), (Nat.le_of_ble_eq_true rfl), (all_cons ⟨(Nat.le_of_ble_eq_true rfl), rfl⟩ all_nil)⟩ rfl ?_
  refine a_val (v := (eSi64 ([1]))) (u := []) (asg_tight (i := ⟨.int .i64, 1, 8, (.int .i64 0)⟩) (f := (AV.int .i64)) (l := [1]) rfl rfl rfl) trivial rfl ?_
  refine a_nil ?_
  refine a_next (σ' := ⟨[(0, (.int .i64 a0)), (1, (eSi64 a1)), (2, (.int .i64 a2)), (7, (eSi64 ([1])))], []⟩) (by kernel_rfl) ?_
  obtain ⟨y17, hy18, hk19⟩ := bind_some h
  clear h
  refine a_join (emb := fun (s : (List Int)) => ⟨[(7, (eSi64 s))], []⟩) (pre := fun s => s = y17) ?_ ?_
  · rintro x16 rfl
    have h := hk19
    refine a_st (σ' := ⟨[(7, (eSi64 x16))], []⟩) (by kernel_rfl) ?_
    refine a_seq ?_
    refine a_region ?_
    refine a_val (v := (eSi64 x16)) (u := []) rfl trivial rfl ?_
    refine a_val (v := (eSi64 x16)) (u := []) rfl trivial rfl ?_
    refine a_nil ?_
    refine a_next rfl ?_
    refine a_ret ?_
    refine ⟨.inr rfl, ?_⟩
    rw [Try.results99]
    cases h
    exact ⟨_, _, _, _, _, rfl, trivial, .inl ⟨rfl, .inl rfl⟩, rfl, rfl⟩
  · have h := hy18
    refine a_seq ?_
    refine a_region ?_
    refine a_val (v := (.int .i64 a2)) (u := []) rfl trivial rfl ?_
    refine a_val (v := (.int .i64 0)) (u := []) rfl trivial rfl ?_
    refine a_nil ?_
    refine a_next (σ' := ⟨[(0, (.int .i64 a0)), (1, (eSi64 a1)), (7, (eSi64 ([1]))), (9, (.int .i64 a2)), (10, (.int .i64 0))], []⟩) (by kernel_rfl) ?_
    refine a_block ?_
    refine a_loop (emb := fun (s : ((List Int) × Int)) => ⟨[(0, (.int .i64 a0)), (1, (eSi64 a1)), (7, (eSi64 s.1)), (9, (.int .i64 a2)), (10, (.int .i64 s.2))], []⟩) (body := (fun s : ((List Int) × Int) => impl_prime_raised_l1 a2 a0 a1 s.1 s.2)) (G := fun q => some q = some y17) h rfl ?_ (by kernel_rfl)
    rintro X28 ⟨x23, x24⟩ x29 h hX30
    have h : impl_prime_raised_l1 a2 a0 a1 x23 x24 = some x29 := h
    refine a_st (σ' := ⟨[(0, (.int .i64 a0)), (1, (eSi64 a1)), (7, (eSi64 x23)), (9, (.int .i64 a2)), (10, (.int .i64 x24))], []⟩) (by kernel_rfl) ?_
    refine a_seq ?_
    refine a_region ?_
    refine a_val (v := (.bool ((decide (x24 < a2))))) (u := []) rfl trivial rfl ?_
    refine a_nil ?_
    refine a_next (σ' := ⟨[(0, (.int .i64 a0)), (1, (eSi64 a1)), (7, (eSi64 x23)), (9, (.int .i64 a2)), (10, (.int .i64 x24)), (11, (.bool ((decide (x24 < a2)))))], []⟩) (by kernel_rfl) ?_
    refine a_seq ?_
    cases hb31 : (decide (x24 < a2))
    · have h := ite_f hb31 h
      refine a_cond_f rfl ?_
      refine a_exit ?_
      refine t_exit ?_
      cases h
      have h := hX30
      refine t_exit ?_
      refine b_exit ?_
      exact j_leaf x23 (Option.some.inj h) (by kernel_rfl)
    · have h := ite_t hb31 h
      refine a_cond_t rfl ?_
      refine a_skip ?_
      refine a_next (σ' := ⟨[(0, (.int .i64 a0)), (1, (eSi64 a1)), (7, (eSi64 x23)), (9, (.int .i64 a2)), (10, (.int .i64 x24))], []⟩) (by kernel_rfl) ?_
      refine a_seq ?_
      refine a_block ?_
      refine a_region ?_
      refine a_val (v := (.int .i64 a0)) (u := []) rfl trivial rfl ?_
      refine a_val (v := (eSi64 x23)) (u := []) rfl trivial rfl ?_
      refine a_val (v := (eSi64 a1)) (u := []) rfl trivial rfl ?_
      obtain ⟨r32, hr33, h⟩ := bind_some h
      refine a_call (args := [(.int .i64 a0), (eSi64 x23), (eSi64 a1)]) (u := []) (r := (eSi64 r32)) rfl rfl (impl_prime_times_ok a0 x23 a1 r32 hr33) rfl ?_
      refine a_val (v := (eSi64 r32)) (u := []) rfl trivial rfl ?_
      refine a_nil ?_
      refine b_norm ?_
      refine a_next (σ' := ⟨[(0, (.int .i64 a0)), (1, (eSi64 a1)), (7, (eSi64 r32)), (9, (.int .i64 a2)), (10, (.int .i64 x24))], []⟩) (by kernel_rfl) ?_
      refine a_region ?_
      refine a_val (v := (.int .i64 (IntKind.i64.wrap (x24 + 1)))) (u := []) rfl trivial rfl ?_
      refine a_val (v := (.int .i64 (IntKind.i64.wrap (x24 + 1)))) (u := []) rfl trivial rfl ?_
      refine a_nil ?_
      cases h
      exact a_again (by kernel_rfl) hX30
def spec_l08Power_c : ACode := (.seq (.region 0 [⟨some 4, .box 23 (.tmp 1), none, []⟩, ⟨some 6, .alloc 23, none, []⟩, ⟨some 7, .asg 0 (.const (.bool false)) 4, none, []⟩] false) (.seq (.region 1 [⟨some 11, .call 0 (.func 61) [], none, []⟩, ⟨some 8, .alloc 23, none, []⟩, ⟨none, .store 23 (.tmp 8) (.tmp 11), none, []⟩] false) (.seq (.block 0 (.loop (.seq (.seq (.region 2 [⟨some 12, .mov (.tmp 2), none, []⟩, ⟨some 13, .bin .gtr 2 (.tmp 12) (.const (.int .i64 0)), none, []⟩] false) (.cond (.tmp 13) .skip (.exit 0))) (.seq (.block 1 (.seq (.region 4 [⟨some 17, .mov (.tmp 0), none, []⟩, ⟨some 18, .load 23 (.tmp 8), none, []⟩, ⟨some 19, .load 23 (.tmp 4), none, []⟩, ⟨some 20, .call 0 (.func 52) [(.tmp 17), (.tmp 18), (.tmp 19)], none, []⟩, ⟨some 16, .mov (.tmp 20), none, []⟩, ⟨some 21, .extract (.tmp 16) 0, none, []⟩, ⟨some 22, .extract (.tmp 16) 1, none, []⟩, ⟨some 9, .alloc 23, none, []⟩, ⟨none, .store 23 (.tmp 9) (.tmp 21), none, []⟩, ⟨some 10, .asg 0 (.tmp 22) 4, none, []⟩] false) (.seq (.seq (.region 5 [⟨some 23, .mov (.tmp 10), none, []⟩, ⟨some 24, .un .not (.tmp 23), none, []⟩] false) (.cond (.tmp 24) (.seq (.region 6 [⟨some 25, .build 23 [], none, []⟩, ⟨none, .store 23 (.tmp 6) (.tmp 25), none, []⟩, ⟨some 7, .asg 0 (.const (.bool false)) 4, none, []⟩] false) .ret) .skip)) (.region 7 [⟨some 26, .load 23 (.tmp 9), none, []⟩, ⟨none, .store 23 (.tmp 8) (.tmp 26), none, []⟩] false)))) (.region 3 [⟨some 14, .mov (.tmp 2), none, []⟩, ⟨some 15, .bin .sub 2 (.tmp 14) (.const (.int .i64 1)), none, []⟩, ⟨some 2, .asg 0 (.tmp 15) 2, none, []⟩] false))))) (.seq (.region 8 [⟨some 27, .load 23 (.tmp 8), none, []⟩, ⟨none, .store 23 (.tmp 6) (.tmp 27), none, []⟩, ⟨some 7, .asg 0 (.const (.bool true)) 4, none, []⟩] false) .ret))))
def spec_l08Power_L : Live := [(0, [0, 1, 2]), (1, [0, 2, 4, 6]), (2, [0, 2, 4, 6, 8]), (3, [0, 2, 4, 6, 8]), (4, [0, 2, 4, 6, 8]), (5, [0, 2, 4, 6, 8, 9, 10]), (6, [6]), (7, [0, 2, 4, 6, 8, 9]), (8, [6, 8]), (100013, [0, 2, 4, 6, 8, 13]), (100024, [0, 2, 4, 6, 8, 9, 24])]
theorem spec_l08Power_body : Try.f96.body = some (Try.f96.body.getD .skip) := by kernel_rfl
theorem spec_l08Power_strip : strip [] (Try.f96.body.getD .skip) = spec_l08Power_c := by kernel_rfl
noncomputable def spec_l08Power_l1 (a0 : Int) (a1 : (Vec Int 64)) (x54 : Int) (x55 : (Vec Int 64)) : Option ((Int × (Vec Int 64)) ⊕ ((Vec Int 64) ⊕ ((Vec Int 64) × Bool))) :=
  (if (decide (x54 > 0)) then (Option.bind (spec_l01Times a0 x55 a1) fun r72 => (if (!r72.2) then (some (.inr ((.inr (((vrep 64 (0 : Int)), false)))))) else (some (.inl ((IntKind.i64.wrap (x54 - 1), r72.1)))))) else (some (.inr (.inl x55))))
noncomputable def spec_l08Power (a0 : Int) (a1 : (Vec Int 64)) (a2 : Int) : Option ((Vec Int 64) × Bool) :=
  (Option.bind (spec_l01One) fun r1 => (Option.bind (α := ((Vec Int 64) ⊕ ((Vec Int 64) × Bool))) ((loopM (fun s : (Int × (Vec Int 64)) => spec_l08Power_l1 a0 a1 s.1 s.2) (a2, r1))) fun z => match z with | .inl x40 => (some (x40, true)) | .inr r84 => (some r84)))
set_option maxHeartbeats 16000000 in
theorem spec_l08Power_ok (a0 : Int) (a1 : (Vec Int 64)) (a2 : Int) (r : ((Vec Int 64) × Bool)) (h : spec_l08Power a0 a1 a2 = some r) : Den Try.prog 96 [(.int .i64 a0), (eA64u8 a1), (.int .i64 a2)] { r := (.tuple [(eA64u8 r.1), (.bool r.2)]) } := by
  refine den_of (rs := [(eA64u8 r.1), (.bool r.2)]) (ac := spec_l08Power_c) (L := spec_l08Power_L) (n := 28) (m := []) good Try.func96 spec_l08Power_body (by kernel_rfl) Try.ntmps96 rfl rfl spec_l08Power_strip rfl rfl ?_
  refine a_st (σ' := ⟨[(0, (.int .i64 a0)), (1, (eA64u8 a1)), (2, (.int .i64 a2))], []⟩) (by kernel_rfl) ?_
  unfold spec_l08Power_c
  refine a_seq ?_
  refine a_region ?_
  refine a_val (v := (.own 1400 [] [])) (u := [(1400, some ⟨(eA64u8 a1), false⟩)]) rfl trivial rfl ?_
  refine a_val (v := (.own 1600 [] [])) (u := [(1600, some ⟨(eA64u8 ((vrep 64 (0 : Int)))), false⟩)]) rfl trivial rfl ?_
  refine a_val (v := (.bool false)) (u := []) rfl trivial rfl ?_
  refine a_nil ?_
  refine a_next (σ' := ⟨[(0, (.int .i64 a0)), (2, (.int .i64 a2)), (4, (.own 4 [] [])), (6, (.own 6 [] []))], [(4, some ⟨(eA64u8 a1), false⟩), (6, some ⟨(eA64u8 ((vrep 64 (0 : Int)))), false⟩)]⟩) (by kernel_rfl) ?_
  refine a_seq ?_
  refine a_region ?_
  obtain ⟨r1, hr2, h⟩ := bind_some h
  refine a_call (args := []) (u := []) (r := (eA64u8 r1)) rfl rfl (spec_l01One_ok r1 hr2) rfl ?_
  refine a_val (v := (.own 1800 [] [])) (u := [(1800, some ⟨(eA64u8 ((vrep 64 (0 : Int)))), false⟩)]) rfl trivial rfl ?_
  have hs3 : StOk [] (eA64u8 ((vrep 64 (0 : Int)))) [] 64 (eA64u8 r1) (eA64u8 r1) := (.nil rfl rfl rfl rfl)
  refine a_val (v := .top) (u := [(1800, some ⟨(eA64u8 r1), false⟩)]) (st_own (i := ⟨.arr 64 5, 64, 64, (eA64u8 (vrep 64 (0 : Int)))⟩) rfl rfl (fun _ => rfl) rfl hs3) (hs3.c rfl) rfl ?_
  refine a_nil ?_
  refine a_next (σ' := ⟨[(0, (.int .i64 a0)), (2, (.int .i64 a2)), (4, (.own 4 [] [])), (6, (.own 6 [] [])), (8, (.own 8 [] []))], [(4, some ⟨(eA64u8 a1), false⟩), (6, some ⟨(eA64u8 ((vrep 64 (0 : Int)))), false⟩), (8, some ⟨(eA64u8 r1), false⟩)]⟩) (by kernel_rfl) ?_
  obtain ⟨y41, hy42, hk43⟩ := bind_some h
  clear h
  refine a_join (emb := fun (s : (Vec Int 64)) => ⟨[(6, (.own 6 [] [])), (8, (.own 8 [] []))], [(6, some ⟨(eA64u8 ((vrep 64 (0 : Int)))), false⟩), (8, some ⟨(eA64u8 s), false⟩)]⟩) (pre := fun s => (.inl s) = y41) ?_ ?_
  · rintro x40 rfl
    have h := hk43
    refine a_st (σ' := ⟨[(6, (.own 6 [] [])), (8, (.own 8 [] []))], [(6, some ⟨(eA64u8 ((vrep 64 (0 : Int)))), false⟩), (8, some ⟨(eA64u8 x40), false⟩)]⟩) (by kernel_rfl) ?_
    refine a_seq ?_
    refine a_region ?_
    have hl81 : LdOk [] (eA64u8 x40) [] 64 true (eA64u8 x40) := (.nil rfl rfl rfl)
    refine a_val (v := (eA64u8 x40)) (u := []) (ld_own (i := ⟨.arr 64 5, 64, 64, (eA64u8 (vrep 64 (0 : Int)))⟩) rfl rfl rfl hl81) hl81.c rfl ?_
    have hs82 : StOk [] (eA64u8 ((vrep 64 (0 : Int)))) [] 64 (eA64u8 x40) (eA64u8 x40) := (.nil rfl rfl rfl rfl)
    refine a_val (v := .top) (u := [(6, some ⟨(eA64u8 x40), false⟩)]) (st_own (i := ⟨.arr 64 5, 64, 64, (eA64u8 (vrep 64 (0 : Int)))⟩) rfl rfl (fun _ => rfl) rfl hs82) (hs82.c rfl) rfl ?_
    refine a_val (v := (.bool true)) (u := []) rfl trivial rfl ?_
    refine a_nil ?_
    refine a_next rfl ?_
    refine a_ret ?_
    have hl83 : LdOk [] (eA64u8 x40) [] 64 true (eA64u8 x40) := (.nil rfl rfl rfl)
    refine ⟨.inr rfl, ?_⟩
    rw [Try.results96]
    cases h
    exact ⟨_, _, _, _, _, ld_own (i := ⟨.arr 64 5, 64, 64, (eA64u8 (vrep 64 (0 : Int)))⟩) rfl rfl rfl hl83, hl83.c, .inl ⟨rfl, .inl rfl⟩, rfl, ⟨_, _, _, _, _, rfl, trivial, .inl ⟨rfl, .inl rfl⟩, rfl, rfl⟩⟩
  · have h := hy42
    refine a_block ?_
    refine a_loop (emb := fun (s : (Int × (Vec Int 64))) => ⟨[(0, (.int .i64 a0)), (2, (.int .i64 s.1)), (4, (.own 4 [] [])), (6, (.own 6 [] [])), (8, (.own 8 [] []))], [(4, some ⟨(eA64u8 a1), false⟩), (6, some ⟨(eA64u8 ((vrep 64 (0 : Int)))), false⟩), (8, some ⟨(eA64u8 s.2), false⟩)]⟩) (body := (fun s : (Int × (Vec Int 64)) => spec_l08Power_l1 a0 a1 s.1 s.2)) (G := fun q => some q = some y41) h rfl ?_ (by kernel_rfl)
    rintro X66 ⟨x54, x55⟩ x67 h hX68
    have h : spec_l08Power_l1 a0 a1 x54 x55 = some x67 := h
    refine a_st (σ' := ⟨[(0, (.int .i64 a0)), (2, (.int .i64 x54)), (4, (.own 4 [] [])), (6, (.own 6 [] [])), (8, (.own 8 [] []))], [(4, some ⟨(eA64u8 a1), false⟩), (6, some ⟨(eA64u8 ((vrep 64 (0 : Int)))), false⟩), (8, some ⟨(eA64u8 x55), false⟩)]⟩) (by kernel_rfl) ?_
    refine a_seq ?_
    refine a_seq ?_
    refine a_region ?_
    refine a_val (v := (.int .i64 x54)) (u := []) rfl trivial rfl ?_
    refine a_val (v := (.bool ((decide (x54 > 0))))) (u := []) rfl trivial rfl ?_
    refine a_nil ?_
    refine a_next (σ' := ⟨[(0, (.int .i64 a0)), (2, (.int .i64 x54)), (4, (.own 4 [] [])), (6, (.own 6 [] [])), (8, (.own 8 [] [])), (13, (.bool ((decide (x54 > 0)))))], [(4, some ⟨(eA64u8 a1), false⟩), (6, some ⟨(eA64u8 ((vrep 64 (0 : Int)))), false⟩), (8, some ⟨(eA64u8 x55), false⟩)]⟩) (by kernel_rfl) ?_
    cases hb69 : (decide (x54 > 0))
    · have h := ite_f hb69 h
      refine a_cond_f rfl ?_
      refine a_exit ?_
      refine t_exit ?_
      cases h
      have h := hX68
      refine t_exit ?_
      refine b_exit ?_
      exact j_leaf x55 (Option.some.inj h) (by kernel_rfl)
    · have h := ite_t hb69 h
      refine a_cond_t rfl ?_
      refine a_skip ?_
      refine a_next (σ' := ⟨[(0, (.int .i64 a0)), (2, (.int .i64 x54)), (4, (.own 4 [] [])), (6, (.own 6 [] [])), (8, (.own 8 [] []))], [(4, some ⟨(eA64u8 a1), false⟩), (6, some ⟨(eA64u8 ((vrep 64 (0 : Int)))), false⟩), (8, some ⟨(eA64u8 x55), false⟩)]⟩) (by kernel_rfl) ?_
      refine a_seq ?_
      refine a_block ?_
      refine a_seq ?_
      refine a_region ?_
      refine a_val (v := (.int .i64 a0)) (u := []) rfl trivial rfl ?_
      have hl70 : LdOk [] (eA64u8 x55) [] 64 true (eA64u8 x55) := (.nil rfl rfl rfl)
      refine a_val (v := (eA64u8 x55)) (u := []) (ld_own (i := ⟨.arr 64 5, 64, 64, (eA64u8 (vrep 64 (0 : Int)))⟩) rfl rfl rfl hl70) hl70.c rfl ?_
      have hl71 : LdOk [] (eA64u8 a1) [] 64 true (eA64u8 a1) := (.nil rfl rfl rfl)
      refine a_val (v := (eA64u8 a1)) (u := []) (ld_own (i := ⟨.arr 64 5, 64, 64, (eA64u8 (vrep 64 (0 : Int)))⟩) rfl rfl rfl hl71) hl71.c rfl ?_
      obtain ⟨r72, hr73, h⟩ := bind_some h
      refine a_call (args := [(.int .i64 a0), (eA64u8 x55), (eA64u8 a1)]) (u := []) (r := (.tuple [(eA64u8 r72.1), (.bool r72.2)])) rfl rfl (spec_l01Times_ok a0 x55 a1 r72 hr73) rfl ?_
      refine a_val (v := (.tuple [(eA64u8 r72.1), (.bool r72.2)])) (u := []) rfl trivial rfl ?_
      refine a_val (v := (eA64u8 r72.1)) (u := []) rfl (Nat.le_of_ble_eq_true rfl) rfl ?_
      refine a_val (v := (.bool r72.2)) (u := []) rfl (Nat.le_of_ble_eq_true rfl) rfl ?_
      refine a_val (v := (.own 1900 [] [])) (u := [(1900, some ⟨(eA64u8 ((vrep 64 (0 : Int)))), false⟩)]) rfl trivial rfl ?_
      have hs74 : StOk [] (eA64u8 ((vrep 64 (0 : Int)))) [] 64 (eA64u8 r72.1) (eA64u8 r72.1) := (.nil rfl rfl rfl rfl)
      refine a_val (v := .top) (u := [(1900, some ⟨(eA64u8 r72.1), false⟩)]) (st_own (i := ⟨.arr 64 5, 64, 64, (eA64u8 (vrep 64 (0 : Int)))⟩) rfl rfl (fun _ => rfl) rfl hs74) (hs74.c rfl) rfl ?_
      refine a_val (v := (.bool r72.2)) (u := []) rfl trivial rfl ?_
      refine a_nil ?_
      refine a_next (σ' := ⟨[(0, (.int .i64 a0)), (2, (.int .i64 x54)), (4, (.own 4 [] [])), (6, (.own 6 [] [])), (8, (.own 8 [] [])), (9, (.own 9 [] [])), (10, (.bool r72.2))], [(4, some ⟨(eA64u8 a1), false⟩), (6, some ⟨(eA64u8 ((vrep 64 (0 : Int)))), false⟩), (8, some ⟨(eA64u8 x55), false⟩), (9, some ⟨(eA64u8 r72.1), false⟩)]⟩) (by kernel_rfl) ?_
      refine a_seq ?_
      refine a_seq ?_
      refine a_region ?_
      refine a_val (v := (.bool r72.2)) (u := []) rfl trivial rfl ?_
      refine a_val (v := (.bool (!r72.2))) (u := []) rfl trivial rfl ?_
      refine a_nil ?_
      refine a_next (σ' := ⟨[(0, (.int .i64 a0)), (2, (.int .i64 x54)), (4, (.own 4 [] [])), (6, (.own 6 [] [])), (8, (.own 8 [] [])), (9, (.own 9 [] [])), (24, (.bool (!r72.2)))], [(4, some ⟨(eA64u8 a1), false⟩), (6, some ⟨(eA64u8 ((vrep 64 (0 : Int)))), false⟩), (8, some ⟨(eA64u8 x55), false⟩), (9, some ⟨(eA64u8 r72.1), false⟩)]⟩) (by kernel_rfl) ?_
      cases hb75 : (!r72.2)
      · have h := ite_f hb75 h
        refine a_cond_f rfl ?_
        refine a_skip ?_
        refine a_next (σ' := ⟨[(0, (.int .i64 a0)), (2, (.int .i64 x54)), (4, (.own 4 [] [])), (6, (.own 6 [] [])), (8, (.own 8 [] [])), (9, (.own 9 [] []))], [(4, some ⟨(eA64u8 a1), false⟩), (6, some ⟨(eA64u8 ((vrep 64 (0 : Int)))), false⟩), (8, some ⟨(eA64u8 x55), false⟩), (9, some ⟨(eA64u8 r72.1), false⟩)]⟩) (by kernel_rfl) ?_
        refine a_region ?_
        have hl76 : LdOk [] (eA64u8 r72.1) [] 64 true (eA64u8 r72.1) := (.nil rfl rfl rfl)
        refine a_val (v := (eA64u8 r72.1)) (u := []) (ld_own (i := ⟨.arr 64 5, 64, 64, (eA64u8 (vrep 64 (0 : Int)))⟩) rfl rfl rfl hl76) hl76.c rfl ?_
        have hs77 : StOk [] (eA64u8 x55) [] 64 (eA64u8 r72.1) (eA64u8 r72.1) := (.nil rfl rfl rfl rfl)
        refine a_val (v := .top) (u := [(8, some ⟨(eA64u8 r72.1), false⟩)]) (st_own (i := ⟨.arr 64 5, 64, 64, (eA64u8 (vrep 64 (0 : Int)))⟩) rfl rfl (fun _ => rfl) rfl hs77) (hs77.c rfl) rfl ?_
        refine a_nil ?_
        refine b_norm ?_
        refine a_next (σ' := ⟨[(0, (.int .i64 a0)), (2, (.int .i64 x54)), (4, (.own 4 [] [])), (6, (.own 6 [] [])), (8, (.own 8 [] []))], [(4, some ⟨(eA64u8 a1), false⟩), (6, some ⟨(eA64u8 ((vrep 64 (0 : Int)))), false⟩), (8, some ⟨(eA64u8 r72.1), false⟩)]⟩) (by kernel_rfl) ?_
        refine a_region ?_
        refine a_val (v := (.int .i64 x54)) (u := []) rfl trivial rfl ?_
        refine a_val (v := (.int .i64 (IntKind.i64.wrap (x54 - 1)))) (u := []) rfl trivial rfl ?_
        refine a_val (v := (.int .i64 (IntKind.i64.wrap (x54 - 1)))) (u := []) rfl trivial rfl ?_
        refine a_nil ?_
        cases h
        exact a_again (by kernel_rfl) hX68
      · have h := ite_t hb75 h
        refine a_cond_t rfl ?_
        refine a_seq ?_
        refine a_region ?_
        refine a_val (v := (eA64u8 ((vrep 64 (0 : Int))))) (u := []) rfl ⟨⟨_, rfl, rfl⟩, all_nil⟩ rfl ?_
        have hs78 : StOk [] (eA64u8 ((vrep 64 (0 : Int)))) [] 64 (eA64u8 ((vrep 64 (0 : Int)))) (eA64u8 ((vrep 64 (0 : Int)))) := (.nil rfl rfl rfl rfl)
        refine a_val (v := .top) (u := [(6, some ⟨(eA64u8 ((vrep 64 (0 : Int)))), false⟩)]) (st_own (i := ⟨.arr 64 5, 64, 64, (eA64u8 (vrep 64 (0 : Int)))⟩) rfl rfl (fun _ => rfl) rfl hs78) (hs78.c rfl) rfl ?_
        refine a_val (v := (.bool false)) (u := []) rfl trivial rfl ?_
        refine a_nil ?_
        refine a_next rfl ?_
        refine a_ret ?_
        refine t_ret ?_
        refine b_ret ?_
        refine t_ret ?_
        cases h
        have h := hX68
        refine t_ret ?_
        refine b_ret ?_
        refine t_ret ?_
        cases h
        have h := hk43
        have hl79 : LdOk [] (eA64u8 ((vrep 64 (0 : Int)))) [] 64 true (eA64u8 ((vrep 64 (0 : Int)))) := (.nil rfl rfl rfl)
        refine ⟨.inr rfl, ?_⟩
        rw [Try.results96]
        cases h
        exact ⟨_, _, _, _, _, ld_own (i := ⟨.arr 64 5, 64, 64, (eA64u8 (vrep 64 (0 : Int)))⟩) rfl rfl rfl hl79, hl79.c, .inl ⟨rfl, .inl rfl⟩, rfl, ⟨_, _, _, _, _, rfl, trivial, .inl ⟨rfl, .inl rfl⟩, rfl, rfl⟩⟩
def impl_prime_norm_c : ACode := (.seq (.region 0 [⟨some 6, .asg 0 (.const (.int .i64 0)) 2, none, []⟩] false) (.seq (.region 1 [⟨some 7, .asg 0 (.const (.int .i64 1)) 2, none, []⟩] false) (.seq (.seq (.region 2 [⟨some 8, .mov (.tmp 1), none, []⟩, ⟨some 9, .mov (.const (.int .i64 0)), none, []⟩] false) (.block 0 (.loop (.seq (.region 3 [⟨some 10, .bin .lss 2 (.tmp 9) (.tmp 8), none, []⟩] false) (.seq (.cond (.tmp 10) .skip (.exit 0)) (.seq (.block 1 (.seq (.seq (.region 4 [⟨some 11, .mov (.tmp 7), none, []⟩, ⟨some 12, .mov (.tmp 2), none, []⟩, ⟨some 13, .bin .gtr 2 (.tmp 11) (.tmp 12), none, []⟩] false) (.cond (.tmp 13) (.exit 0) .skip)) (.region 5 [⟨some 14, .mov (.tmp 7), none, []⟩, ⟨some 15, .mov (.tmp 0), none, []⟩, ⟨some 16, .bin .mul 2 (.tmp 14) (.tmp 15), none, []⟩, ⟨some 7, .asg 0 (.tmp 16) 2, none, []⟩] false))) (.region 6 [⟨some 17, .bin .add 2 (.tmp 9) (.const (.int .i64 1)), none, []⟩, ⟨some 9, .mov (.tmp 17), none, []⟩] false))))))) (.seq (.region 7 [⟨some 18, .mov (.tmp 7), none, []⟩, ⟨some 6, .asg 0 (.tmp 18) 2, none, []⟩] false) .ret))))
def impl_prime_norm_L : Live := [(0, [0, 1, 2]), (1, [0, 1, 2]), (2, [0, 1, 2, 7]), (3, [0, 2, 7, 8, 9]), (4, [0, 2, 7, 8, 9]), (5, [0, 2, 7, 8, 9]), (6, [0, 2, 7, 8, 9]), (7, [7]), (100010, [0, 2, 7, 8, 9, 10]), (100013, [0, 2, 7, 8, 9, 13])]
theorem impl_prime_norm_body : Try.f115.body = some (Try.f115.body.getD .skip) := by kernel_rfl
theorem impl_prime_norm_strip : strip [] (Try.f115.body.getD .skip) = impl_prime_norm_c := by kernel_rfl
noncomputable def impl_prime_norm_l1 (a1 : Int) (a2 : Int) (a0 : Int) (x19 : Int) (x20 : Int) : Option ((Int × Int) ⊕ Int) :=
  (if (decide (x20 < a1)) then (if (decide (x19 > a2)) then (some (.inr x19)) else (some (.inl ((IntKind.i64.wrap (x19 * a0), IntKind.i64.wrap (x20 + 1)))))) else (some (.inr x19)))
noncomputable def impl_prime_norm (a0 : Int) (a1 : Int) (a2 : Int) : Option Int :=
  (Option.bind (α := Int) ((loopM (fun s : (Int × Int) => impl_prime_norm_l1 a1 a2 a0 s.1 s.2) (1, 0))) fun x13 => (some x13))
set_option maxHeartbeats 16000000 in
theorem impl_prime_norm_ok (a0 : Int) (a1 : Int) (a2 : Int) (r : Int) (h : impl_prime_norm a0 a1 a2 = some r) : Den Try.prog 115 [(.int .i64 a0), (.int .i64 a1), (.int .i64 a2)] { r := (.int .i64 r) } := by
  refine den_of (rs := [(.int .i64 r)]) (ac := impl_prime_norm_c) (L := impl_prime_norm_L) (n := 19) (m := []) good Try.func115 impl_prime_norm_body (by kernel_rfl) Try.ntmps115 rfl rfl impl_prime_norm_strip rfl rfl ?_
  refine a_st (σ' := ⟨[(0, (.int .i64 a0)), (1, (.int .i64 a1)), (2, (.int .i64 a2))], []⟩) (by kernel_rfl) ?_
  unfold impl_prime_norm_c
  refine a_seq ?_
  refine a_region ?_
  refine a_val (v := (.int .i64 0)) (u := []) rfl trivial rfl ?_
  refine a_nil ?_
  refine a_next (σ' := ⟨[(0, (.int .i64 a0)), (1, (.int .i64 a1)), (2, (.int .i64 a2))], []⟩) (by kernel_rfl) ?_
  refine a_seq ?_
  refine a_region ?_
  refine a_val (v := (.int .i64 1)) (u := []) rfl trivial rfl ?_
  refine a_nil ?_
  refine a_next (σ' := ⟨[(0, (.int .i64 a0)), (1, (.int .i64 a1)), (2, (.int .i64 a2)), (7, (.int .i64 1))], []⟩) (by kernel_rfl) ?_
  obtain ⟨y14, hy15, hk16⟩ := bind_some h
  clear h
  refine a_join (emb := fun (s : Int) => ⟨[(7, (.int .i64 s))], []⟩) (pre := fun s => s = y14) ?_ ?_
  · rintro x13 rfl
    have h := hk16
    refine a_st (σ' := ⟨[(7, (.int .i64 x13))], []⟩) (by kernel_rfl) ?_
    refine a_seq ?_
    refine a_region ?_
    refine a_val (v := (.int .i64 x13)) (u := []) rfl trivial rfl ?_
    refine a_val (v := (.int .i64 x13)) (u := []) rfl trivial rfl ?_
    refine a_nil ?_
    refine a_next rfl ?_
    refine a_ret ?_
    refine ⟨.inr rfl, ?_⟩
    rw [Try.results115]
    cases h
    exact ⟨_, _, _, _, _, rfl, trivial, .inl ⟨rfl, .inl rfl⟩, rfl, rfl⟩
  · have h := hy15
    refine a_seq ?_
    refine a_region ?_
    refine a_val (v := (.int .i64 a1)) (u := []) rfl trivial rfl ?_
    refine a_val (v := (.int .i64 0)) (u := []) rfl trivial rfl ?_
    refine a_nil ?_
    refine a_next (σ' := ⟨[(0, (.int .i64 a0)), (2, (.int .i64 a2)), (7, (.int .i64 1)), (8, (.int .i64 a1)), (9, (.int .i64 0))], []⟩) (by kernel_rfl) ?_
    refine a_block ?_
    refine a_loop (emb := fun (s : (Int × Int)) => ⟨[(0, (.int .i64 a0)), (2, (.int .i64 a2)), (7, (.int .i64 s.1)), (8, (.int .i64 a1)), (9, (.int .i64 s.2))], []⟩) (body := (fun s : (Int × Int) => impl_prime_norm_l1 a1 a2 a0 s.1 s.2)) (G := fun q => some q = some y14) h rfl ?_ (by kernel_rfl)
    rintro X23 ⟨x19, x20⟩ x24 h hX25
    have h : impl_prime_norm_l1 a1 a2 a0 x19 x20 = some x24 := h
    refine a_st (σ' := ⟨[(0, (.int .i64 a0)), (2, (.int .i64 a2)), (7, (.int .i64 x19)), (8, (.int .i64 a1)), (9, (.int .i64 x20))], []⟩) (by kernel_rfl) ?_
    refine a_seq ?_
    refine a_region ?_
    refine a_val (v := (.bool ((decide (x20 < a1))))) (u := []) rfl trivial rfl ?_
    refine a_nil ?_
    refine a_next (σ' := ⟨[(0, (.int .i64 a0)), (2, (.int .i64 a2)), (7, (.int .i64 x19)), (8, (.int .i64 a1)), (9, (.int .i64 x20)), (10, (.bool ((decide (x20 < a1)))))], []⟩) (by kernel_rfl) ?_
    refine a_seq ?_
    cases hb26 : (decide (x20 < a1))
    · have h := ite_f hb26 h
      refine a_cond_f rfl ?_
      refine a_exit ?_
      refine t_exit ?_
      cases h
      have h := hX25
      refine t_exit ?_
      refine b_exit ?_
      exact j_leaf x19 (Option.some.inj h) (by kernel_rfl)
    · have h := ite_t hb26 h
      refine a_cond_t rfl ?_
      refine a_skip ?_
      refine a_next (σ' := ⟨[(0, (.int .i64 a0)), (2, (.int .i64 a2)), (7, (.int .i64 x19)), (8, (.int .i64 a1)), (9, (.int .i64 x20))], []⟩) (by kernel_rfl) ?_
      refine a_seq ?_
      refine a_block ?_
      refine a_seq ?_
      refine a_seq ?_
      refine a_region ?_
      refine a_val (v := (.int .i64 x19)) (u := []) rfl trivial rfl ?_
      refine a_val (v := (.int .i64 a2)) (u := []) rfl trivial rfl ?_
      refine a_val (v := (.bool ((decide (x19 > a2))))) (u := []) rfl trivial rfl ?_
      refine a_nil ?_
      refine a_next (σ' := ⟨[(0, (.int .i64 a0)), (2, (.int .i64 a2)), (7, (.int .i64 x19)), (8, (.int .i64 a1)), (9, (.int .i64 x20)), (13, (.bool ((decide (x19 > a2)))))], []⟩) (by kernel_rfl) ?_
      cases hb27 : (decide (x19 > a2))
      · have h := ite_f hb27 h
        refine a_cond_f rfl ?_
        refine a_skip ?_
        refine a_next (σ' := ⟨[(0, (.int .i64 a0)), (2, (.int .i64 a2)), (7, (.int .i64 x19)), (8, (.int .i64 a1)), (9, (.int .i64 x20))], []⟩) (by kernel_rfl) ?_
        refine a_region ?_
        refine a_val (v := (.int .i64 x19)) (u := []) rfl trivial rfl ?_
        refine a_val (v := (.int .i64 a0)) (u := []) rfl trivial rfl ?_
        refine a_val (v := (.int .i64 (IntKind.i64.wrap (x19 * a0)))) (u := []) rfl trivial rfl ?_
        refine a_val (v := (.int .i64 (IntKind.i64.wrap (x19 * a0)))) (u := []) rfl trivial rfl ?_
        refine a_nil ?_
        refine b_norm ?_
        refine a_next (σ' := ⟨[(0, (.int .i64 a0)), (2, (.int .i64 a2)), (7, (.int .i64 (IntKind.i64.wrap (x19 * a0)))), (8, (.int .i64 a1)), (9, (.int .i64 x20))], []⟩) (by kernel_rfl) ?_
        refine a_region ?_
        refine a_val (v := (.int .i64 (IntKind.i64.wrap (x20 + 1)))) (u := []) rfl trivial rfl ?_
        refine a_val (v := (.int .i64 (IntKind.i64.wrap (x20 + 1)))) (u := []) rfl trivial rfl ?_
        refine a_nil ?_
        cases h
        exact a_again (by kernel_rfl) hX25
      · have h := ite_t hb27 h
        refine a_cond_t rfl ?_
        refine a_exit ?_
        refine t_exit ?_
        refine b_other rfl ?_
        refine t_exit ?_
        cases h
        have h := hX25
        refine t_exit ?_
        refine b_exit ?_
        exact j_leaf x19 (Option.some.inj h) (by kernel_rfl)
def spec_l01Count_c : ACode := (.seq (.region 0 [⟨some 4, .asg 0 (.const (.int .i64 0)) 2, none, []⟩] false) (.seq (.region 1 [⟨some 5, .asg 0 (.const (.int .i64 1)) 2, none, []⟩] false) (.seq (.block 0 (.loop (.seq (.seq (.region 2 [⟨some 6, .mov (.tmp 1), none, []⟩, ⟨some 7, .bin .gtr 2 (.tmp 6) (.const (.int .i64 0)), none, []⟩, ⟨some 8, .mov (.tmp 7), none, []⟩, ⟨some 9, .mov (.tmp 5), some (8, true), []⟩, ⟨some 10, .bin .leq 2 (.tmp 9) (.const (.int .i64 1000000000000)), some (8, true), []⟩, ⟨some 11, .pick (.tmp 8) (.tmp 10) (.const (.bool false)), none, []⟩] false) (.cond (.tmp 11) .skip (.exit 0))) (.seq (.block 1 (.region 4 [⟨some 14, .mov (.tmp 5), none, []⟩, ⟨some 15, .mov (.tmp 0), none, []⟩, ⟨some 16, .bin .mul 2 (.tmp 14) (.tmp 15), none, []⟩, ⟨some 5, .asg 0 (.tmp 16) 2, none, []⟩] false)) (.region 3 [⟨some 12, .mov (.tmp 1), none, []⟩, ⟨some 13, .bin .sub 2 (.tmp 12) (.const (.int .i64 1)), none, []⟩, ⟨some 1, .asg 0 (.tmp 13) 2, none, []⟩] false))))) (.seq (.region 5 [⟨some 17, .mov (.tmp 5), none, []⟩, ⟨some 18, .blt 0 .min [(.tmp 17), (.const (.int .i64 1000000000001))] [2, 2], none, []⟩, ⟨some 4, .asg 0 (.tmp 18) 2, none, []⟩] false) .ret))))
def spec_l01Count_L : Live := [(0, [0, 1]), (1, [0, 1]), (2, [0, 1, 5]), (3, [0, 1, 5]), (4, [0, 1, 5]), (5, [5]), (100011, [0, 1, 5, 11])]
theorem spec_l01Count_body : Try.f75.body = some (Try.f75.body.getD .skip) := by kernel_rfl
theorem spec_l01Count_strip : strip [] (Try.f75.body.getD .skip) = spec_l01Count_c := by kernel_rfl
noncomputable def spec_l01Count_l1 (a0 : Int) (x39 : Int) (x40 : Int) : Option ((Int × Int) ⊕ Int) :=
  (Option.bind (α := Bool) ((if (decide (x39 > 0)) then (some ((decide (x40 ≤ 1000000000000)))) else (some false))) fun x52 => (if x52 then (some (.inl ((IntKind.i64.wrap (x39 - 1), IntKind.i64.wrap (x40 * a0))))) else (some (.inr x40))))
noncomputable def spec_l01Count (a0 : Int) (a1 : Int) : Option Int :=
  (Option.bind (α := Int) ((loopM (fun s : (Int × Int) => spec_l01Count_l1 a0 s.1 s.2) (a1, 1))) fun x28 => (some (if 1000000000001 < x28 then 1000000000001 else x28)))
set_option maxHeartbeats 16000000 in
theorem spec_l01Count_ok (a0 : Int) (a1 : Int) (r : Int) (h : spec_l01Count a0 a1 = some r) : Den Try.prog 75 [(.int .i64 a0), (.int .i64 a1)] { r := (.int .i64 r) } := by
  refine den_of (rs := [(.int .i64 r)]) (ac := spec_l01Count_c) (L := spec_l01Count_L) (n := 19) (m := []) good Try.func75 spec_l01Count_body (by kernel_rfl) Try.ntmps75 rfl rfl spec_l01Count_strip rfl rfl ?_
  refine a_st (σ' := ⟨[(0, (.int .i64 a0)), (1, (.int .i64 a1))], []⟩) (by kernel_rfl) ?_
  unfold spec_l01Count_c
  refine a_seq ?_
  refine a_region ?_
  refine a_val (v := (.int .i64 0)) (u := []) rfl trivial rfl ?_
  refine a_nil ?_
  refine a_next (σ' := ⟨[(0, (.int .i64 a0)), (1, (.int .i64 a1))], []⟩) (by kernel_rfl) ?_
  refine a_seq ?_
  refine a_region ?_
  refine a_val (v := (.int .i64 1)) (u := []) rfl trivial rfl ?_
  refine a_nil ?_
  refine a_next (σ' := ⟨[(0, (.int .i64 a0)), (1, (.int .i64 a1)), (5, (.int .i64 1))], []⟩) (by kernel_rfl) ?_
  obtain ⟨y29, hy30, hk31⟩ := bind_some h
  clear h
  refine a_join (emb := fun (s : Int) => ⟨[(5, (.int .i64 s))], []⟩) (pre := fun s => s = y29) ?_ ?_
  · rintro x28 rfl
    have h := hk31
    refine a_st (σ' := ⟨[(5, (.int .i64 x28))], []⟩) (by kernel_rfl) ?_
    refine a_seq ?_
    refine a_region ?_
    refine a_val (v := (.int .i64 x28)) (u := []) rfl trivial rfl ?_
    refine a_val (v := (.int .i64 (if 1000000000001 < x28 then 1000000000001 else x28))) (u := []) rfl trivial rfl ?_
    refine a_val (v := (.int .i64 (if 1000000000001 < x28 then 1000000000001 else x28))) (u := []) rfl trivial rfl ?_
    refine a_nil ?_
    refine a_next rfl ?_
    refine a_ret ?_
    refine ⟨.inr rfl, ?_⟩
    rw [Try.results75]
    cases h
    exact ⟨_, _, _, _, _, rfl, trivial, .inl ⟨rfl, .inl rfl⟩, rfl, rfl⟩
  · have h := hy30
    refine a_block ?_
    refine a_loop (emb := fun (s : (Int × Int)) => ⟨[(0, (.int .i64 a0)), (1, (.int .i64 s.1)), (5, (.int .i64 s.2))], []⟩) (body := (fun s : (Int × Int) => spec_l01Count_l1 a0 s.1 s.2)) (G := fun q => some q = some y29) h rfl ?_ (by kernel_rfl)
    rintro X48 ⟨x39, x40⟩ x49 h hX50
    have h : spec_l01Count_l1 a0 x39 x40 = some x49 := h
    refine a_st (σ' := ⟨[(0, (.int .i64 a0)), (1, (.int .i64 x39)), (5, (.int .i64 x40))], []⟩) (by kernel_rfl) ?_
    refine a_seq ?_
    obtain ⟨y53, hy54, hk55⟩ := bind_some h
    clear h
    refine a_join (emb := fun (s : Bool) => ⟨[(0, (.int .i64 a0)), (1, (.int .i64 x39)), (5, (.int .i64 x40)), (11, (.bool s))], []⟩) (pre := fun s => s = y53) ?_ ?_
    · rintro x52 rfl
      have h := hk55
      refine a_st (σ' := ⟨[(0, (.int .i64 a0)), (1, (.int .i64 x39)), (5, (.int .i64 x40)), (11, (.bool x52))], []⟩) (by kernel_rfl) ?_
      cases hb57 : x52
      · have h := ite_f hb57 h
        refine a_cond_f rfl ?_
        refine a_exit ?_
        refine t_exit ?_
        cases h
        have h := hX50
        refine t_exit ?_
        refine b_exit ?_
        exact j_leaf x40 (Option.some.inj h) (by kernel_rfl)
      · have h := ite_t hb57 h
        refine a_cond_t rfl ?_
        refine a_skip ?_
        refine a_next (σ' := ⟨[(0, (.int .i64 a0)), (1, (.int .i64 x39)), (5, (.int .i64 x40))], []⟩) (by kernel_rfl) ?_
        refine a_seq ?_
        refine a_block ?_
        refine a_region ?_
        refine a_val (v := (.int .i64 x40)) (u := []) rfl trivial rfl ?_
        refine a_val (v := (.int .i64 a0)) (u := []) rfl trivial rfl ?_
        refine a_val (v := (.int .i64 (IntKind.i64.wrap (x40 * a0)))) (u := []) rfl trivial rfl ?_
        refine a_val (v := (.int .i64 (IntKind.i64.wrap (x40 * a0)))) (u := []) rfl trivial rfl ?_
        refine a_nil ?_
        refine b_norm ?_
        refine a_next (σ' := ⟨[(0, (.int .i64 a0)), (1, (.int .i64 x39)), (5, (.int .i64 (IntKind.i64.wrap (x40 * a0))))], []⟩) (by kernel_rfl) ?_
        refine a_region ?_
        refine a_val (v := (.int .i64 x39)) (u := []) rfl trivial rfl ?_
        refine a_val (v := (.int .i64 (IntKind.i64.wrap (x39 - 1)))) (u := []) rfl trivial rfl ?_
        refine a_val (v := (.int .i64 (IntKind.i64.wrap (x39 - 1)))) (u := []) rfl trivial rfl ?_
        refine a_nil ?_
        cases h
        exact a_again (by kernel_rfl) hX50
    · have h := hy54
      refine a_region ?_
      refine a_val (v := (.int .i64 x39)) (u := []) rfl trivial rfl ?_
      refine a_val (v := (.bool ((decide (x39 > 0))))) (u := []) rfl trivial rfl ?_
      refine a_val (v := (.bool ((decide (x39 > 0))))) (u := []) rfl trivial rfl ?_
      cases hb56 : (decide (x39 > 0))
      · have h := ite_f hb56 h
        refine a_gskip rfl ?_
        refine a_gskip rfl ?_
        refine a_val (v := (.bool false)) (u := []) rfl trivial rfl ?_
        refine a_nil ?_
        exact j_leaf false (Option.some.inj h) (by kernel_rfl)
      · have h := ite_t hb56 h
        refine a_gval rfl (v := (.int .i64 x40)) (u := []) rfl trivial rfl ?_
        refine a_gval rfl (v := (.bool ((decide (x40 ≤ 1000000000000))))) (u := []) rfl trivial rfl ?_
        refine a_val (v := (.bool ((decide (x40 ≤ 1000000000000))))) (u := []) rfl trivial rfl ?_
        refine a_nil ?_
        exact j_leaf ((decide (x40 ≤ 1000000000000))) (Option.some.inj h) (by kernel_rfl)
def impl_told_c : ACode := (.seq (.region 0 [⟨some 2, .alloc 23, none, []⟩, ⟨some 3, .asg 0 (.const (.int .i64 0)) 2, none, []⟩] false) (.seq (.seq (.region 1 [⟨some 4, .mov (.tmp 0), none, []⟩, ⟨some 5, .call 0 (.func 112) [(.tmp 4)], none, []⟩, ⟨some 6, .un .not (.tmp 5), none, []⟩] false) (.cond (.tmp 6) (.seq (.region 2 [⟨some 7, .build 23 [], none, []⟩, ⟨none, .store 23 (.tmp 2) (.tmp 7), none, []⟩, ⟨some 3, .asg 0 (.const (.int .i64 3)) 2, none, []⟩] false) .ret) .skip)) (.seq (.region 3 [⟨some 8, .mov (.tmp 0), none, []⟩, ⟨some 9, .call 0 (.func 101) [(.tmp 8)], none, []⟩, ⟨none, .store 23 (.tmp 2) (.tmp 9), none, []⟩, ⟨some 3, .asg 0 (.const (.int .i64 0)) 2, none, []⟩] false) .ret)))
def impl_told_L : Live := [(0, [0]), (1, [0, 2]), (2, [2]), (3, [0, 2]), (100006, [0, 2, 6])]
theorem impl_told_body : Try.f58.body = some (Try.f58.body.getD .skip) := by kernel_rfl
theorem impl_told_strip : strip [] (Try.f58.body.getD .skip) = impl_told_c := by kernel_rfl
noncomputable def impl_told (a0 : (List Int)) : Option ((Vec Int 64) × Int) :=
  (Option.bind (impl_row_fits a0) fun r1 => (if (!r1) then (some (((vrep 64 (0 : Int)), 3))) else (Option.bind (impl_row_poly a0) fun r4 => (some (r4, 0)))))
set_option maxHeartbeats 16000000 in
theorem impl_told_ok (a0 : (List Int)) (r : ((Vec Int 64) × Int)) (h : impl_told a0 = some r) : Den Try.prog 58 [(eSi64 a0)] { r := (.tuple [(eA64u8 r.1), (.int .i64 r.2)]) } := by
  refine den_of (rs := [(eA64u8 r.1), (.int .i64 r.2)]) (ac := impl_told_c) (L := impl_told_L) (n := 10) (m := []) good Try.func58 impl_told_body (by kernel_rfl) Try.ntmps58 rfl rfl impl_told_strip rfl rfl ?_
  refine a_st (σ' := ⟨[(0, (eSi64 a0))], []⟩) (by kernel_rfl) ?_
  unfold impl_told_c
  refine a_seq ?_
  refine a_region ?_
  refine a_val (v := (.own 1200 [] [])) (u := [(1200, some ⟨(eA64u8 ((vrep 64 (0 : Int)))), false⟩)]) rfl trivial rfl ?_
  refine a_val (v := (.int .i64 0)) (u := []) rfl trivial rfl ?_
  refine a_nil ?_
  refine a_next (σ' := ⟨[(0, (eSi64 a0)), (2, (.own 2 [] []))], [(2, some ⟨(eA64u8 ((vrep 64 (0 : Int)))), false⟩)]⟩) (by kernel_rfl) ?_
  refine a_seq ?_
  refine a_seq ?_
  refine a_region ?_
  refine a_val (v := (eSi64 a0)) (u := []) rfl trivial rfl ?_
  obtain ⟨r1, hr2, h⟩ := bind_some h
  refine a_call (args := [(eSi64 a0)]) (u := []) (r := (.bool r1)) rfl rfl (impl_row_fits_ok a0 r1 hr2) rfl ?_
  refine a_val (v := (.bool (!r1))) (u := []) rfl trivial rfl ?_
  refine a_nil ?_
  refine a_next (σ' := ⟨[(0, (eSi64 a0)), (2, (.own 2 [] [])), (6, (.bool (!r1)))], [(2, some ⟨(eA64u8 ((vrep 64 (0 : Int)))), false⟩)]⟩) (by kernel_rfl) ?_
  cases hb3 : (!r1)
  · have h := ite_f hb3 h
    refine a_cond_f rfl ?_
    refine a_skip ?_
    refine a_next (σ' := ⟨[(0, (eSi64 a0)), (2, (.own 2 [] []))], [(2, some ⟨(eA64u8 ((vrep 64 (0 : Int)))), false⟩)]⟩) (by kernel_rfl) ?_
    refine a_seq ?_
    refine a_region ?_
    refine a_val (v := (eSi64 a0)) (u := []) rfl trivial rfl ?_
    obtain ⟨r4, hr5, h⟩ := bind_some h
    refine a_call (args := [(eSi64 a0)]) (u := []) (r := (eA64u8 r4)) rfl rfl (impl_row_poly_ok a0 r4 hr5) rfl ?_
    have hs6 : StOk [] (eA64u8 ((vrep 64 (0 : Int)))) [] 64 (eA64u8 r4) (eA64u8 r4) := (.nil rfl rfl rfl rfl)
    refine a_val (v := .top) (u := [(2, some ⟨(eA64u8 r4), false⟩)]) (st_own (i := ⟨.arr 64 5, 64, 64, (eA64u8 (vrep 64 (0 : Int)))⟩) rfl rfl (fun _ => rfl) rfl hs6) (hs6.c rfl) rfl ?_
    refine a_val (v := (.int .i64 0)) (u := []) rfl trivial rfl ?_
    refine a_nil ?_
    refine a_next rfl ?_
    refine a_ret ?_
    have hl7 : LdOk [] (eA64u8 r4) [] 64 true (eA64u8 r4) := (.nil rfl rfl rfl)
    refine ⟨.inr rfl, ?_⟩
    rw [Try.results58]
    cases h
    exact ⟨_, _, _, _, _, ld_own (i := ⟨.arr 64 5, 64, 64, (eA64u8 (vrep 64 (0 : Int)))⟩) rfl rfl rfl hl7, hl7.c, .inl ⟨rfl, .inl rfl⟩, rfl, ⟨_, _, _, _, _, rfl, trivial, .inl ⟨rfl, .inl rfl⟩, rfl, rfl⟩⟩
  · have h := ite_t hb3 h
    refine a_cond_t rfl ?_
    refine a_seq ?_
    refine a_region ?_
    refine a_val (v := (eA64u8 ((vrep 64 (0 : Int))))) (u := []) rfl ⟨⟨_, rfl, rfl⟩, all_nil⟩ rfl ?_
    have hs8 : StOk [] (eA64u8 ((vrep 64 (0 : Int)))) [] 64 (eA64u8 ((vrep 64 (0 : Int)))) (eA64u8 ((vrep 64 (0 : Int)))) := (.nil rfl rfl rfl rfl)
    refine a_val (v := .top) (u := [(2, some ⟨(eA64u8 ((vrep 64 (0 : Int)))), false⟩)]) (st_own (i := ⟨.arr 64 5, 64, 64, (eA64u8 (vrep 64 (0 : Int)))⟩) rfl rfl (fun _ => rfl) rfl hs8) (hs8.c rfl) rfl ?_
    refine a_val (v := (.int .i64 3)) (u := []) rfl trivial rfl ?_
    refine a_nil ?_
    refine a_next rfl ?_
    refine a_ret ?_
    refine t_ret ?_
    have hl9 : LdOk [] (eA64u8 ((vrep 64 (0 : Int)))) [] 64 true (eA64u8 ((vrep 64 (0 : Int)))) := (.nil rfl rfl rfl)
    refine ⟨.inr rfl, ?_⟩
    rw [Try.results58]
    cases h
    exact ⟨_, _, _, _, _, ld_own (i := ⟨.arr 64 5, 64, 64, (eA64u8 (vrep 64 (0 : Int)))⟩) rfl rfl rfl hl9, hl9.c, .inl ⟨rfl, .inl rfl⟩, rfl, ⟨_, _, _, _, _, rfl, trivial, .inl ⟨rfl, .inl rfl⟩, rfl, rfl⟩⟩
end Go.Proofs.Ytgodhgbnjlflmaa
