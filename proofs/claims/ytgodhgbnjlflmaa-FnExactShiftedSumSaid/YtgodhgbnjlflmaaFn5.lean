/- Functions of the program: plain Lean functions, and that the program computes them. Printed by gen.py. -/
import Derived.Test.YtgodhgbnjlflmaaFnT
import Derived.Test.YtgodhgbnjlflmaaFn1
import Derived.Test.YtgodhgbnjlflmaaFn2
import Derived.Test.YtgodhgbnjlflmaaFn3
import Derived.Test.YtgodhgbnjlflmaaFn4
namespace Go.Proofs.Ytgodhgbnjlflmaa
open Go.Abs Go.Proofs
set_option linter.unusedSimpArgs false
set_option linter.unusedVariables false
attribute [local irreducible] Abs.acode Abs.aops Abs.aopsT Abs.thenK Abs.blockK

def impl_ShiftedSum_c : ACode := (.seq (.region 0 [⟨some 5, .box 23 (.tmp 1), none, []⟩, ⟨some 8, .alloc 23, none, []⟩, ⟨some 9, .asg 0 (.const (.int .i64 0)) 2, none, []⟩] false) (.seq (.seq (.region 1 [⟨some 16, .mov (.tmp 0), none, []⟩, ⟨some 17, .load 23 (.tmp 5), none, []⟩, ⟨some 18, .mov (.tmp 3), none, []⟩, ⟨some 19, .call 0 (.func 54) [(.tmp 18)], none, [2]⟩, ⟨some 20, .mov (.tmp 19), none, [3, 3]⟩, ⟨some 21, .mov (.tmp 0), some (20, true), [4]⟩, ⟨some 22, .call 0 (.func 53) [(.tmp 21)], some (20, true), [5, 4, 4]⟩, ⟨some 23, .pick (.tmp 20) (.tmp 22) (.const (.bool false)), none, [4, 6]⟩, ⟨some 24, .mov (.tmp 23), none, [7, 6]⟩, ⟨some 25, .mov (.tmp 0), some (24, true), [8]⟩, ⟨some 26, .mov (.tmp 2), some (24, true), [8]⟩, ⟨some 27, .call 0 (.func 55) [(.tmp 25), (.tmp 26)], some (24, true), [9, 10, 8, 8]⟩, ⟨some 28, .pick (.tmp 24) (.tmp 27) (.const (.bool false)), none, [8, 11]⟩, ⟨some 29, .call 0 (.func 97) [(.tmp 16), (.tmp 17), (.const (.int .i64 5)), (.tmp 28), (.const (.slice none 0 0))], none, [0, 1, 12, 11]⟩, ⟨some 10, .asg 0 (.tmp 29) 2, none, [13, 13, 0, 1, 2, 3, 4, 5, 6, 7, 8, 9, 10, 11, 12, 13]⟩] true) (.seq (.region 2 [⟨some 30, .mov (.tmp 10), none, []⟩, ⟨some 31, .bin .neq 2 (.tmp 30) (.const (.int .i64 0)), none, []⟩] false) (.cond (.tmp 31) (.seq (.region 3 [⟨some 32, .build 23 [], none, []⟩, ⟨some 33, .mov (.tmp 10), none, []⟩, ⟨none, .store 23 (.tmp 8) (.tmp 32), none, []⟩, ⟨some 9, .asg 0 (.tmp 33) 2, none, []⟩] false) .ret) .skip))) (.seq (.region 4 [⟨some 34, .mov (.tmp 0), none, []⟩, ⟨some 35, .load 23 (.tmp 5), none, []⟩, ⟨some 36, .call 0 (.func 72) [(.tmp 35)], none, []⟩, ⟨some 11, .asg 0 (.tmp 34) 63, none, []⟩, ⟨some 12, .asg 1 (.tmp 36) 64, none, []⟩] false) (.seq (.seq (.region 5 [⟨some 37, .mov (.tmp 2), none, []⟩, ⟨some 38, .mov (.tmp 12), none, []⟩, ⟨some 39, .call 0 (.func 89) [(.tmp 38)], none, []⟩, ⟨some 40, .bin .add 2 (.tmp 37) (.tmp 39), none, []⟩, ⟨some 41, .mov (.tmp 3), none, []⟩, ⟨some 42, .bin .mul 2 (.tmp 40) (.tmp 41), none, []⟩, ⟨some 43, .bin .gtr 2 (.tmp 42) (.const (.int .i64 63)), none, []⟩] false) (.cond (.tmp 43) (.seq (.region 6 [⟨some 44, .build 23 [], none, []⟩, ⟨none, .store 23 (.tmp 8) (.tmp 44), none, []⟩, ⟨some 9, .asg 0 (.const (.int .i64 3)) 2, none, []⟩] false) .ret) .skip)) (.seq (.region 7 [⟨some 13, .asg 1 (.const (.slice none 0 0)) 64, none, []⟩] false) (.seq (.seq (.region 8 [⟨some 45, .mov (.tmp 11), none, []⟩, ⟨some 46, .mov (.tmp 2), none, []⟩, ⟨some 47, .call 0 (.func 98) [(.tmp 45), (.tmp 46)], none, []⟩, ⟨some 48, .blt 0 .len [(.tmp 47)] [72], none, []⟩, ⟨some 49, .mov (.const (.int .i64 0)), none, []⟩] false) (.block 0 (.loop (.seq (.region 9 [⟨some 50, .bin .lss 3 (.tmp 49) (.tmp 48), none, []⟩] false) (.seq (.cond (.tmp 50) .skip (.exit 0)) (.seq (.block 1 (.seq (.region 10 [⟨some 51, .indexAddr 72 (.tmp 47) (.tmp 49), none, []⟩, ⟨some 52, .load 64 (.tmp 51), none, []⟩, ⟨some 15, .asg 1 (.tmp 52) 64, none, []⟩] false) (.region 11 [⟨some 53, .mov (.tmp 11), none, []⟩, ⟨some 54, .mov (.tmp 13), none, []⟩, ⟨some 55, .mov (.tmp 11), none, []⟩, ⟨some 56, .mov (.tmp 11), none, []⟩, ⟨some 57, .mov (.tmp 11), none, []⟩, ⟨some 58, .mov (.tmp 15), none, []⟩, ⟨some 59, .mov (.tmp 12), none, []⟩, ⟨some 60, .call 0 (.func 59) [(.tmp 57), (.tmp 58), (.tmp 59)], none, []⟩, ⟨some 61, .bslice 0 64 1 [(0, (.const (.int .i64 1)))], none, []⟩, ⟨some 62, .call 0 (.func 56) [(.tmp 56), (.tmp 60), (.tmp 61), (.const (.int .i64 1))], none, []⟩, ⟨some 63, .mov (.tmp 3), none, []⟩, ⟨some 64, .call 0 (.func 99) [(.tmp 55), (.tmp 62), (.tmp 63)], none, []⟩, ⟨some 65, .call 0 (.func 56) [(.tmp 53), (.tmp 54), (.tmp 64), (.const (.int .i64 1))], none, []⟩, ⟨some 13, .asg 1 (.tmp 65) 64, none, []⟩] false))) (.region 12 [⟨some 66, .bin .add 3 (.tmp 49) (.const (.int .i64 1)), none, []⟩, ⟨some 49, .mov (.tmp 66), none, []⟩] false))))))) (.seq (.region 13 [⟨some 67, .mov (.tmp 13), none, []⟩, ⟨some 68, .call 0 (.func 58) [(.tmp 67)], none, []⟩, ⟨some 69, .extract (.tmp 68) 0, none, []⟩, ⟨some 70, .extract (.tmp 68) 1, none, []⟩, ⟨none, .store 23 (.tmp 8) (.tmp 69), none, []⟩, ⟨some 9, .asg 0 (.tmp 70) 2, none, []⟩] false) .ret)))))))
def impl_ShiftedSum_L : Live := [(0, [0, 1, 2, 3]), (1, [0, 2, 3, 5, 8]), (2, [0, 2, 3, 5, 8, 10]), (3, [8, 10]), (4, [0, 2, 3, 5, 8]), (5, [2, 3, 8, 11, 12]), (6, [8]), (7, [2, 3, 8, 11, 12]), (8, [2, 3, 8, 11, 12, 13]), (9, [3, 8, 11, 12, 13, 47, 48, 49]), (10, [3, 8, 11, 12, 13, 47, 48, 49]), (11, [3, 8, 11, 12, 13, 15, 47, 48, 49]), (12, [3, 8, 11, 12, 13, 47, 48, 49]), (13, [8, 13]), (100031, [0, 2, 3, 5, 8, 10, 31]), (100043, [2, 3, 8, 11, 12, 43]), (100050, [3, 8, 11, 12, 13, 47, 48, 49, 50])]
theorem impl_ShiftedSum_body : Try.f40.body = some (Try.f40.body.getD .skip) := by kernel_rfl
theorem impl_ShiftedSum_strip : strip [(12, 1), (13, 1), (15, 1)] (Try.f40.body.getD .skip) = impl_ShiftedSum_c := by kernel_rfl
noncomputable def impl_ShiftedSum_l1 (r119 : (List (List Int))) (a0 : Int) (r67 : (List Int)) (a3 : Int) (x132 : (List Int)) (x133 : Int) : Option (((List Int) × Int) ⊕ (List Int)) :=
  (if (decide (x133 < (r119.length : Int))) then (ifp (0 ≤ x133 ∧ x133 < ((r119.length : Nat) : Int)) ((Option.bind (impl_prime_times a0 (rd r119 x133.toNat) r67) fun r151 => (Option.bind (impl_prime_combine a0 r151 ([1]) 1) fun r153 => (Option.bind (impl_prime_raised a0 r153 a3) fun r155 => (Option.bind (impl_prime_combine a0 x132 r155 1) fun r157 => (some (.inl ((r157, IntKind.i64.wrap (x133 + 1))))))))))) else (some (.inr x132)))
noncomputable def impl_ShiftedSum (a0 : Int) (a1 : (Vec Int 64)) (a2 : Int) (a3 : Int) : Option ((Vec Int 64) × Int) :=
  (Option.bind (α := Int) ((Option.bind (impl_isExponent a3) fun r51 => (if r51 then (Option.bind (impl_isPrime a0) fun r56 => (if r56 then (Option.bind (impl_prime_isSumDegree a0 a2) fun r61 => (Option.bind (impl_monicCode_of_sl a0 a1 5 r61 ([])) fun r63 => (some r63))) else (Option.bind (impl_monicCode_of_sl a0 a1 5 false ([])) fun r59 => (some r59)))) else (Option.bind (impl_monicCode_of_sl a0 a1 5 false ([])) fun r54 => (some r54))))) fun x31 => (if (x31 != 0) then (some (((vrep 64 (0 : Int)), x31))) else (Option.bind (impl_rowOf a1) fun r67 => (Option.bind (impl_row_degree r67) fun r69 => (letp ((decide ((IntKind.i64.wrap ((IntKind.i64.wrap (a2 + r69)) * a3)) > 63))) fun x71 => (if x71 then (some (((vrep 64 (0 : Int)), 3))) else (Option.bind (α := (List Int)) ((Option.bind (impl_prime_monics a0 a2) fun r119 => (loopM (fun s : ((List Int) × Int) => impl_ShiftedSum_l1 r119 a0 r67 a3 s.1 s.2) ([], 0)))) fun x115 => (Option.bind (impl_told x115) fun r160 => (some (r160.1, r160.2))))))))))
set_option maxHeartbeats 16000000 in
theorem impl_ShiftedSum_ok (a0 : Int) (a1 : (Vec Int 64)) (a2 : Int) (a3 : Int) (r : ((Vec Int 64) × Int)) (h : impl_ShiftedSum a0 a1 a2 a3 = some r) : Den Try.prog 40 [(.int .i64 a0), (eA64u8 a1), (.int .i64 a2), (.int .i64 a3)] { r := (.tuple [(eA64u8 r.1), (.int .i64 r.2)]) } := by
  refine den_of (rs := [(eA64u8 r.1), (.int .i64 r.2)]) (ac := impl_ShiftedSum_c) (L := impl_ShiftedSum_L) (n := 71) (m := [(12, 1), (13, 1), (15, 1)]) good Try.func40 impl_ShiftedSum_body (by kernel_rfl) Try.ntmps40 rfl rfl impl_ShiftedSum_strip rfl rfl ?_
  refine a_st (σ' := ⟨[(0, (.int .i64 a0)), (1, (eA64u8 a1)), (2, (.int .i64 a2)), (3, (.int .i64 a3))], []⟩) (by kernel_rfl) ?_
  unfold impl_ShiftedSum_c
  refine a_seq ?_
  refine a_region ?_
  refine a_val (v := (.own 1500 [] [])) (u := [(1500, some ⟨(eA64u8 a1), false⟩)]) rfl trivial rfl ?_
  refine a_val (v := (.own 1800 [] [])) (u := [(1800, some ⟨(eA64u8 ((vrep 64 (0 : Int)))), false⟩)]) rfl trivial rfl ?_
  refine a_val (v := (.int .i64 0)) (u := []) rfl trivial rfl ?_
  refine a_nil ?_
  refine a_next (σ' := ⟨[(0, (.int .i64 a0)), (2, (.int .i64 a2)), (3, (.int .i64 a3)), (5, (.own 5 [] [])), (8, (.own 8 [] []))], [(5, some ⟨(eA64u8 a1), false⟩), (8, some ⟨(eA64u8 ((vrep 64 (0 : Int)))), false⟩)]⟩) (by kernel_rfl) ?_
  refine a_seq ?_
  obtain ⟨y32, hy33, hk34⟩ := bind_some h
  clear h
  refine a_join (emb := fun (s : Int) => ⟨[(0, (.int .i64 a0)), (2, (.int .i64 a2)), (3, (.int .i64 a3)), (5, (.own 5 [] [])), (8, (.own 8 [] [])), (10, (.int .i64 s))], [(5, some ⟨(eA64u8 a1), false⟩), (8, some ⟨(eA64u8 ((vrep 64 (0 : Int)))), false⟩)]⟩) (pre := fun s => s = y32) ?_ ?_
  · rintro x31 rfl
    have h := hk34
    refine a_st (σ' := ⟨[(0, (.int .i64 a0)), (2, (.int .i64 a2)), (3, (.int .i64 a3)), (5, (.own 5 [] [])), (8, (.own 8 [] [])), (10, (.int .i64 x31))], [(5, some ⟨(eA64u8 a1), false⟩), (8, some ⟨(eA64u8 ((vrep 64 (0 : Int)))), false⟩)]⟩) (by kernel_rfl) ?_
    refine a_seq ?_
    refine a_region ?_
    refine a_val (v := (.int .i64 x31)) (u := []) rfl trivial rfl ?_
    refine a_val (v := (.bool (x31 != 0))) (u := []) rfl trivial rfl ?_
    refine a_nil ?_
    refine a_next (σ' := ⟨[(0, (.int .i64 a0)), (2, (.int .i64 a2)), (3, (.int .i64 a3)), (5, (.own 5 [] [])), (8, (.own 8 [] [])), (10, (.int .i64 x31)), (31, (.bool (x31 != 0)))], [(5, some ⟨(eA64u8 a1), false⟩), (8, some ⟨(eA64u8 ((vrep 64 (0 : Int)))), false⟩)]⟩) (by kernel_rfl) ?_
    cases hb65 : (x31 != 0)
    · have h := ite_f hb65 h
      refine a_cond_f rfl ?_
      refine a_skip ?_
      refine a_next (σ' := ⟨[(0, (.int .i64 a0)), (2, (.int .i64 a2)), (3, (.int .i64 a3)), (5, (.own 5 [] [])), (8, (.own 8 [] []))], [(5, some ⟨(eA64u8 a1), false⟩), (8, some ⟨(eA64u8 ((vrep 64 (0 : Int)))), false⟩)]⟩) (by kernel_rfl) ?_
      refine a_seq ?_
      refine a_region ?_
      refine a_val (v := (.int .i64 a0)) (u := []) rfl trivial rfl ?_
      have hl66 : LdOk [] (eA64u8 a1) [] 64 true (eA64u8 a1) := (.nil rfl rfl rfl)
      refine a_val (v := (eA64u8 a1)) (u := []) (ld_own (i := ⟨.arr 64 5, 64, 64, (eA64u8 (vrep 64 (0 : Int)))⟩) rfl rfl rfl hl66) hl66.c rfl ?_
      obtain ⟨r67, hr68, h⟩ := bind_some h
      refine a_call (args := [(eA64u8 a1)]) (u := []) (r := (eSi64 r67)) rfl rfl (impl_rowOf_ok a1 r67 hr68) rfl ?_
      refine a_val (v := (.int .i64 a0)) (u := []) rfl trivial rfl ?_
      refine a_val (v := (eSi64 r67)) (u := []) rfl trivial rfl ?_
      refine a_nil ?_
      refine a_next (σ' := ⟨[(2, (.int .i64 a2)), (3, (.int .i64 a3)), (8, (.own 8 [] [])), (11, (.int .i64 a0)), (12, (eSi64 r67))], [(8, some ⟨(eA64u8 ((vrep 64 (0 : Int)))), false⟩)]⟩) (by kernel_rfl) ?_
      refine a_seq ?_
      refine a_seq ?_
      refine a_region ?_
      refine a_val (v := (.int .i64 a2)) (u := []) rfl trivial rfl ?_
      refine a_val (v := (eSi64 r67)) (u := []) rfl trivial rfl ?_
      obtain ⟨r69, hr70, h⟩ := bind_some h
      refine a_call (args := [(eSi64 r67)]) (u := []) (r := (.int .i64 r69)) rfl rfl (impl_row_degree_ok r67 r69 hr70) rfl ?_
      refine a_val (v := (.int .i64 (IntKind.i64.wrap (a2 + r69)))) (u := []) rfl trivial rfl ?_
      refine a_val (v := (.int .i64 a3)) (u := []) rfl trivial rfl ?_
      refine a_val (v := (.int .i64 (IntKind.i64.wrap ((IntKind.i64.wrap (a2 + r69)) * a3)))) (u := []) rfl trivial rfl ?_
      obtain ⟨x71, hx72, h⟩ := letp_some h
      refine a_val' (v := (.bool ((decide ((IntKind.i64.wrap ((IntKind.i64.wrap (a2 + r69)) * a3)) > 63))))) (v' := (.bool x71)) (u := []) (u' := []) rfl (congrArg (fun z => ((.bool z) : AV)) hx72) rfl trivial rfl ?_
      refine a_nil ?_
      refine a_next (σ' := ⟨[(2, (.int .i64 a2)), (3, (.int .i64 a3)), (8, (.own 8 [] [])), (11, (.int .i64 a0)), (12, (eSi64 r67)), (43, (.bool x71))], [(8, some ⟨(eA64u8 ((vrep 64 (0 : Int)))), false⟩)]⟩) (by kernel_rfl) ?_
      cases hb73 : x71
      · have h := ite_f hb73 h
        refine a_cond_f rfl ?_
        refine a_skip ?_
        refine a_next (σ' := ⟨[(2, (.int .i64 a2)), (3, (.int .i64 a3)), (8, (.own 8 [] [])), (11, (.int .i64 a0)), (12, (eSi64 r67))], [(8, some ⟨(eA64u8 ((vrep 64 (0 : Int)))), false⟩)]⟩) (by kernel_rfl) ?_
        refine a_seq ?_
        refine a_region ?_
        refine a_val (v := (eSi64 ([]))) (u := []) rfl trivial rfl ?_
        refine a_nil ?_
        refine a_next (σ' := ⟨[(2, (.int .i64 a2)), (3, (.int .i64 a3)), (8, (.own 8 [] [])), (11, (.int .i64 a0)), (12, (eSi64 r67)), (13, (eSi64 ([])))], [(8, some ⟨(eA64u8 ((vrep 64 (0 : Int)))), false⟩)]⟩) (by kernel_rfl) ?_
        obtain ⟨y116, hy117, hk118⟩ := bind_some h
        clear h
        refine a_join (emb := fun (s : (List Int)) => ⟨[(8, (.own 8 [] [])), (13, (eSi64 s))], [(8, some ⟨(eA64u8 ((vrep 64 (0 : Int)))), false⟩)]⟩) (pre := fun s => s = y116) ?_ ?_
        · rintro x115 rfl
          have h := hk118
          refine a_st (σ' := ⟨[(8, (.own 8 [] [])), (13, (eSi64 x115))], [(8, some ⟨(eA64u8 ((vrep 64 (0 : Int)))), false⟩)]⟩) (by kernel_rfl) ?_
          refine a_seq ?_
          refine a_region ?_
          refine a_val (v := (eSi64 x115)) (u := []) rfl trivial rfl ?_
          obtain ⟨r160, hr161, h⟩ := bind_some h
          refine a_call (args := [(eSi64 x115)]) (u := []) (r := (.tuple [(eA64u8 r160.1), (.int .i64 r160.2)])) rfl rfl (impl_told_ok x115 r160 hr161) rfl ?_
          refine a_val (v := (eA64u8 r160.1)) (u := []) rfl (Nat.le_of_ble_eq_true rfl) rfl ?_
          refine a_val (v := (.int .i64 r160.2)) (u := []) rfl (Nat.le_of_ble_eq_true rfl) rfl ?_
          have hs162 : StOk [] (eA64u8 ((vrep 64 (0 : Int)))) [] 64 (eA64u8 r160.1) (eA64u8 r160.1) := (.nil rfl rfl rfl rfl)
          refine a_val (v := .top) (u := [(8, some ⟨(eA64u8 r160.1), false⟩)]) (st_own (i := ⟨.arr 64 5, 64, 64, (eA64u8 (vrep 64 (0 : Int)))⟩) rfl rfl (fun _ => rfl) rfl hs162) (hs162.c rfl) rfl ?_
          refine a_val (v := (.int .i64 r160.2)) (u := []) rfl trivial rfl ?_
          refine a_nil ?_
          refine a_next rfl ?_
          refine a_ret ?_
          have hl163 : LdOk [] (eA64u8 r160.1) [] 64 true (eA64u8 r160.1) := (.nil rfl rfl rfl)
          refine ⟨.inr rfl, ?_⟩
          rw [Try.results40]
          cases h
          exact ⟨_, _, _, _, _, ld_own (i := ⟨.arr 64 5, 64, 64, (eA64u8 (vrep 64 (0 : Int)))⟩) rfl rfl rfl hl163, hl163.c, .inl ⟨rfl, .inl rfl⟩, rfl, ⟨_, _, _, _, _, rfl, trivial, .inl ⟨rfl, .inl rfl⟩, rfl, rfl⟩⟩
        · have h := hy117
          refine a_seq ?_
          refine a_region ?_
          refine a_val (v := (.int .i64 a0)) (u := []) rfl trivial rfl ?_
          refine a_val (v := (.int .i64 a2)) (u := []) rfl trivial rfl ?_
          obtain ⟨r119, hr120, h⟩ := bind_some h
          refine a_call (args := [(.int .i64 a0), (.int .i64 a2)]) (u := []) (r := (eSSi64 r119)) rfl rfl (impl_prime_monics_ok a0 a2 r119 hr120) rfl ?_
          refine a_val (v := (.int .i64 (r119.length : Int))) (u := []) (len_run rfl rfl) trivial rfl ?_
          refine a_val (v := (.int .i64 0)) (u := []) rfl trivial rfl ?_
          refine a_nil ?_
          refine a_next (σ' := ⟨[(3, (.int .i64 a3)), (8, (.own 8 [] [])), (11, (.int .i64 a0)), (12, (eSi64 r67)), (13, (eSi64 ([]))), (47, (eSSi64 r119)), (48, (.int .i64 (r119.length : Int))), (49, (.int .i64 0))], [(8, some ⟨(eA64u8 ((vrep 64 (0 : Int)))), false⟩)]⟩) (by kernel_rfl) ?_
          refine a_block ?_
          refine a_loop (emb := fun (s : ((List Int) × Int)) => ⟨[(3, (.int .i64 a3)), (8, (.own 8 [] [])), (11, (.int .i64 a0)), (12, (eSi64 r67)), (13, (eSi64 s.1)), (47, (eSSi64 r119)), (48, (.int .i64 (r119.length : Int))), (49, (.int .i64 s.2))], [(8, some ⟨(eA64u8 ((vrep 64 (0 : Int)))), false⟩)]⟩) (body := (fun s : ((List Int) × Int) => impl_ShiftedSum_l1 r119 a0 r67 a3 s.1 s.2)) (G := fun q => some q = some y116) h rfl ?_ (by kernel_rfl)
          rintro X145 ⟨x132, x133⟩ x146 h hX147
          have h : impl_ShiftedSum_l1 r119 a0 r67 a3 x132 x133 = some x146 := h
          refine a_st (σ' := ⟨[(3, (.int .i64 a3)), (8, (.own 8 [] [])), (11, (.int .i64 a0)), (12, (eSi64 r67)), (13, (eSi64 x132)), (47, (eSSi64 r119)), (48, (.int .i64 (r119.length : Int))), (49, (.int .i64 x133))], [(8, some ⟨(eA64u8 ((vrep 64 (0 : Int)))), false⟩)]⟩) (by kernel_rfl) ?_
          refine a_seq ?_
          refine a_region ?_
          refine a_val (v := (.bool ((decide (x133 < (r119.length : Int)))))) (u := []) rfl trivial rfl ?_
          refine a_nil ?_
          refine a_next (σ' := ⟨[(3, (.int .i64 a3)), (8, (.own 8 [] [])), (11, (.int .i64 a0)), (12, (eSi64 r67)), (13, (eSi64 x132)), (47, (eSSi64 r119)), (48, (.int .i64 (r119.length : Int))), (49, (.int .i64 x133)), (50, (.bool ((decide (x133 < (r119.length : Int))))))], [(8, some ⟨(eA64u8 ((vrep 64 (0 : Int)))), false⟩)]⟩) (by kernel_rfl) ?_
          refine a_seq ?_
          cases hb148 : (decide (x133 < (r119.length : Int)))
          · have h := ite_f hb148 h
            refine a_cond_f rfl ?_
            refine a_exit ?_
            refine t_exit ?_
            cases h
            have h := hX147
            refine t_exit ?_
            refine b_exit ?_
            exact j_leaf x132 (Option.some.inj h) (by kernel_rfl)
          · have h := ite_t hb148 h
            refine a_cond_t rfl ?_
            refine a_skip ?_
            refine a_next (σ' := ⟨[(3, (.int .i64 a3)), (8, (.own 8 [] [])), (11, (.int .i64 a0)), (12, (eSi64 r67)), (13, (eSi64 x132)), (47, (eSSi64 r119)), (48, (.int .i64 (r119.length : Int))), (49, (.int .i64 x133))], [(8, some ⟨(eA64u8 ((vrep 64 (0 : Int)))), false⟩)]⟩) (by kernel_rfl) ?_
            refine a_seq ?_
            refine a_block ?_
            refine a_seq ?_
            refine a_region ?_
            obtain ⟨hc149, h⟩ := ifp_some h
            refine a_val (v := (.ref (.row 1 (r119.map eSi64)) [x133.toNat] [x133.toNat * 1])) (u := []) rfl (lmap hc149) rfl ?_
            have hl150 : LdOk [x133.toNat] (.row 1 (r119.map eSi64)) [x133.toNat * 1] 1 false (eSi64 (rd r119 x133.toNat)) := (.row (llt hc149) rfl (.nil rfl rfl rfl))
            refine a_val (v := (eSi64 (rd r119 x133.toNat))) (u := []) (ld_ref (i := ⟨.slice 2, 1, 24, (eSi64 [])⟩) rfl rfl hl150) hl150.c rfl ?_
            refine a_val (v := (eSi64 (rd r119 x133.toNat))) (u := []) rfl trivial rfl ?_
            refine a_nil ?_
            refine a_next (σ' := ⟨[(3, (.int .i64 a3)), (8, (.own 8 [] [])), (11, (.int .i64 a0)), (12, (eSi64 r67)), (13, (eSi64 x132)), (15, (eSi64 (rd r119 x133.toNat))), (47, (eSSi64 r119)), (48, (.int .i64 (r119.length : Int))), (49, (.int .i64 x133))], [(8, some ⟨(eA64u8 ((vrep 64 (0 : Int)))), false⟩)]⟩) (by kernel_rfl) ?_
            refine a_region ?_
            refine a_val (v := (.int .i64 a0)) (u := []) rfl trivial rfl ?_
            refine a_val (v := (eSi64 x132)) (u := []) rfl trivial rfl ?_
            refine a_val (v := (.int .i64 a0)) (u := []) rfl trivial rfl ?_
            refine a_val (v := (.int .i64 a0)) (u := []) rfl trivial rfl ?_
            refine a_val (v := (.int .i64 a0)) (u := []) rfl trivial rfl ?_
            refine a_val (v := (eSi64 (rd r119 x133.toNat))) (u := []) rfl trivial rfl ?_
            refine a_val (v := (eSi64 r67)) (u := []) rfl trivial rfl ?_
            obtain ⟨r151, hr152, h⟩ := bind_some h
            refine a_call (args := [(.int .i64 a0), (eSi64 (rd r119 x133.toNat)), (eSi64 r67)]) (u := []) (r := (eSi64 r151)) rfl rfl (impl_prime_times_ok a0 (rd r119 x133.toNat) r67 r151 hr152) rfl ?_
            refine a_val (v := (.sl 1 true (([1]).map (AV.int .i64)))) (u := []) rfl ⟨(Nat.le_of_ble_eq_true rfl), (Nat.le_of_ble_eq_true rfl), (all_cons ⟨(Nat.le_of_ble_eq_true rfl), rfl⟩ all_nil)⟩ rfl ?_
            obtain ⟨r153, hr154, h⟩ := bind_some h
            refine a_call (args := [(.int .i64 a0), (eSi64 r151), (.sl 1 true (([1]).map (AV.int .i64))), (.int .i64 1)]) (u := []) (r := (eSi64 r153)) rfl rfl (Den.args (impl_prime_combine_ok a0 r151 ([1]) 1 r153 hr154) rfl rfl (.cons (.refl _) (.cons (.refl _) (.cons (.loose _) (.cons (.refl _) .nil))))) rfl ?_
            refine a_val (v := (.int .i64 a3)) (u := []) rfl trivial rfl ?_
            obtain ⟨r155, hr156, h⟩ := bind_some h
            refine a_call (args := [(.int .i64 a0), (eSi64 r153), (.int .i64 a3)]) (u := []) (r := (eSi64 r155)) rfl rfl (impl_prime_raised_ok a0 r153 a3 r155 hr156) rfl ?_
            obtain ⟨r157, hr158, h⟩ := bind_some h
            refine a_call (args := [(.int .i64 a0), (eSi64 x132), (eSi64 r155), (.int .i64 1)]) (u := []) (r := (eSi64 r157)) rfl rfl (impl_prime_combine_ok a0 x132 r155 1 r157 hr158) rfl ?_
            refine a_val (v := (eSi64 r157)) (u := []) rfl trivial rfl ?_
            refine a_nil ?_
            refine b_norm ?_
            refine a_next (σ' := ⟨[(3, (.int .i64 a3)), (8, (.own 8 [] [])), (11, (.int .i64 a0)), (12, (eSi64 r67)), (13, (eSi64 r157)), (47, (eSSi64 r119)), (48, (.int .i64 (r119.length : Int))), (49, (.int .i64 x133))], [(8, some ⟨(eA64u8 ((vrep 64 (0 : Int)))), false⟩)]⟩) (by kernel_rfl) ?_
            refine a_region ?_
            refine a_val (v := (.int .i64 (IntKind.i64.wrap (x133 + 1)))) (u := []) rfl trivial rfl ?_
            refine a_val (v := (.int .i64 (IntKind.i64.wrap (x133 + 1)))) (u := []) rfl trivial rfl ?_
            refine a_nil ?_
            cases h
            exact a_again (by kernel_rfl) hX147
      · have h := ite_t hb73 h
        refine a_cond_t rfl ?_
        refine a_seq ?_
        refine a_region ?_
        refine a_val (v := (eA64u8 ((vrep 64 (0 : Int))))) (u := []) rfl ⟨⟨_, rfl, rfl⟩, all_nil⟩ rfl ?_
        have hs164 : StOk [] (eA64u8 ((vrep 64 (0 : Int)))) [] 64 (eA64u8 ((vrep 64 (0 : Int)))) (eA64u8 ((vrep 64 (0 : Int)))) := (.nil rfl rfl rfl rfl)
        refine a_val (v := .top) (u := [(8, some ⟨(eA64u8 ((vrep 64 (0 : Int)))), false⟩)]) (st_own (i := ⟨.arr 64 5, 64, 64, (eA64u8 (vrep 64 (0 : Int)))⟩) rfl rfl (fun _ => rfl) rfl hs164) (hs164.c rfl) rfl ?_
        refine a_val (v := (.int .i64 3)) (u := []) rfl trivial rfl ?_
        refine a_nil ?_
        refine a_next rfl ?_
        refine a_ret ?_
        refine t_ret ?_
        have hl165 : LdOk [] (eA64u8 ((vrep 64 (0 : Int)))) [] 64 true (eA64u8 ((vrep 64 (0 : Int)))) := (.nil rfl rfl rfl)
        refine ⟨.inr rfl, ?_⟩
        rw [Try.results40]
        cases h
        exact ⟨_, _, _, _, _, ld_own (i := ⟨.arr 64 5, 64, 64, (eA64u8 (vrep 64 (0 : Int)))⟩) rfl rfl rfl hl165, hl165.c, .inl ⟨rfl, .inl rfl⟩, rfl, ⟨_, _, _, _, _, rfl, trivial, .inl ⟨rfl, .inl rfl⟩, rfl, rfl⟩⟩
    · have h := ite_t hb65 h
      refine a_cond_t rfl ?_
      refine a_seq ?_
      refine a_region ?_
      refine a_val (v := (eA64u8 ((vrep 64 (0 : Int))))) (u := []) rfl ⟨⟨_, rfl, rfl⟩, all_nil⟩ rfl ?_
      refine a_val (v := (.int .i64 x31)) (u := []) rfl trivial rfl ?_
      have hs166 : StOk [] (eA64u8 ((vrep 64 (0 : Int)))) [] 64 (eA64u8 ((vrep 64 (0 : Int)))) (eA64u8 ((vrep 64 (0 : Int)))) := (.nil rfl rfl rfl rfl)
      refine a_val (v := .top) (u := [(8, some ⟨(eA64u8 ((vrep 64 (0 : Int)))), false⟩)]) (st_own (i := ⟨.arr 64 5, 64, 64, (eA64u8 (vrep 64 (0 : Int)))⟩) rfl rfl (fun _ => rfl) rfl hs166) (hs166.c rfl) rfl ?_
      refine a_val (v := (.int .i64 x31)) (u := []) rfl trivial rfl ?_
      refine a_nil ?_
      refine a_next rfl ?_
      refine a_ret ?_
      refine t_ret ?_
      have hl167 : LdOk [] (eA64u8 ((vrep 64 (0 : Int)))) [] 64 true (eA64u8 ((vrep 64 (0 : Int)))) := (.nil rfl rfl rfl)
      refine ⟨.inr rfl, ?_⟩
      rw [Try.results40]
      cases h
      exact ⟨_, _, _, _, _, ld_own (i := ⟨.arr 64 5, 64, 64, (eA64u8 (vrep 64 (0 : Int)))⟩) rfl rfl rfl hl167, hl167.c, .inl ⟨rfl, .inl rfl⟩, rfl, ⟨_, _, _, _, _, rfl, trivial, .inl ⟨rfl, .inl rfl⟩, rfl, rfl⟩⟩
  · have h := hy33
    refine a_draw [⟨[], [], [], []⟩, ⟨[5], [], [], []⟩, ⟨[], [], [], []⟩, ⟨[], [], [], [2]⟩, ⟨[], [], [], [2, 3]⟩, ⟨[], [], [], [2, 3, 4]⟩, ⟨[], [], [], [2, 3, 4, 5]⟩, ⟨[], [], [], [2, 3, 4, 5, 6]⟩, ⟨[], [], [], [2, 3, 4, 5, 6, 7]⟩, ⟨[], [], [], [2, 3, 4, 5, 6, 7, 8]⟩, ⟨[], [], [], [2, 3, 4, 5, 6, 7, 8]⟩, ⟨[], [], [], [2, 3, 4, 5, 6, 7, 8, 9, 10]⟩, ⟨[], [], [], [2, 3, 4, 5, 6, 7, 8, 9, 10, 11]⟩, ⟨[], [], [], [0, 1, 2, 3, 4, 5, 6, 7, 8, 9, 10, 11, 12]⟩, ⟨[], [], [], [0, 1, 2, 3, 4, 5, 6, 7, 8, 9, 10, 11, 12, 13]⟩] (by kernel_rfl) ?_
    refine d_cons ?_
    refine a_val (v := (.int .i64 a0)) (u := []) rfl trivial rfl ?_
    refine d_next (by kernel_rfl) ?_
    refine d_cons ?_
    have hl50 : LdOk [] (eA64u8 a1) [] 64 true (eA64u8 a1) := (.nil rfl rfl rfl)
    refine a_val (v := (eA64u8 a1)) (u := []) (ld_own (i := ⟨.arr 64 5, 64, 64, (eA64u8 (vrep 64 (0 : Int)))⟩) rfl rfl rfl hl50) hl50.c rfl ?_
    refine d_next (by kernel_rfl) ?_
    refine d_cons ?_
    refine a_val (v := (.int .i64 a3)) (u := []) rfl trivial rfl ?_
    refine d_next (by kernel_rfl) ?_
    refine d_cons ?_
    obtain ⟨r51, hr52, h⟩ := bind_some h
    refine a_call (args := [(.int .i64 a3)]) (u := []) (r := (.bool r51)) rfl rfl (impl_isExponent_ok a3 r51 hr52) rfl ?_
    refine d_next (by kernel_rfl) ?_
    refine d_cons ?_
    refine a_val (v := (.bool r51)) (u := []) rfl trivial rfl ?_
    refine d_next (by kernel_rfl) ?_
    cases hb53 : r51
    · have h := ite_f hb53 h
      refine d_cons ?_
      refine a_gskip rfl ?_
      refine d_next (by kernel_rfl) ?_
      refine d_cons ?_
      refine a_gskip rfl ?_
      refine d_next (by kernel_rfl) ?_
      refine d_cons ?_
      refine a_val (v := (.bool false)) (u := []) rfl trivial rfl ?_
      refine d_next (by kernel_rfl) ?_
      refine d_cons ?_
      refine a_val (v := (.bool false)) (u := []) rfl trivial rfl ?_
      refine d_next (by kernel_rfl) ?_
      refine d_cons ?_
      refine a_gskip rfl ?_
      refine d_next (by kernel_rfl) ?_
      refine d_cons ?_
      refine a_gskip rfl ?_
      refine d_next (by kernel_rfl) ?_
      refine d_cons ?_
      refine a_gskip rfl ?_
      refine d_next (by kernel_rfl) ?_
      refine d_cons ?_
      refine a_val (v := (.bool false)) (u := []) rfl trivial rfl ?_
      refine d_next (by kernel_rfl) ?_
      refine d_cons ?_
      obtain ⟨r54, hr55, h⟩ := bind_some h
      refine a_call (args := [(.int .i64 a0), (eA64u8 a1), (.int .i64 5), (.bool false), (.sl 0 true [])]) (u := []) (r := (.int .i64 r54)) rfl rfl (Den.args (impl_monicCode_of_sl_ok a0 a1 5 false ([]) r54 hr55) rfl rfl (.cons (.refl _) (.cons (.refl _) (.cons (.refl _) (.cons (.refl _) (.cons (.nil _ _ _ _ (fun _ => rfl)) .nil)))))) rfl ?_
      refine d_next (by kernel_rfl) ?_
      refine d_cons ?_
      refine a_val (v := (.int .i64 r54)) (u := []) rfl trivial rfl ?_
      refine d_next (by kernel_rfl) ?_
      refine d_nil ?_
      exact j_leaf r54 (Option.some.inj h) (by kernel_rfl)
    · have h := ite_t hb53 h
      refine d_cons ?_
      refine a_gval rfl (v := (.int .i64 a0)) (u := []) rfl trivial rfl ?_
      refine d_next (by kernel_rfl) ?_
      refine d_cons ?_
      obtain ⟨r56, hr57, h⟩ := bind_some h
      refine a_gcall rfl (args := [(.int .i64 a0)]) (u := []) (r := (.bool r56)) rfl rfl (impl_isPrime_ok a0 r56 hr57) rfl ?_
      refine d_next (by kernel_rfl) ?_
      refine d_cons ?_
      refine a_val (v := (.bool r56)) (u := []) rfl trivial rfl ?_
      refine d_next (by kernel_rfl) ?_
      refine d_cons ?_
      refine a_val (v := (.bool r56)) (u := []) rfl trivial rfl ?_
      refine d_next (by kernel_rfl) ?_
      cases hb58 : r56
      · have h := ite_f hb58 h
        refine d_cons ?_
        refine a_gskip rfl ?_
        refine d_next (by kernel_rfl) ?_
        refine d_cons ?_
        refine a_gskip rfl ?_
        refine d_next (by kernel_rfl) ?_
        refine d_cons ?_
        refine a_gskip rfl ?_
        refine d_next (by kernel_rfl) ?_
        refine d_cons ?_
        refine a_val (v := (.bool false)) (u := []) rfl trivial rfl ?_
        refine d_next (by kernel_rfl) ?_
        refine d_cons ?_
        obtain ⟨r59, hr60, h⟩ := bind_some h
        refine a_call (args := [(.int .i64 a0), (eA64u8 a1), (.int .i64 5), (.bool false), (.sl 0 true [])]) (u := []) (r := (.int .i64 r59)) rfl rfl (Den.args (impl_monicCode_of_sl_ok a0 a1 5 false ([]) r59 hr60) rfl rfl (.cons (.refl _) (.cons (.refl _) (.cons (.refl _) (.cons (.refl _) (.cons (.nil _ _ _ _ (fun _ => rfl)) .nil)))))) rfl ?_
        refine d_next (by kernel_rfl) ?_
        refine d_cons ?_
        refine a_val (v := (.int .i64 r59)) (u := []) rfl trivial rfl ?_
        refine d_next (by kernel_rfl) ?_
        refine d_nil ?_
        exact j_leaf r59 (Option.some.inj h) (by kernel_rfl)
      · have h := ite_t hb58 h
        refine d_cons ?_
        refine a_gval rfl (v := (.int .i64 a0)) (u := []) rfl trivial rfl ?_
        refine d_next (by kernel_rfl) ?_
        refine d_cons ?_
        refine a_gval rfl (v := (.int .i64 a2)) (u := []) rfl trivial rfl ?_
        refine d_next (by kernel_rfl) ?_
        refine d_cons ?_
        obtain ⟨r61, hr62, h⟩ := bind_some h
        refine a_gcall rfl (args := [(.int .i64 a0), (.int .i64 a2)]) (u := []) (r := (.bool r61)) rfl rfl (impl_prime_isSumDegree_ok a0 a2 r61 hr62) rfl ?_
        refine d_next (by kernel_rfl) ?_
        refine d_cons ?_
        refine a_val (v := (.bool r61)) (u := []) rfl trivial rfl ?_
        refine d_next (by kernel_rfl) ?_
        refine d_cons ?_
        obtain ⟨r63, hr64, h⟩ := bind_some h
        refine a_call (args := [(.int .i64 a0), (eA64u8 a1), (.int .i64 5), (.bool r61), (.sl 0 true [])]) (u := []) (r := (.int .i64 r63)) rfl rfl (Den.args (impl_monicCode_of_sl_ok a0 a1 5 r61 ([]) r63 hr64) rfl rfl (.cons (.refl _) (.cons (.refl _) (.cons (.refl _) (.cons (.refl _) (.cons (.nil _ _ _ _ (fun _ => rfl)) .nil)))))) rfl ?_
        refine d_next (by kernel_rfl) ?_
        refine d_cons ?_
        refine a_val (v := (.int .i64 r63)) (u := []) rfl trivial rfl ?_
        refine d_next (by kernel_rfl) ?_
        refine d_nil ?_
        exact j_leaf r63 (Option.some.inj h) (by kernel_rfl)
def laws_eqPoly_c : ACode := (.seq (.region 0 [⟨some 2, .box 23 (.tmp 0), none, []⟩, ⟨some 3, .box 23 (.tmp 1), none, []⟩, ⟨some 4, .asg 0 (.const (.bool false)) 4, none, []⟩] false) (.seq (.seq (.region 1 [⟨some 5, .asg 0 (.const (.int .i64 0)) 3, none, []⟩] false) (.block 0 (.loop (.seq (.seq (.region 2 [⟨some 6, .mov (.tmp 5), none, []⟩, ⟨some 7, .bin .lss 3 (.tmp 6) (.const (.int .i64 64)), none, []⟩] false) (.cond (.tmp 7) .skip (.exit 0))) (.seq (.block 1 (.seq (.region 4 [⟨some 10, .mov (.tmp 5), none, []⟩, ⟨some 11, .indexAddr 23 (.tmp 2) (.tmp 10), none, [0]⟩, ⟨some 12, .load 5 (.tmp 11), none, [1]⟩, ⟨some 13, .mov (.tmp 5), none, []⟩, ⟨some 14, .indexAddr 23 (.tmp 3) (.tmp 13), none, [3]⟩, ⟨some 15, .load 5 (.tmp 14), none, [4]⟩, ⟨some 16, .bin .neq 5 (.tmp 12) (.tmp 15), none, [2, 5]⟩] true) (.cond (.tmp 16) (.seq (.region 5 [⟨some 4, .asg 0 (.const (.bool false)) 4, none, []⟩] false) .ret) .skip))) (.region 3 [⟨some 8, .mov (.tmp 5), none, []⟩, ⟨some 9, .bin .add 3 (.tmp 8) (.const (.int .i64 1)), none, []⟩, ⟨some 5, .asg 0 (.tmp 9) 3, none, []⟩] false)))))) (.seq (.region 6 [⟨some 4, .asg 0 (.const (.bool true)) 4, none, []⟩] false) .ret)))
def laws_eqPoly_L : Live := [(0, [0, 1]), (1, [2, 3]), (2, [2, 3, 5]), (3, [2, 3, 5]), (4, [2, 3, 5]), (5, []), (6, []), (100007, [2, 3, 5, 7]), (100016, [2, 3, 5, 16])]
theorem laws_eqPoly_body : Try.f17.body = some (Try.f17.body.getD .skip) := by kernel_rfl
theorem laws_eqPoly_strip : strip [] (Try.f17.body.getD .skip) = laws_eqPoly_c := by kernel_rfl
noncomputable def laws_eqPoly_l1 (a0 : (Vec Int 64)) (a1 : (Vec Int 64)) (x49 : Int) : Option (Int ⊕ (Unit ⊕ Bool)) :=
  (if (decide (x49 < 64)) then (ifp (0 ≤ x49 ∧ x49 < ((64 : Nat) : Int)) ((ifp (0 ≤ x49 ∧ x49 < ((64 : Nat) : Int)) ((if ((rd a0.1 x49.toNat) != (rd a1.1 x49.toNat)) then (some (.inr (.inr false))) else (some (.inl (IntKind.i64.wrap (x49 + 1))))))))) else (some (.inr (((.inl ()))))))
noncomputable def laws_eqPoly (a0 : (Vec Int 64)) (a1 : (Vec Int 64)) : Option Bool :=
  (Option.bind (α := (Unit ⊕ Bool)) ((loopM (fun s : Int => laws_eqPoly_l1 a0 a1 s) 0)) fun z => match z with | .inl _ => (some true) | .inr r74 => (some r74))
set_option maxHeartbeats 16000000 in
theorem laws_eqPoly_ok (a0 : (Vec Int 64)) (a1 : (Vec Int 64)) (r : Bool) (h : laws_eqPoly a0 a1 = some r) : Den Try.prog 17 [(eA64u8 a0), (eA64u8 a1)] { r := (.bool r) } := by
  refine den_of (rs := [(.bool r)]) (ac := laws_eqPoly_c) (L := laws_eqPoly_L) (n := 17) (m := []) good Try.func17 laws_eqPoly_body (by kernel_rfl) Try.ntmps17 rfl rfl laws_eqPoly_strip rfl rfl ?_
  refine a_st (σ' := ⟨[(0, (eA64u8 a0)), (1, (eA64u8 a1))], []⟩) (by kernel_rfl) ?_
  unfold laws_eqPoly_c
  refine a_seq ?_
  refine a_region ?_
  refine a_val (v := (.own 1200 [] [])) (u := [(1200, some ⟨(eA64u8 a0), false⟩)]) rfl trivial rfl ?_
  refine a_val (v := (.own 1300 [] [])) (u := [(1300, some ⟨(eA64u8 a1), false⟩)]) rfl trivial rfl ?_
  refine a_val (v := (.bool false)) (u := []) rfl trivial rfl ?_
  refine a_nil ?_
  refine a_next (σ' := ⟨[(2, (.own 2 [] [])), (3, (.own 3 [] []))], [(2, some ⟨(eA64u8 a0), false⟩), (3, some ⟨(eA64u8 a1), false⟩)]⟩) (by kernel_rfl) ?_
  obtain ⟨y36, hy37, hk38⟩ := bind_some h
  clear h
  refine a_join (emb := fun (s : Unit) => ⟨[], []⟩) (pre := fun s => (.inl s) = y36) ?_ ?_
  · rintro _ rfl
    have h := hk38
    refine a_st (σ' := ⟨[], []⟩) (by kernel_rfl) ?_
    refine a_seq ?_
    refine a_region ?_
    refine a_val (v := (.bool true)) (u := []) rfl trivial rfl ?_
    refine a_nil ?_
    refine a_next rfl ?_
    refine a_ret ?_
    refine ⟨.inr rfl, ?_⟩
    rw [Try.results17]
    cases h
    exact ⟨_, _, _, _, _, rfl, trivial, .inl ⟨rfl, .inl rfl⟩, rfl, rfl⟩
  · have h := hy37
    refine a_seq ?_
    refine a_region ?_
    refine a_val (v := (.int .i64 0)) (u := []) rfl trivial rfl ?_
    refine a_nil ?_
    refine a_next (σ' := ⟨[(2, (.own 2 [] [])), (3, (.own 3 [] [])), (5, (.int .i64 0))], [(2, some ⟨(eA64u8 a0), false⟩), (3, some ⟨(eA64u8 a1), false⟩)]⟩) (by kernel_rfl) ?_
    refine a_block ?_
    refine a_loop (emb := fun (s : Int) => ⟨[(2, (.own 2 [] [])), (3, (.own 3 [] [])), (5, (.int .i64 s))], [(2, some ⟨(eA64u8 a0), false⟩), (3, some ⟨(eA64u8 a1), false⟩)]⟩) (body := (fun s : Int => laws_eqPoly_l1 a0 a1 s)) (G := fun q => some q = some y36) h rfl ?_ (by kernel_rfl)
    rintro X60 x49 x61 h hX62
    have h : laws_eqPoly_l1 a0 a1 x49 = some x61 := h
    refine a_st (σ' := ⟨[(2, (.own 2 [] [])), (3, (.own 3 [] [])), (5, (.int .i64 x49))], [(2, some ⟨(eA64u8 a0), false⟩), (3, some ⟨(eA64u8 a1), false⟩)]⟩) (by kernel_rfl) ?_
    refine a_seq ?_
    refine a_seq ?_
    refine a_region ?_
    refine a_val (v := (.int .i64 x49)) (u := []) rfl trivial rfl ?_
    refine a_val (v := (.bool ((decide (x49 < 64))))) (u := []) rfl trivial rfl ?_
    refine a_nil ?_
    refine a_next (σ' := ⟨[(2, (.own 2 [] [])), (3, (.own 3 [] [])), (5, (.int .i64 x49)), (7, (.bool ((decide (x49 < 64)))))], [(2, some ⟨(eA64u8 a0), false⟩), (3, some ⟨(eA64u8 a1), false⟩)]⟩) (by kernel_rfl) ?_
    cases hb63 : (decide (x49 < 64))
    · have h := ite_f hb63 h
      refine a_cond_f rfl ?_
      refine a_exit ?_
      refine t_exit ?_
      cases h
      have h := hX62
      refine t_exit ?_
      refine b_exit ?_
      exact j_leaf () (Option.some.inj h) (by kernel_rfl)
    · have h := ite_t hb63 h
      refine a_cond_t rfl ?_
      refine a_skip ?_
      refine a_next (σ' := ⟨[(2, (.own 2 [] [])), (3, (.own 3 [] [])), (5, (.int .i64 x49))], [(2, some ⟨(eA64u8 a0), false⟩), (3, some ⟨(eA64u8 a1), false⟩)]⟩) (by kernel_rfl) ?_
      refine a_seq ?_
      refine a_block ?_
      refine a_seq ?_
      refine a_draw [⟨[], [], [], []⟩, ⟨[2], [], [2], [0]⟩, ⟨[2], [], [], [0, 1]⟩, ⟨[], [], [], []⟩, ⟨[3], [], [3], [3]⟩, ⟨[3], [], [], [3, 4]⟩, ⟨[], [], [], [0, 1, 2, 3, 4, 5]⟩] (by kernel_rfl) ?_
      refine d_cons ?_
      refine a_val (v := (.int .i64 x49)) (u := []) rfl trivial rfl ?_
      refine d_next (by kernel_rfl) ?_
      refine d_cons ?_
      obtain ⟨hc68, h⟩ := ifp_some h
      refine a_val (v := (.own 2 [x49.toNat] [x49.toNat * 1])) (u := []) rfl hc68 rfl ?_
      refine d_next (by kernel_rfl) ?_
      refine d_cons ?_
      have hl69 : LdOk [x49.toNat] (eA64u8 a0) [x49.toNat * 1] 1 false (.int .u8 (rd a0.1 x49.toNat)) := (.arr (vlt a0 hc68) rfl (.nil rfl rfl rfl))
      refine a_val (v := (.int .u8 (rd a0.1 x49.toNat))) (u := []) (ld_own (i := ⟨.int .u8, 1, 1, (.int .u8 0)⟩) rfl rfl rfl hl69) hl69.c rfl ?_
      refine d_next (by kernel_rfl) ?_
      refine d_cons ?_
      refine a_val (v := (.int .i64 x49)) (u := []) rfl trivial rfl ?_
      refine d_next (by kernel_rfl) ?_
      refine d_cons ?_
      obtain ⟨hc70, h⟩ := ifp_some h
      refine a_val (v := (.own 3 [x49.toNat] [x49.toNat * 1])) (u := []) rfl hc70 rfl ?_
      refine d_next (by kernel_rfl) ?_
      refine d_cons ?_
      have hl71 : LdOk [x49.toNat] (eA64u8 a1) [x49.toNat * 1] 1 false (.int .u8 (rd a1.1 x49.toNat)) := (.arr (vlt a1 hc70) rfl (.nil rfl rfl rfl))
      refine a_val (v := (.int .u8 (rd a1.1 x49.toNat))) (u := []) (ld_own (i := ⟨.int .u8, 1, 1, (.int .u8 0)⟩) rfl rfl rfl hl71) hl71.c rfl ?_
      refine d_next (by kernel_rfl) ?_
      refine d_cons ?_
      refine a_val (v := (.bool (((rd a0.1 x49.toNat) != (rd a1.1 x49.toNat))))) (u := []) rfl trivial rfl ?_
      refine d_next (by kernel_rfl) ?_
      refine d_nil ?_
      refine a_next (σ' := ⟨[(2, (.own 2 [] [])), (3, (.own 3 [] [])), (5, (.int .i64 x49)), (16, (.bool (((rd a0.1 x49.toNat) != (rd a1.1 x49.toNat)))))], [(2, some ⟨(eA64u8 a0), false⟩), (3, some ⟨(eA64u8 a1), false⟩)]⟩) (by kernel_rfl) ?_
      cases hb72 : ((rd a0.1 x49.toNat) != (rd a1.1 x49.toNat))
      · have h := ite_f hb72 h
        refine a_cond_f rfl ?_
        refine a_skip ?_
        refine b_norm ?_
        refine a_next (σ' := ⟨[(2, (.own 2 [] [])), (3, (.own 3 [] [])), (5, (.int .i64 x49))], [(2, some ⟨(eA64u8 a0), false⟩), (3, some ⟨(eA64u8 a1), false⟩)]⟩) (by kernel_rfl) ?_
        refine a_region ?_
        refine a_val (v := (.int .i64 x49)) (u := []) rfl trivial rfl ?_
        refine a_val (v := (.int .i64 (IntKind.i64.wrap (x49 + 1)))) (u := []) rfl trivial rfl ?_
        refine a_val (v := (.int .i64 (IntKind.i64.wrap (x49 + 1)))) (u := []) rfl trivial rfl ?_
        refine a_nil ?_
        cases h
        exact a_again (by kernel_rfl) hX62
      · have h := ite_t hb72 h
        refine a_cond_t rfl ?_
        refine a_seq ?_
        refine a_region ?_
        refine a_val (v := (.bool false)) (u := []) rfl trivial rfl ?_
        refine a_nil ?_
        refine a_next rfl ?_
        refine a_ret ?_
        refine b_ret ?_
        refine t_ret ?_
        cases h
        have h := hX62
        refine t_ret ?_
        refine b_ret ?_
        refine t_ret ?_
        cases h
        have h := hk38
        refine ⟨.inr rfl, ?_⟩
        rw [Try.results17]
        cases h
        exact ⟨_, _, _, _, _, rfl, trivial, .inl ⟨rfl, .inl rfl⟩, rfl, rfl⟩
def laws_FnExactShiftedSum_c : ACode := (.seq (.region 0 [⟨some 5, .box 22 (.tmp 1), none, []⟩, ⟨some 8, .asg 0 (.const (.bool false)) 4, none, []⟩] false) (.seq (.region 1 [⟨some 14, .mov (.tmp 0), none, []⟩, ⟨some 15, .load 22 (.tmp 5), none, []⟩, ⟨some 16, .call 0 (.func 21) [(.tmp 15)], none, []⟩, ⟨some 17, .mov (.tmp 2), none, []⟩, ⟨some 18, .mov (.tmp 3), none, []⟩, ⟨some 19, .call 0 (.func 39) [(.tmp 14), (.tmp 16), (.tmp 17), (.tmp 18)], none, []⟩, ⟨some 13, .mov (.tmp 19), none, []⟩, ⟨some 20, .extract (.tmp 13) 0, none, []⟩, ⟨some 21, .extract (.tmp 13) 1, none, []⟩, ⟨some 9, .alloc 23, none, []⟩, ⟨none, .store 23 (.tmp 9) (.tmp 20), none, []⟩, ⟨some 10, .asg 0 (.tmp 21) 2, none, []⟩] false) (.seq (.region 2 [⟨some 23, .mov (.tmp 0), none, []⟩, ⟨some 24, .load 22 (.tmp 5), none, []⟩, ⟨some 25, .call 0 (.func 21) [(.tmp 24)], none, []⟩, ⟨some 26, .mov (.tmp 2), none, []⟩, ⟨some 27, .mov (.tmp 3), none, []⟩, ⟨some 28, .call 0 (.func 40) [(.tmp 23), (.tmp 25), (.tmp 26), (.tmp 27)], none, []⟩, ⟨some 22, .mov (.tmp 28), none, []⟩, ⟨some 29, .extract (.tmp 22) 0, none, []⟩, ⟨some 30, .extract (.tmp 22) 1, none, []⟩, ⟨some 11, .alloc 23, none, []⟩, ⟨none, .store 23 (.tmp 11) (.tmp 29), none, []⟩, ⟨some 12, .asg 0 (.tmp 30) 2, none, []⟩] false) (.seq (.seq (.region 3 [⟨some 31, .load 23 (.tmp 11), none, []⟩, ⟨some 32, .load 23 (.tmp 9), none, []⟩, ⟨some 33, .call 0 (.func 17) [(.tmp 31), (.tmp 32)], none, []⟩, ⟨some 34, .un .not (.tmp 33), none, []⟩, ⟨some 35, .mov (.tmp 34), none, []⟩, ⟨some 36, .mov (.tmp 12), some (35, false), []⟩, ⟨some 37, .mov (.tmp 10), some (35, false), []⟩, ⟨some 38, .bin .neq 2 (.tmp 36) (.tmp 37), some (35, false), []⟩, ⟨some 39, .pick (.tmp 35) (.const (.bool true)) (.tmp 38), none, []⟩] false) (.cond (.tmp 39) (.seq (.region 4 [⟨some 8, .asg 0 (.const (.bool false)) 4, none, []⟩] false) .ret) .skip)) (.seq (.region 5 [⟨some 8, .asg 0 (.const (.bool true)) 4, none, []⟩] false) .ret)))))
def laws_FnExactShiftedSum_L : Live := [(0, [0, 1, 2, 3]), (1, [0, 2, 3, 5]), (2, [0, 2, 3, 5, 9, 10]), (3, [9, 10, 11, 12]), (4, []), (5, []), (100039, [39])]
theorem laws_FnExactShiftedSum_body : Try.f10.body = some (Try.f10.body.getD .skip) := by kernel_rfl
theorem laws_FnExactShiftedSum_strip : strip [] (Try.f10.body.getD .skip) = laws_FnExactShiftedSum_c := by kernel_rfl
noncomputable def laws_FnExactShiftedSum (a0 : Int) (a1 : (Vec Int 64)) (a2 : Int) (a3 : Int) : Option Bool :=
  (Option.bind (laws_toPoly a1) fun r2 => (Option.bind (spec_ShiftedSum a0 r2 a2 a3) fun r4 => (Option.bind (laws_toPoly a1) fun r8 => (Option.bind (impl_ShiftedSum a0 r8 a2 a3) fun r10 => (Option.bind (α := Bool) ((Option.bind (laws_eqPoly r10.1 r4.1) fun r24 => (if (!r24) then (some true) else (some (r10.2 != r4.2))))) fun x18 => (if x18 then (some false) else (some true)))))))
set_option maxHeartbeats 16000000 in
theorem laws_FnExactShiftedSum_ok (a0 : Int) (a1 : (Vec Int 64)) (a2 : Int) (a3 : Int) (r : Bool) (h : laws_FnExactShiftedSum a0 a1 a2 a3 = some r) : Den Try.prog 10 [(.int .i64 a0), (eA64u8 a1), (.int .i64 a2), (.int .i64 a3)] { r := (.bool r) } := by
  refine den_of (rs := [(.bool r)]) (ac := laws_FnExactShiftedSum_c) (L := laws_FnExactShiftedSum_L) (n := 40) (m := []) good Try.func10 laws_FnExactShiftedSum_body (by kernel_rfl) Try.ntmps10 rfl rfl laws_FnExactShiftedSum_strip rfl rfl ?_
  refine a_st (σ' := ⟨[(0, (.int .i64 a0)), (1, (eA64u8 a1)), (2, (.int .i64 a2)), (3, (.int .i64 a3))], []⟩) (by kernel_rfl) ?_
  unfold laws_FnExactShiftedSum_c
  refine a_seq ?_
  refine a_region ?_
  refine a_val (v := (.own 1500 [] [])) (u := [(1500, some ⟨(eA64u8 a1), false⟩)]) rfl trivial rfl ?_
  refine a_val (v := (.bool false)) (u := []) rfl trivial rfl ?_
  refine a_nil ?_
  refine a_next (σ' := ⟨[(0, (.int .i64 a0)), (2, (.int .i64 a2)), (3, (.int .i64 a3)), (5, (.own 5 [] []))], [(5, some ⟨(eA64u8 a1), false⟩)]⟩) (by kernel_rfl) ?_
  refine a_seq ?_
  refine a_region ?_
  refine a_val (v := (.int .i64 a0)) (u := []) rfl trivial rfl ?_
  have hl1 : LdOk [] (eA64u8 a1) [] 64 true (eA64u8 a1) := (.nil rfl rfl rfl)
  refine a_val (v := (eA64u8 a1)) (u := []) (ld_own (i := ⟨.arr 64 5, 64, 64, (eA64u8 (vrep 64 (0 : Int)))⟩) rfl rfl rfl hl1) hl1.c rfl ?_
  obtain ⟨r2, hr3, h⟩ := bind_some h
  refine a_call (args := [(eA64u8 a1)]) (u := []) (r := (eA64u8 r2)) rfl rfl (laws_toPoly_ok a1 r2 hr3) rfl ?_
  refine a_val (v := (.int .i64 a2)) (u := []) rfl trivial rfl ?_
  refine a_val (v := (.int .i64 a3)) (u := []) rfl trivial rfl ?_
  obtain ⟨r4, hr5, h⟩ := bind_some h
  refine a_call (args := [(.int .i64 a0), (eA64u8 r2), (.int .i64 a2), (.int .i64 a3)]) (u := []) (r := (.tuple [(eA64u8 r4.1), (.int .i64 r4.2)])) rfl rfl (spec_ShiftedSum_ok a0 r2 a2 a3 r4 hr5) rfl ?_
  refine a_val (v := (.tuple [(eA64u8 r4.1), (.int .i64 r4.2)])) (u := []) rfl trivial rfl ?_
  refine a_val (v := (eA64u8 r4.1)) (u := []) rfl (Nat.le_of_ble_eq_true rfl) rfl ?_
  refine a_val (v := (.int .i64 r4.2)) (u := []) rfl (Nat.le_of_ble_eq_true rfl) rfl ?_
  refine a_val (v := (.own 1900 [] [])) (u := [(1900, some ⟨(eA64u8 ((vrep 64 (0 : Int)))), false⟩)]) rfl trivial rfl ?_
  have hs6 : StOk [] (eA64u8 ((vrep 64 (0 : Int)))) [] 64 (eA64u8 r4.1) (eA64u8 r4.1) := (.nil rfl rfl rfl rfl)
  refine a_val (v := .top) (u := [(1900, some ⟨(eA64u8 r4.1), false⟩)]) (st_own (i := ⟨.arr 64 5, 64, 64, (eA64u8 (vrep 64 (0 : Int)))⟩) rfl rfl (fun _ => rfl) rfl hs6) (hs6.c rfl) rfl ?_
  refine a_val (v := (.int .i64 r4.2)) (u := []) rfl trivial rfl ?_
  refine a_nil ?_
  refine a_next (σ' := ⟨[(0, (.int .i64 a0)), (2, (.int .i64 a2)), (3, (.int .i64 a3)), (5, (.own 5 [] [])), (9, (.own 9 [] [])), (10, (.int .i64 r4.2))], [(5, some ⟨(eA64u8 a1), false⟩), (9, some ⟨(eA64u8 r4.1), false⟩)]⟩) (by kernel_rfl) ?_
  refine a_seq ?_
  refine a_region ?_
  refine a_val (v := (.int .i64 a0)) (u := []) rfl trivial rfl ?_
  have hl7 : LdOk [] (eA64u8 a1) [] 64 true (eA64u8 a1) := (.nil rfl rfl rfl)
  refine a_val (v := (eA64u8 a1)) (u := []) (ld_own (i := ⟨.arr 64 5, 64, 64, (eA64u8 (vrep 64 (0 : Int)))⟩) rfl rfl rfl hl7) hl7.c rfl ?_
  obtain ⟨r8, hr9, h⟩ := bind_some h
  refine a_call (args := [(eA64u8 a1)]) (u := []) (r := (eA64u8 r8)) rfl rfl (laws_toPoly_ok a1 r8 hr9) rfl ?_
  refine a_val (v := (.int .i64 a2)) (u := []) rfl trivial rfl ?_
  refine a_val (v := (.int .i64 a3)) (u := []) rfl trivial rfl ?_
  obtain ⟨r10, hr11, h⟩ := bind_some h
  refine a_call (args := [(.int .i64 a0), (eA64u8 r8), (.int .i64 a2), (.int .i64 a3)]) (u := []) (r := (.tuple [(eA64u8 r10.1), (.int .i64 r10.2)])) rfl rfl (impl_ShiftedSum_ok a0 r8 a2 a3 r10 hr11) rfl ?_
  refine a_val (v := (.tuple [(eA64u8 r10.1), (.int .i64 r10.2)])) (u := []) rfl trivial rfl ?_
  refine a_val (v := (eA64u8 r10.1)) (u := []) rfl (Nat.le_of_ble_eq_true rfl) rfl ?_
  refine a_val (v := (.int .i64 r10.2)) (u := []) rfl (Nat.le_of_ble_eq_true rfl) rfl ?_
  refine a_val (v := (.own 2100 [] [])) (u := [(2100, some ⟨(eA64u8 ((vrep 64 (0 : Int)))), false⟩)]) rfl trivial rfl ?_
  have hs12 : StOk [] (eA64u8 ((vrep 64 (0 : Int)))) [] 64 (eA64u8 r10.1) (eA64u8 r10.1) := (.nil rfl rfl rfl rfl)
  refine a_val (v := .top) (u := [(2100, some ⟨(eA64u8 r10.1), false⟩)]) (st_own (i := ⟨.arr 64 5, 64, 64, (eA64u8 (vrep 64 (0 : Int)))⟩) rfl rfl (fun _ => rfl) rfl hs12) (hs12.c rfl) rfl ?_
  refine a_val (v := (.int .i64 r10.2)) (u := []) rfl trivial rfl ?_
  refine a_nil ?_
  refine a_next (σ' := ⟨[(9, (.own 9 [] [])), (10, (.int .i64 r4.2)), (11, (.own 11 [] [])), (12, (.int .i64 r10.2))], [(9, some ⟨(eA64u8 r4.1), false⟩), (11, some ⟨(eA64u8 r10.1), false⟩)]⟩) (by kernel_rfl) ?_
  refine a_seq ?_
  obtain ⟨y19, hy20, hk21⟩ := bind_some h
  clear h
  refine a_join (emb := fun (s : Bool) => ⟨[(39, (.bool s))], []⟩) (pre := fun s => s = y19) ?_ ?_
  · rintro x18 rfl
    have h := hk21
    refine a_st (σ' := ⟨[(39, (.bool x18))], []⟩) (by kernel_rfl) ?_
    cases hb27 : x18
    · have h := ite_f hb27 h
      refine a_cond_f rfl ?_
      refine a_skip ?_
      refine a_next (σ' := ⟨[], []⟩) (by kernel_rfl) ?_
      refine a_seq ?_
      refine a_region ?_
      refine a_val (v := (.bool true)) (u := []) rfl trivial rfl ?_
      refine a_nil ?_
      refine a_next rfl ?_
      refine a_ret ?_
      refine ⟨.inr rfl, ?_⟩
      rw [Try.results10]
      cases h
      exact ⟨_, _, _, _, _, rfl, trivial, .inl ⟨rfl, .inl rfl⟩, rfl, rfl⟩
    · have h := ite_t hb27 h
      refine a_cond_t rfl ?_
      refine a_seq ?_
      refine a_region ?_
      refine a_val (v := (.bool false)) (u := []) rfl trivial rfl ?_
      refine a_nil ?_
      refine a_next rfl ?_
      refine a_ret ?_
      refine t_ret ?_
      refine ⟨.inr rfl, ?_⟩
      rw [Try.results10]
      cases h
      exact ⟨_, _, _, _, _, rfl, trivial, .inl ⟨rfl, .inl rfl⟩, rfl, rfl⟩
  · have h := hy20
    refine a_region ?_
    have hl22 : LdOk [] (eA64u8 r10.1) [] 64 true (eA64u8 r10.1) := (.nil rfl rfl rfl)
    refine a_val (v := (eA64u8 r10.1)) (u := []) (ld_own (i := ⟨.arr 64 5, 64, 64, (eA64u8 (vrep 64 (0 : Int)))⟩) rfl rfl rfl hl22) hl22.c rfl ?_
    have hl23 : LdOk [] (eA64u8 r4.1) [] 64 true (eA64u8 r4.1) := (.nil rfl rfl rfl)
    refine a_val (v := (eA64u8 r4.1)) (u := []) (ld_own (i := ⟨.arr 64 5, 64, 64, (eA64u8 (vrep 64 (0 : Int)))⟩) rfl rfl rfl hl23) hl23.c rfl ?_
    obtain ⟨r24, hr25, h⟩ := bind_some h
    refine a_call (args := [(eA64u8 r10.1), (eA64u8 r4.1)]) (u := []) (r := (.bool r24)) rfl rfl (laws_eqPoly_ok r10.1 r4.1 r24 hr25) rfl ?_
    refine a_val (v := (.bool (!r24))) (u := []) rfl trivial rfl ?_
    refine a_val (v := (.bool (!r24))) (u := []) rfl trivial rfl ?_
    cases hb26 : (!r24)
    · have h := ite_f hb26 h
      refine a_gval rfl (v := (.int .i64 r10.2)) (u := []) rfl trivial rfl ?_
      refine a_gval rfl (v := (.int .i64 r4.2)) (u := []) rfl trivial rfl ?_
      refine a_gval rfl (v := (.bool (r10.2 != r4.2))) (u := []) rfl trivial rfl ?_
      refine a_val (v := (.bool (r10.2 != r4.2))) (u := []) rfl trivial rfl ?_
      refine a_nil ?_
      exact j_leaf (r10.2 != r4.2) (Option.some.inj h) (by kernel_rfl)
    · have h := ite_t hb26 h
      refine a_gskip rfl ?_
      refine a_gskip rfl ?_
      refine a_gskip rfl ?_
      refine a_val (v := (.bool true)) (u := []) rfl trivial rfl ?_
      refine a_nil ?_
      exact j_leaf true (Option.some.inj h) (by kernel_rfl)
def impl_prime_powerSum_c : ACode := (.seq (.region 0 [⟨some 6, .asg 1 (.const (.slice none 0 0)) 64, none, []⟩] false) (.seq (.region 1 [⟨some 7, .asg 1 (.const (.slice none 0 0)) 64, none, []⟩] false) (.seq (.seq (.region 2 [⟨some 10, .mov (.tmp 0), none, []⟩, ⟨some 11, .mov (.tmp 1), none, []⟩, ⟨some 12, .call 0 (.func 98) [(.tmp 10), (.tmp 11)], none, []⟩, ⟨some 13, .blt 0 .len [(.tmp 12)] [72], none, []⟩, ⟨some 14, .mov (.const (.int .i64 0)), none, []⟩] false) (.block 0 (.loop (.seq (.region 3 [⟨some 15, .bin .lss 3 (.tmp 14) (.tmp 13), none, []⟩] false) (.seq (.cond (.tmp 15) .skip (.exit 0)) (.seq (.block 1 (.seq (.region 4 [⟨some 16, .indexAddr 72 (.tmp 12) (.tmp 14), none, []⟩, ⟨some 17, .load 64 (.tmp 16), none, []⟩, ⟨some 9, .asg 1 (.tmp 17) 64, none, []⟩] false) (.region 5 [⟨some 18, .mov (.tmp 0), none, []⟩, ⟨some 19, .mov (.tmp 7), none, []⟩, ⟨some 20, .mov (.tmp 0), none, []⟩, ⟨some 21, .mov (.tmp 9), none, []⟩, ⟨some 22, .mov (.tmp 2), none, []⟩, ⟨some 23, .call 0 (.func 99) [(.tmp 20), (.tmp 21), (.tmp 22)], none, []⟩, ⟨some 24, .call 0 (.func 56) [(.tmp 18), (.tmp 19), (.tmp 23), (.const (.int .i64 1))], none, []⟩, ⟨some 7, .asg 1 (.tmp 24) 64, none, []⟩] false))) (.region 6 [⟨some 25, .bin .add 3 (.tmp 14) (.const (.int .i64 1)), none, []⟩, ⟨some 14, .mov (.tmp 25), none, []⟩] false))))))) (.seq (.region 7 [⟨some 26, .mov (.tmp 7), none, []⟩, ⟨some 6, .asg 1 (.tmp 26) 64, none, []⟩] false) .ret))))
def impl_prime_powerSum_L : Live := [(0, [0, 1, 2]), (1, [0, 1, 2]), (2, [0, 1, 2, 7]), (3, [0, 2, 7, 12, 13, 14]), (4, [0, 2, 7, 12, 13, 14]), (5, [0, 2, 7, 9, 12, 13, 14]), (6, [0, 2, 7, 12, 13, 14]), (7, [7]), (100015, [0, 2, 7, 12, 13, 14, 15])]
theorem impl_prime_powerSum_body : Try.f57.body = some (Try.f57.body.getD .skip) := by kernel_rfl
theorem impl_prime_powerSum_strip : strip [(6, 1), (7, 1), (9, 1)] (Try.f57.body.getD .skip) = impl_prime_powerSum_c := by kernel_rfl
noncomputable def impl_prime_powerSum_l1 (r34 : (List (List Int))) (a0 : Int) (a2 : Int) (x43 : (List Int)) (x44 : Int) : Option (((List Int) × Int) ⊕ (List Int)) :=
  (if (decide (x44 < (r34.length : Int))) then (ifp (0 ≤ x44 ∧ x44 < ((r34.length : Nat) : Int)) ((Option.bind (impl_prime_raised a0 (rd r34 x44.toNat) a2) fun r58 => (Option.bind (impl_prime_combine a0 x43 r58 1) fun r60 => (some (.inl ((r60, IntKind.i64.wrap (x44 + 1))))))))) else (some (.inr x43)))
noncomputable def impl_prime_powerSum (a0 : Int) (a1 : Int) (a2 : Int) : Option (List Int) :=
  (Option.bind (α := (List Int)) ((Option.bind (impl_prime_monics a0 a1) fun r34 => (loopM (fun s : ((List Int) × Int) => impl_prime_powerSum_l1 r34 a0 a2 s.1 s.2) ([], 0)))) fun x30 => (some x30))
set_option maxHeartbeats 16000000 in
theorem impl_prime_powerSum_ok (a0 : Int) (a1 : Int) (a2 : Int) (r : (List Int)) (h : impl_prime_powerSum a0 a1 a2 = some r) : Den Try.prog 57 [(.int .i64 a0), (.int .i64 a1), (.int .i64 a2)] { r := (eSi64 r) } := by
  refine den_of (rs := [(eSi64 r)]) (ac := impl_prime_powerSum_c) (L := impl_prime_powerSum_L) (n := 27) (m := [(6, 1), (7, 1), (9, 1)]) good Try.func57 impl_prime_powerSum_body (by kernel_rfl) Try.ntmps57 rfl rfl impl_prime_powerSum_strip rfl rfl ?_
  refine a_st (σ' := ⟨[(0, (.int .i64 a0)), (1, (.int .i64 a1)), (2, (.int .i64 a2))], []⟩) (by kernel_rfl) ?_
  unfold impl_prime_powerSum_c
  refine a_seq ?_
  refine a_region ?_
  refine a_val (v := (eSi64 ([]))) (u := []) rfl trivial rfl ?_
  refine a_nil ?_
  refine a_next (σ' := ⟨[(0, (.int .i64 a0)), (1, (.int .i64 a1)), (2, (.int .i64 a2))], []⟩) (by kernel_rfl) ?_
  refine a_seq ?_
  refine a_region ?_
  refine a_val (v := (eSi64 ([]))) (u := []) rfl trivial rfl ?_
  refine a_nil ?_
  refine a_next (σ' := ⟨[(0, (.int .i64 a0)), (1, (.int .i64 a1)), (2, (.int .i64 a2)), (7, (eSi64 ([])))], []⟩) (by kernel_rfl) ?_
  obtain ⟨y31, hy32, hk33⟩ := bind_some h
  clear h
  refine a_join (emb := fun (s : (List Int)) => ⟨[(7, (eSi64 s))], []⟩) (pre := fun s => s = y31) ?_ ?_
  · rintro x30 rfl
    have h := hk33
    refine a_st (σ' := ⟨[(7, (eSi64 x30))], []⟩) (by kernel_rfl) ?_
    refine a_seq ?_
    refine a_region ?_
    refine a_val (v := (eSi64 x30)) (u := []) rfl trivial rfl ?_
    refine a_val (v := (eSi64 x30)) (u := []) rfl trivial rfl ?_
    refine a_nil ?_
    refine a_next rfl ?_
    refine a_ret ?_
    refine ⟨.inr rfl, ?_⟩
    rw [Try.results57]
    cases h
    exact ⟨_, _, _, _, _, rfl, trivial, .inl ⟨rfl, .inl rfl⟩, rfl, rfl⟩
  · have h := hy32
    refine a_seq ?_
    refine a_region ?_
    refine a_val (v := (.int .i64 a0)) (u := []) rfl trivial rfl ?_
    refine a_val (v := (.int .i64 a1)) (u := []) rfl trivial rfl ?_
    obtain ⟨r34, hr35, h⟩ := bind_some h
    refine a_call (args := [(.int .i64 a0), (.int .i64 a1)]) (u := []) (r := (eSSi64 r34)) rfl rfl (impl_prime_monics_ok a0 a1 r34 hr35) rfl ?_
    refine a_val (v := (.int .i64 (r34.length : Int))) (u := []) (len_run rfl rfl) trivial rfl ?_
    refine a_val (v := (.int .i64 0)) (u := []) rfl trivial rfl ?_
    refine a_nil ?_
    refine a_next (σ' := ⟨[(0, (.int .i64 a0)), (2, (.int .i64 a2)), (7, (eSi64 ([]))), (12, (eSSi64 r34)), (13, (.int .i64 (r34.length : Int))), (14, (.int .i64 0))], []⟩) (by kernel_rfl) ?_
    refine a_block ?_
    refine a_loop (emb := fun (s : ((List Int) × Int)) => ⟨[(0, (.int .i64 a0)), (2, (.int .i64 a2)), (7, (eSi64 s.1)), (12, (eSSi64 r34)), (13, (.int .i64 (r34.length : Int))), (14, (.int .i64 s.2))], []⟩) (body := (fun s : ((List Int) × Int) => impl_prime_powerSum_l1 r34 a0 a2 s.1 s.2)) (G := fun q => some q = some y31) h rfl ?_ (by kernel_rfl)
    rintro X52 ⟨x43, x44⟩ x53 h hX54
    have h : impl_prime_powerSum_l1 r34 a0 a2 x43 x44 = some x53 := h
    refine a_st (σ' := ⟨[(0, (.int .i64 a0)), (2, (.int .i64 a2)), (7, (eSi64 x43)), (12, (eSSi64 r34)), (13, (.int .i64 (r34.length : Int))), (14, (.int .i64 x44))], []⟩) (by kernel_rfl) ?_
    refine a_seq ?_
    refine a_region ?_
    refine a_val (v := (.bool ((decide (x44 < (r34.length : Int)))))) (u := []) rfl trivial rfl ?_
    refine a_nil ?_
    refine a_next (σ' := ⟨[(0, (.int .i64 a0)), (2, (.int .i64 a2)), (7, (eSi64 x43)), (12, (eSSi64 r34)), (13, (.int .i64 (r34.length : Int))), (14, (.int .i64 x44)), (15, (.bool ((decide (x44 < (r34.length : Int))))))], []⟩) (by kernel_rfl) ?_
    refine a_seq ?_
    cases hb55 : (decide (x44 < (r34.length : Int)))
    · have h := ite_f hb55 h
      refine a_cond_f rfl ?_
      refine a_exit ?_
      refine t_exit ?_
      cases h
      have h := hX54
      refine t_exit ?_
      refine b_exit ?_
      exact j_leaf x43 (Option.some.inj h) (by kernel_rfl)
    · have h := ite_t hb55 h
      refine a_cond_t rfl ?_
      refine a_skip ?_
      refine a_next (σ' := ⟨[(0, (.int .i64 a0)), (2, (.int .i64 a2)), (7, (eSi64 x43)), (12, (eSSi64 r34)), (13, (.int .i64 (r34.length : Int))), (14, (.int .i64 x44))], []⟩) (by kernel_rfl) ?_
      refine a_seq ?_
      refine a_block ?_
      refine a_seq ?_
      refine a_region ?_
      obtain ⟨hc56, h⟩ := ifp_some h
      refine a_val (v := (.ref (.row 1 (r34.map eSi64)) [x44.toNat] [x44.toNat * 1])) (u := []) rfl (lmap hc56) rfl ?_
      have hl57 : LdOk [x44.toNat] (.row 1 (r34.map eSi64)) [x44.toNat * 1] 1 false (eSi64 (rd r34 x44.toNat)) := (.row (llt hc56) rfl (.nil rfl rfl rfl))
      refine a_val (v := (eSi64 (rd r34 x44.toNat))) (u := []) (ld_ref (i := ⟨.slice 2, 1, 24, (eSi64 [])⟩) rfl rfl hl57) hl57.c rfl ?_
      refine a_val (v := (eSi64 (rd r34 x44.toNat))) (u := []) rfl trivial rfl ?_
      refine a_nil ?_
      refine a_next (σ' := ⟨[(0, (.int .i64 a0)), (2, (.int .i64 a2)), (7, (eSi64 x43)), (9, (eSi64 (rd r34 x44.toNat))), (12, (eSSi64 r34)), (13, (.int .i64 (r34.length : Int))), (14, (.int .i64 x44))], []⟩) (by kernel_rfl) ?_
      refine a_region ?_
      refine a_val (v := (.int .i64 a0)) (u := []) rfl trivial rfl ?_
      refine a_val (v := (eSi64 x43)) (u := []) rfl trivial rfl ?_
      refine a_val (v := (.int .i64 a0)) (u := []) rfl trivial rfl ?_
      refine a_val (v := (eSi64 (rd r34 x44.toNat))) (u := []) rfl trivial rfl ?_
      refine a_val (v := (.int .i64 a2)) (u := []) rfl trivial rfl ?_
      obtain ⟨r58, hr59, h⟩ := bind_some h
      refine a_call (args := [(.int .i64 a0), (eSi64 (rd r34 x44.toNat)), (.int .i64 a2)]) (u := []) (r := (eSi64 r58)) rfl rfl (impl_prime_raised_ok a0 (rd r34 x44.toNat) a2 r58 hr59) rfl ?_
      obtain ⟨r60, hr61, h⟩ := bind_some h
      refine a_call (args := [(.int .i64 a0), (eSi64 x43), (eSi64 r58), (.int .i64 1)]) (u := []) (r := (eSi64 r60)) rfl rfl (impl_prime_combine_ok a0 x43 r58 1 r60 hr61) rfl ?_
      refine a_val (v := (eSi64 r60)) (u := []) rfl trivial rfl ?_
      refine a_nil ?_
      refine b_norm ?_
      refine a_next (σ' := ⟨[(0, (.int .i64 a0)), (2, (.int .i64 a2)), (7, (eSi64 r60)), (12, (eSSi64 r34)), (13, (.int .i64 (r34.length : Int))), (14, (.int .i64 x44))], []⟩) (by kernel_rfl) ?_
      refine a_region ?_
      refine a_val (v := (.int .i64 (IntKind.i64.wrap (x44 + 1)))) (u := []) rfl trivial rfl ?_
      refine a_val (v := (.int .i64 (IntKind.i64.wrap (x44 + 1)))) (u := []) rfl trivial rfl ?_
      refine a_nil ?_
      cases h
      exact a_again (by kernel_rfl) hX54
def spec_l08Sum_c : ACode := (.seq (.region 0 [⟨some 6, .alloc 23, none, []⟩, ⟨some 7, .asg 0 (.const (.bool false)) 4, none, []⟩] false) (.seq (.region 1 [⟨some 12, .build 23 [], none, []⟩, ⟨some 8, .alloc 23, none, []⟩, ⟨none, .store 23 (.tmp 8) (.tmp 12), none, []⟩] false) (.seq (.seq (.region 2 [⟨some 13, .mov (.tmp 1), none, []⟩, ⟨some 14, .mov (.tmp 2), none, []⟩, ⟨some 15, .bin .mul 2 (.tmp 13) (.tmp 14), none, []⟩, ⟨some 16, .bin .gtr 2 (.tmp 15) (.const (.int .i64 63)), none, []⟩] false) (.cond (.tmp 16) (.seq (.region 3 [⟨some 17, .load 23 (.tmp 8), none, []⟩, ⟨none, .store 23 (.tmp 6) (.tmp 17), none, []⟩, ⟨some 7, .asg 0 (.const (.bool false)) 4, none, []⟩] false) .ret) .skip)) (.seq (.seq (.region 4 [⟨some 18, .mov (.tmp 0), none, []⟩, ⟨some 19, .mov (.tmp 1), none, []⟩, ⟨some 20, .call 0 (.func 75) [(.tmp 18), (.tmp 19)], none, []⟩, ⟨some 9, .asg 0 (.tmp 20) 2, none, []⟩] false) (.block 0 (.loop (.seq (.seq (.region 5 [⟨some 21, .mov (.tmp 9), none, []⟩, ⟨some 22, .mov (.tmp 0), none, []⟩, ⟨some 23, .mov (.tmp 1), none, []⟩, ⟨some 24, .call 0 (.func 75) [(.tmp 22), (.tmp 23)], none, []⟩, ⟨some 25, .bin .mul 2 (.const (.int .i64 2)) (.tmp 24), none, []⟩, ⟨some 26, .bin .lss 2 (.tmp 21) (.tmp 25), none, []⟩] false) (.cond (.tmp 26) .skip (.exit 0))) (.seq (.block 1 (.seq (.region 7 [⟨some 30, .mov (.tmp 0), none, []⟩, ⟨some 31, .mov (.tmp 0), none, []⟩, ⟨some 32, .mov (.tmp 9), none, []⟩, ⟨some 33, .call 0 (.func 95) [(.tmp 31), (.tmp 32)], none, []⟩, ⟨some 34, .mov (.tmp 2), none, []⟩, ⟨some 35, .call 0 (.func 96) [(.tmp 30), (.tmp 33), (.tmp 34)], none, []⟩, ⟨some 29, .mov (.tmp 35), none, []⟩, ⟨some 36, .extract (.tmp 29) 0, none, []⟩, ⟨some 37, .extract (.tmp 29) 1, none, []⟩, ⟨some 10, .alloc 23, none, []⟩, ⟨none, .store 23 (.tmp 10) (.tmp 36), none, []⟩, ⟨some 11, .asg 0 (.tmp 37) 4, none, []⟩] false) (.region 8 [⟨some 38, .mov (.tmp 0), none, []⟩, ⟨some 39, .load 23 (.tmp 8), none, []⟩, ⟨some 40, .load 23 (.tmp 10), none, []⟩, ⟨some 41, .call 0 (.func 51) [(.tmp 38), (.tmp 39), (.tmp 40), (.const (.int .i64 1))], none, []⟩, ⟨none, .store 23 (.tmp 8) (.tmp 41), none, []⟩] false))) (.region 6 [⟨some 27, .mov (.tmp 9), none, []⟩, ⟨some 28, .bin .add 2 (.tmp 27) (.const (.int .i64 1)), none, []⟩, ⟨some 9, .asg 0 (.tmp 28) 2, none, []⟩] false)))))) (.seq (.region 9 [⟨some 42, .load 23 (.tmp 8), none, []⟩, ⟨none, .store 23 (.tmp 6) (.tmp 42), none, []⟩, ⟨some 7, .asg 0 (.const (.bool true)) 4, none, []⟩] false) .ret)))))
def spec_l08Sum_L : Live := [(0, [0, 1, 2]), (1, [0, 1, 2, 6]), (2, [0, 1, 2, 6, 8]), (3, [6, 8]), (4, [0, 1, 2, 6, 8]), (5, [0, 1, 2, 6, 8, 9]), (6, [0, 1, 2, 6, 8, 9]), (7, [0, 1, 2, 6, 8, 9]), (8, [0, 1, 2, 6, 8, 9, 10]), (9, [6, 8]), (100016, [0, 1, 2, 6, 8, 16]), (100026, [0, 1, 2, 6, 8, 9, 26])]
theorem spec_l08Sum_body : Try.f50.body = some (Try.f50.body.getD .skip) := by kernel_rfl
theorem spec_l08Sum_strip : strip [] (Try.f50.body.getD .skip) = spec_l08Sum_c := by kernel_rfl
noncomputable def spec_l08Sum_l1 (a0 : Int) (a1 : Int) (a2 : Int) (x69 : Int) (x70 : (Vec Int 64)) : Option ((Int × (Vec Int 64)) ⊕ (Vec Int 64)) :=
  (Option.bind (spec_l01Count a0 a1) fun r87 => (if (decide (x69 < (IntKind.i64.wrap (2 * r87)))) then (Option.bind (spec_l01Of a0 x69) fun r90 => (Option.bind (spec_l08Power a0 r90 a2) fun r92 => (Option.bind (spec_l01Add a0 x70 r92.1 1) fun r97 => (some (.inl ((IntKind.i64.wrap (x69 + 1), r97))))))) else (some (.inr x70))))
noncomputable def spec_l08Sum (a0 : Int) (a1 : Int) (a2 : Int) : Option ((Vec Int 64) × Bool) :=
  (if (decide ((IntKind.i64.wrap (a1 * a2)) > 63)) then (some (((vrep 64 (0 : Int)), false))) else (Option.bind (α := (Vec Int 64)) ((Option.bind (spec_l01Count a0 a1) fun r54 => (loopM (fun s : (Int × (Vec Int 64)) => spec_l08Sum_l1 a0 a1 a2 s.1 s.2) (r54, (vrep 64 (0 : Int)))))) fun x50 => (some (x50, true))))
set_option maxHeartbeats 16000000 in
theorem spec_l08Sum_ok (a0 : Int) (a1 : Int) (a2 : Int) (r : ((Vec Int 64) × Bool)) (h : spec_l08Sum a0 a1 a2 = some r) : Den Try.prog 50 [(.int .i64 a0), (.int .i64 a1), (.int .i64 a2)] { r := (.tuple [(eA64u8 r.1), (.bool r.2)]) } := by
  refine den_of (rs := [(eA64u8 r.1), (.bool r.2)]) (ac := spec_l08Sum_c) (L := spec_l08Sum_L) (n := 43) (m := []) good Try.func50 spec_l08Sum_body (by kernel_rfl) Try.ntmps50 rfl rfl spec_l08Sum_strip rfl rfl ?_
  refine a_st (σ' := ⟨[(0, (.int .i64 a0)), (1, (.int .i64 a1)), (2, (.int .i64 a2))], []⟩) (by kernel_rfl) ?_
  unfold spec_l08Sum_c
  refine a_seq ?_
  refine a_region ?_
  refine a_val (v := (.own 1600 [] [])) (u := [(1600, some ⟨(eA64u8 ((vrep 64 (0 : Int)))), false⟩)]) rfl trivial rfl ?_
  refine a_val (v := (.bool false)) (u := []) rfl trivial rfl ?_
  refine a_nil ?_
  refine a_next (σ' := ⟨[(0, (.int .i64 a0)), (1, (.int .i64 a1)), (2, (.int .i64 a2)), (6, (.own 6 [] []))], [(6, some ⟨(eA64u8 ((vrep 64 (0 : Int)))), false⟩)]⟩) (by kernel_rfl) ?_
  refine a_seq ?_
  refine a_region ?_
  refine a_val (v := (eA64u8 ((vrep 64 (0 : Int))))) (u := []) rfl ⟨⟨_, rfl, rfl⟩, all_nil⟩ rfl ?_
  refine a_val (v := (.own 1800 [] [])) (u := [(1800, some ⟨(eA64u8 ((vrep 64 (0 : Int)))), false⟩)]) rfl trivial rfl ?_
  have hs1 : StOk [] (eA64u8 ((vrep 64 (0 : Int)))) [] 64 (eA64u8 ((vrep 64 (0 : Int)))) (eA64u8 ((vrep 64 (0 : Int)))) := (.nil rfl rfl rfl rfl)
  refine a_val (v := .top) (u := [(1800, some ⟨(eA64u8 ((vrep 64 (0 : Int)))), false⟩)]) (st_own (i := ⟨.arr 64 5, 64, 64, (eA64u8 (vrep 64 (0 : Int)))⟩) rfl rfl (fun _ => rfl) rfl hs1) (hs1.c rfl) rfl ?_
  refine a_nil ?_
  refine a_next (σ' := ⟨[(0, (.int .i64 a0)), (1, (.int .i64 a1)), (2, (.int .i64 a2)), (6, (.own 6 [] [])), (8, (.own 8 [] []))], [(6, some ⟨(eA64u8 ((vrep 64 (0 : Int)))), false⟩), (8, some ⟨(eA64u8 ((vrep 64 (0 : Int)))), false⟩)]⟩) (by kernel_rfl) ?_
  refine a_seq ?_
  refine a_seq ?_
  refine a_region ?_
  refine a_val (v := (.int .i64 a1)) (u := []) rfl trivial rfl ?_
  refine a_val (v := (.int .i64 a2)) (u := []) rfl trivial rfl ?_
  refine a_val (v := (.int .i64 (IntKind.i64.wrap (a1 * a2)))) (u := []) rfl trivial rfl ?_
  refine a_val (v := (.bool ((decide ((IntKind.i64.wrap (a1 * a2)) > 63))))) (u := []) rfl trivial rfl ?_
  refine a_nil ?_
  refine a_next (σ' := ⟨[(0, (.int .i64 a0)), (1, (.int .i64 a1)), (2, (.int .i64 a2)), (6, (.own 6 [] [])), (8, (.own 8 [] [])), (16, (.bool ((decide ((IntKind.i64.wrap (a1 * a2)) > 63)))))], [(6, some ⟨(eA64u8 ((vrep 64 (0 : Int)))), false⟩), (8, some ⟨(eA64u8 ((vrep 64 (0 : Int)))), false⟩)]⟩) (by kernel_rfl) ?_
  cases hb2 : (decide ((IntKind.i64.wrap (a1 * a2)) > 63))
  · have h := ite_f hb2 h
    refine a_cond_f rfl ?_
    refine a_skip ?_
    refine a_next (σ' := ⟨[(0, (.int .i64 a0)), (1, (.int .i64 a1)), (2, (.int .i64 a2)), (6, (.own 6 [] [])), (8, (.own 8 [] []))], [(6, some ⟨(eA64u8 ((vrep 64 (0 : Int)))), false⟩), (8, some ⟨(eA64u8 ((vrep 64 (0 : Int)))), false⟩)]⟩) (by kernel_rfl) ?_
    obtain ⟨y51, hy52, hk53⟩ := bind_some h
    clear h
    refine a_join (emb := fun (s : (Vec Int 64)) => ⟨[(6, (.own 6 [] [])), (8, (.own 8 [] []))], [(6, some ⟨(eA64u8 ((vrep 64 (0 : Int)))), false⟩), (8, some ⟨(eA64u8 s), false⟩)]⟩) (pre := fun s => s = y51) ?_ ?_
    · rintro x50 rfl
      have h := hk53
      refine a_st (σ' := ⟨[(6, (.own 6 [] [])), (8, (.own 8 [] []))], [(6, some ⟨(eA64u8 ((vrep 64 (0 : Int)))), false⟩), (8, some ⟨(eA64u8 x50), false⟩)]⟩) (by kernel_rfl) ?_
      refine a_seq ?_
      refine a_region ?_
      have hl101 : LdOk [] (eA64u8 x50) [] 64 true (eA64u8 x50) := (.nil rfl rfl rfl)
      refine a_val (v := (eA64u8 x50)) (u := []) (ld_own (i := ⟨.arr 64 5, 64, 64, (eA64u8 (vrep 64 (0 : Int)))⟩) rfl rfl rfl hl101) hl101.c rfl ?_
      have hs102 : StOk [] (eA64u8 ((vrep 64 (0 : Int)))) [] 64 (eA64u8 x50) (eA64u8 x50) := (.nil rfl rfl rfl rfl)
      refine a_val (v := .top) (u := [(6, some ⟨(eA64u8 x50), false⟩)]) (st_own (i := ⟨.arr 64 5, 64, 64, (eA64u8 (vrep 64 (0 : Int)))⟩) rfl rfl (fun _ => rfl) rfl hs102) (hs102.c rfl) rfl ?_
      refine a_val (v := (.bool true)) (u := []) rfl trivial rfl ?_
      refine a_nil ?_
      refine a_next rfl ?_
      refine a_ret ?_
      have hl103 : LdOk [] (eA64u8 x50) [] 64 true (eA64u8 x50) := (.nil rfl rfl rfl)
      refine ⟨.inr rfl, ?_⟩
      rw [Try.results50]
      cases h
      exact ⟨_, _, _, _, _, ld_own (i := ⟨.arr 64 5, 64, 64, (eA64u8 (vrep 64 (0 : Int)))⟩) rfl rfl rfl hl103, hl103.c, .inl ⟨rfl, .inl rfl⟩, rfl, ⟨_, _, _, _, _, rfl, trivial, .inl ⟨rfl, .inl rfl⟩, rfl, rfl⟩⟩
    · have h := hy52
      refine a_seq ?_
      refine a_region ?_
      refine a_val (v := (.int .i64 a0)) (u := []) rfl trivial rfl ?_
      refine a_val (v := (.int .i64 a1)) (u := []) rfl trivial rfl ?_
      obtain ⟨r54, hr55, h⟩ := bind_some h
      refine a_call (args := [(.int .i64 a0), (.int .i64 a1)]) (u := []) (r := (.int .i64 r54)) rfl rfl (spec_l01Count_ok a0 a1 r54 hr55) rfl ?_
      refine a_val (v := (.int .i64 r54)) (u := []) rfl trivial rfl ?_
      refine a_nil ?_
      refine a_next (σ' := ⟨[(0, (.int .i64 a0)), (1, (.int .i64 a1)), (2, (.int .i64 a2)), (6, (.own 6 [] [])), (8, (.own 8 [] [])), (9, (.int .i64 r54))], [(6, some ⟨(eA64u8 ((vrep 64 (0 : Int)))), false⟩), (8, some ⟨(eA64u8 ((vrep 64 (0 : Int)))), false⟩)]⟩) (by kernel_rfl) ?_
      refine a_block ?_
      refine a_loop (emb := fun (s : (Int × (Vec Int 64))) => ⟨[(0, (.int .i64 a0)), (1, (.int .i64 a1)), (2, (.int .i64 a2)), (6, (.own 6 [] [])), (8, (.own 8 [] [])), (9, (.int .i64 s.1))], [(6, some ⟨(eA64u8 ((vrep 64 (0 : Int)))), false⟩), (8, some ⟨(eA64u8 s.2), false⟩)]⟩) (body := (fun s : (Int × (Vec Int 64)) => spec_l08Sum_l1 a0 a1 a2 s.1 s.2)) (G := fun q => some q = some y51) h rfl ?_ (by kernel_rfl)
      rintro X84 ⟨x69, x70⟩ x85 h hX86
      have h : spec_l08Sum_l1 a0 a1 a2 x69 x70 = some x85 := h
      refine a_st (σ' := ⟨[(0, (.int .i64 a0)), (1, (.int .i64 a1)), (2, (.int .i64 a2)), (6, (.own 6 [] [])), (8, (.own 8 [] [])), (9, (.int .i64 x69))], [(6, some ⟨(eA64u8 ((vrep 64 (0 : Int)))), false⟩), (8, some ⟨(eA64u8 x70), false⟩)]⟩) (by kernel_rfl) ?_
      refine a_seq ?_
      refine a_seq ?_
      refine a_region ?_
      refine a_val (v := (.int .i64 x69)) (u := []) rfl trivial rfl ?_
      refine a_val (v := (.int .i64 a0)) (u := []) rfl trivial rfl ?_
      refine a_val (v := (.int .i64 a1)) (u := []) rfl trivial rfl ?_
      obtain ⟨r87, hr88, h⟩ := bind_some h
      refine a_call (args := [(.int .i64 a0), (.int .i64 a1)]) (u := []) (r := (.int .i64 r87)) rfl rfl (spec_l01Count_ok a0 a1 r87 hr88) rfl ?_
      refine a_val (v := (.int .i64 (IntKind.i64.wrap (2 * r87)))) (u := []) rfl trivial rfl ?_
      refine a_val (v := (.bool ((decide (x69 < (IntKind.i64.wrap (2 * r87))))))) (u := []) rfl trivial rfl ?_
      refine a_nil ?_
      refine a_next (σ' := ⟨[(0, (.int .i64 a0)), (1, (.int .i64 a1)), (2, (.int .i64 a2)), (6, (.own 6 [] [])), (8, (.own 8 [] [])), (9, (.int .i64 x69)), (26, (.bool ((decide (x69 < (IntKind.i64.wrap (2 * r87)))))))], [(6, some ⟨(eA64u8 ((vrep 64 (0 : Int)))), false⟩), (8, some ⟨(eA64u8 x70), false⟩)]⟩) (by kernel_rfl) ?_
      cases hb89 : (decide (x69 < (IntKind.i64.wrap (2 * r87))))
      · have h := ite_f hb89 h
        refine a_cond_f rfl ?_
        refine a_exit ?_
        refine t_exit ?_
        cases h
        have h := hX86
        refine t_exit ?_
        refine b_exit ?_
        exact j_leaf x70 (Option.some.inj h) (by kernel_rfl)
      · have h := ite_t hb89 h
        refine a_cond_t rfl ?_
        refine a_skip ?_
        refine a_next (σ' := ⟨[(0, (.int .i64 a0)), (1, (.int .i64 a1)), (2, (.int .i64 a2)), (6, (.own 6 [] [])), (8, (.own 8 [] [])), (9, (.int .i64 x69))], [(6, some ⟨(eA64u8 ((vrep 64 (0 : Int)))), false⟩), (8, some ⟨(eA64u8 x70), false⟩)]⟩) (by kernel_rfl) ?_
        refine a_seq ?_
        refine a_block ?_
        refine a_seq ?_
        refine a_region ?_
        refine a_val (v := (.int .i64 a0)) (u := []) rfl trivial rfl ?_
        refine a_val (v := (.int .i64 a0)) (u := []) rfl trivial rfl ?_
        refine a_val (v := (.int .i64 x69)) (u := []) rfl trivial rfl ?_
        obtain ⟨r90, hr91, h⟩ := bind_some h
        refine a_call (args := [(.int .i64 a0), (.int .i64 x69)]) (u := []) (r := (eA64u8 r90)) rfl rfl (spec_l01Of_ok a0 x69 r90 hr91) rfl ?_
        refine a_val (v := (.int .i64 a2)) (u := []) rfl trivial rfl ?_
        obtain ⟨r92, hr93, h⟩ := bind_some h
        refine a_call (args := [(.int .i64 a0), (eA64u8 r90), (.int .i64 a2)]) (u := []) (r := (.tuple [(eA64u8 r92.1), (.bool r92.2)])) rfl rfl (spec_l08Power_ok a0 r90 a2 r92 hr93) rfl ?_
        refine a_val (v := (.tuple [(eA64u8 r92.1), (.bool r92.2)])) (u := []) rfl trivial rfl ?_
        refine a_val (v := (eA64u8 r92.1)) (u := []) rfl (Nat.le_of_ble_eq_true rfl) rfl ?_
        refine a_val (v := (.bool r92.2)) (u := []) rfl (Nat.le_of_ble_eq_true rfl) rfl ?_
        refine a_val (v := (.own 2000 [] [])) (u := [(2000, some ⟨(eA64u8 ((vrep 64 (0 : Int)))), false⟩)]) rfl trivial rfl ?_
        have hs94 : StOk [] (eA64u8 ((vrep 64 (0 : Int)))) [] 64 (eA64u8 r92.1) (eA64u8 r92.1) := (.nil rfl rfl rfl rfl)
        refine a_val (v := .top) (u := [(2000, some ⟨(eA64u8 r92.1), false⟩)]) (st_own (i := ⟨.arr 64 5, 64, 64, (eA64u8 (vrep 64 (0 : Int)))⟩) rfl rfl (fun _ => rfl) rfl hs94) (hs94.c rfl) rfl ?_
        refine a_val (v := (.bool r92.2)) (u := []) rfl trivial rfl ?_
        refine a_nil ?_
        refine a_next (σ' := ⟨[(0, (.int .i64 a0)), (1, (.int .i64 a1)), (2, (.int .i64 a2)), (6, (.own 6 [] [])), (8, (.own 8 [] [])), (9, (.int .i64 x69)), (10, (.own 10 [] []))], [(6, some ⟨(eA64u8 ((vrep 64 (0 : Int)))), false⟩), (8, some ⟨(eA64u8 x70), false⟩), (10, some ⟨(eA64u8 r92.1), false⟩)]⟩) (by kernel_rfl) ?_
        refine a_region ?_
        refine a_val (v := (.int .i64 a0)) (u := []) rfl trivial rfl ?_
        have hl95 : LdOk [] (eA64u8 x70) [] 64 true (eA64u8 x70) := (.nil rfl rfl rfl)
        refine a_val (v := (eA64u8 x70)) (u := []) (ld_own (i := ⟨.arr 64 5, 64, 64, (eA64u8 (vrep 64 (0 : Int)))⟩) rfl rfl rfl hl95) hl95.c rfl ?_
        have hl96 : LdOk [] (eA64u8 r92.1) [] 64 true (eA64u8 r92.1) := (.nil rfl rfl rfl)
        refine a_val (v := (eA64u8 r92.1)) (u := []) (ld_own (i := ⟨.arr 64 5, 64, 64, (eA64u8 (vrep 64 (0 : Int)))⟩) rfl rfl rfl hl96) hl96.c rfl ?_
        obtain ⟨r97, hr98, h⟩ := bind_some h
        refine a_call (args := [(.int .i64 a0), (eA64u8 x70), (eA64u8 r92.1), (.int .i64 1)]) (u := []) (r := (eA64u8 r97)) rfl rfl (spec_l01Add_ok a0 x70 r92.1 1 r97 hr98) rfl ?_
        have hs99 : StOk [] (eA64u8 x70) [] 64 (eA64u8 r97) (eA64u8 r97) := (.nil rfl rfl rfl rfl)
        refine a_val (v := .top) (u := [(8, some ⟨(eA64u8 r97), false⟩)]) (st_own (i := ⟨.arr 64 5, 64, 64, (eA64u8 (vrep 64 (0 : Int)))⟩) rfl rfl (fun _ => rfl) rfl hs99) (hs99.c rfl) rfl ?_
        refine a_nil ?_
        refine b_norm ?_
        refine a_next (σ' := ⟨[(0, (.int .i64 a0)), (1, (.int .i64 a1)), (2, (.int .i64 a2)), (6, (.own 6 [] [])), (8, (.own 8 [] [])), (9, (.int .i64 x69))], [(6, some ⟨(eA64u8 ((vrep 64 (0 : Int)))), false⟩), (8, some ⟨(eA64u8 r97), false⟩)]⟩) (by kernel_rfl) ?_
        refine a_region ?_
        refine a_val (v := (.int .i64 x69)) (u := []) rfl trivial rfl ?_
        refine a_val (v := (.int .i64 (IntKind.i64.wrap (x69 + 1)))) (u := []) rfl trivial rfl ?_
        refine a_val (v := (.int .i64 (IntKind.i64.wrap (x69 + 1)))) (u := []) rfl trivial rfl ?_
        refine a_nil ?_
        cases h
        exact a_again (by kernel_rfl) hX86
  · have h := ite_t hb2 h
    refine a_cond_t rfl ?_
    refine a_seq ?_
    refine a_region ?_
    have hl104 : LdOk [] (eA64u8 ((vrep 64 (0 : Int)))) [] 64 true (eA64u8 ((vrep 64 (0 : Int)))) := (.nil rfl rfl rfl)
    refine a_val (v := (eA64u8 ((vrep 64 (0 : Int))))) (u := []) (ld_own (i := ⟨.arr 64 5, 64, 64, (eA64u8 (vrep 64 (0 : Int)))⟩) rfl rfl rfl hl104) hl104.c rfl ?_
    have hs105 : StOk [] (eA64u8 ((vrep 64 (0 : Int)))) [] 64 (eA64u8 ((vrep 64 (0 : Int)))) (eA64u8 ((vrep 64 (0 : Int)))) := (.nil rfl rfl rfl rfl)
    refine a_val (v := .top) (u := [(6, some ⟨(eA64u8 ((vrep 64 (0 : Int)))), false⟩)]) (st_own (i := ⟨.arr 64 5, 64, 64, (eA64u8 (vrep 64 (0 : Int)))⟩) rfl rfl (fun _ => rfl) rfl hs105) (hs105.c rfl) rfl ?_
    refine a_val (v := (.bool false)) (u := []) rfl trivial rfl ?_
    refine a_nil ?_
    refine a_next rfl ?_
    refine a_ret ?_
    refine t_ret ?_
    have hl106 : LdOk [] (eA64u8 ((vrep 64 (0 : Int)))) [] 64 true (eA64u8 ((vrep 64 (0 : Int)))) := (.nil rfl rfl rfl)
    refine ⟨.inr rfl, ?_⟩
    rw [Try.results50]
    cases h
    exact ⟨_, _, _, _, _, ld_own (i := ⟨.arr 64 5, 64, 64, (eA64u8 (vrep 64 (0 : Int)))⟩) rfl rfl rfl hl106, hl106.c, .inl ⟨rfl, .inl rfl⟩, rfl, ⟨_, _, _, _, _, rfl, trivial, .inl ⟨rfl, .inl rfl⟩, rfl, rfl⟩⟩
def slices_Clone_impl_row_int64_fresh_c : ACode := (.seq (.region 0 [⟨some 2, .asg 2 (.const (.slice none 0 0)) 64, none, []⟩] false) (.seq (.seq (.region 1 [⟨some 3, .mov (.tmp 0), none, []⟩, ⟨some 4, .bin .eql 64 (.tmp 3) (.const (.slice none 0 0)), none, []⟩] false) (.cond (.tmp 4) (.seq (.region 2 [⟨some 2, .asg 2 (.const (.slice none 0 0)) 64, none, []⟩] false) .ret) .skip)) (.seq (.region 3 [⟨some 5, .bslice 0 64 0 [], none, []⟩, ⟨some 6, .mov (.tmp 0), none, []⟩, ⟨some 7, .blt 0 .append [(.tmp 5), (.tmp 6)] [64, 64], none, []⟩, ⟨some 2, .asg 2 (.tmp 7) 64, none, []⟩] false) .ret)))
def slices_Clone_impl_row_int64_fresh_L : Live := [(0, [0]), (1, [0]), (2, []), (3, [0]), (100004, [0, 4])]
theorem slices_Clone_impl_row_int64_fresh_body : Try.f121.body = some (Try.f121.body.getD .skip) := by kernel_rfl
theorem slices_Clone_impl_row_int64_fresh_strip : strip [(2, 2)] (Try.f121.body.getD .skip) = slices_Clone_impl_row_int64_fresh_c := by kernel_rfl
noncomputable def slices_Clone_impl_row_int64_fresh (a0 : (List Int)) : Option (List Int) :=
  (ifc (a0 = [] → ((some ([]))) = ((ifp ((([] : List Int).length + a0.length) * 8 ≤ 140737488355328) ((some ((([] : List Int) ++ a0))))))) ((ifp ((([] : List Int).length + a0.length) * 8 ≤ 140737488355328) ((some ((([] : List Int) ++ a0)))))))
set_option maxHeartbeats 16000000 in
theorem slices_Clone_impl_row_int64_fresh_ok (a0 : (List Int)) (r : (List Int)) (h : slices_Clone_impl_row_int64_fresh a0 = some r) : Den Try.prog 121 [(eSi64 a0)] { r := (.osl 2000000), ms := [], fs := [(1, r.map (AV.int .i64))] } := by
  refine den_ofX (rs := [(.osl 2000000)]) (ac := slices_Clone_impl_row_int64_fresh_c) (L := slices_Clone_impl_row_int64_fresh_L) (n := 8) (m := [(2, 2)]) good Try.func121 slices_Clone_impl_row_int64_fresh_body (by kernel_rfl) Try.ntmps121 rfl rfl slices_Clone_impl_row_int64_fresh_strip rfl ?_
  refine a_st (σ' := ⟨[(0, (eSi64 a0))], []⟩) (by kernel_rfl) ?_
  unfold slices_Clone_impl_row_int64_fresh_c
  refine a_seq ?_
  refine a_region ?_
  refine a_val (v := (.osl 1200)) (u := [(1200, some ⟨(.row 1 (([]).map (AV.int .i64))), false⟩)]) rfl trivial rfl ?_
  refine a_nil ?_
  refine a_next (σ' := ⟨[(0, (eSi64 a0))], []⟩) (by kernel_rfl) ?_
  refine a_seq ?_
  refine a_seq ?_
  refine a_region ?_
  refine a_val (v := (eSi64 a0)) (u := []) rfl trivial rfl ?_
  obtain ⟨hq2, h⟩ := ifc_some h
  refine a_split (v := .bool true) (v' := .bool false) rfl rfl (fun hn3 => ?_) ?_
  · have h := (hq2 (List.map_eq_nil_iff.1 hn3)).trans h
    refine a_nil ?_
    refine a_next (σ' := ⟨[(0, (eSi64 a0)), (4, (.bool true))], []⟩) (by kernel_rfl) ?_
    refine a_cond_t rfl ?_
    refine a_seq ?_
    refine a_region ?_
    refine a_val (v := (.osl 1200)) (u := [(1200, some ⟨(.row 1 (([]).map (AV.int .i64))), false⟩)]) rfl trivial rfl ?_
    refine a_nil ?_
    refine a_next rfl ?_
    refine a_ret ?_
    refine t_ret ?_
    refine ⟨.inr rfl, ?_⟩
    rw [Try.results121]
    cases h
    exact ⟨[some 1200], ⟨_, _, _, _, _, rfl, trivial, rfl, .inr (.inl ⟨_, _, _, _, _, rfl, rfl, rfl, rfl, rfl, ⟨rfl, rfl, rfl⟩⟩)⟩, rfl, rfl⟩
  · skip
    refine a_nil ?_
    refine a_next (σ' := ⟨[(0, (eSi64 a0)), (4, (.bool false))], []⟩) (by kernel_rfl) ?_
    refine a_cond_f rfl ?_
    refine a_skip ?_
    refine a_next (σ' := ⟨[(0, (eSi64 a0))], []⟩) (by kernel_rfl) ?_
    refine a_seq ?_
    refine a_region ?_
    refine a_val (v := (.sl 1 true (([]).map (AV.int .i64)))) (u := []) rfl ⟨(Nat.le_of_ble_eq_true rfl), (Nat.le_of_ble_eq_true rfl), all_nil⟩ rfl ?_
    refine a_val (v := (eSi64 a0)) (u := []) rfl trivial rfl ?_
    obtain ⟨hc1, h⟩ := ifp_some h
    refine a_val (v := (.osl 1700)) (u := [(1700, some ⟨(.row 1 (((([] : List Int) ++ a0)).map (AV.int .i64))), false⟩)]) (appt_run (i := ⟨.int .i64, 1, 8, (.int .i64 0)⟩) (f := (AV.int .i64)) (l := []) (l2 := a0) rfl rfl rfl rfl (fun _ => rfl) rfl) (appt_c (f := (AV.int .i64)) (s := 1) (sz := 1) (sz' := 1) (by' := 8) hc1 (.inl rfl) (.inl rfl) (.inr rfl) rfl rfl) rfl ?_
    refine a_val (v := (.osl 1700)) (u := []) rfl trivial rfl ?_
    refine a_nil ?_
    refine a_next rfl ?_
    refine a_ret ?_
    refine ⟨.inr rfl, ?_⟩
    rw [Try.results121]
    cases h
    exact ⟨[some 1700], ⟨_, _, _, _, _, rfl, trivial, rfl, .inr (.inl ⟨_, _, _, _, _, rfl, rfl, rfl, rfl, rfl, ⟨rfl, rfl, rfl⟩⟩)⟩, rfl, rfl⟩
def impl_prime_inverse_c : ACode := (.seq (.region 0 [⟨some 4, .asg 0 (.const (.int .i64 0)) 2, none, []⟩] false) (.seq (.region 1 [⟨some 5, .asg 0 (.const (.int .i64 1)) 2, none, []⟩] false) (.seq (.seq (.region 2 [⟨some 6, .mov (.tmp 0), none, []⟩, ⟨some 7, .bin .sub 2 (.tmp 6) (.const (.int .i64 2)), none, []⟩, ⟨some 8, .mov (.const (.int .i64 0)), none, []⟩] false) (.block 0 (.loop (.seq (.region 3 [⟨some 9, .bin .lss 2 (.tmp 8) (.tmp 7), none, []⟩] false) (.seq (.cond (.tmp 9) .skip (.exit 0)) (.seq (.block 1 (.region 4 [⟨some 10, .mov (.tmp 5), none, []⟩, ⟨some 11, .mov (.tmp 1), none, []⟩, ⟨some 12, .bin .mul 2 (.tmp 10) (.tmp 11), none, []⟩, ⟨some 13, .mov (.tmp 0), none, []⟩, ⟨some 14, .bin .rem 2 (.tmp 12) (.tmp 13), none, []⟩, ⟨some 5, .asg 0 (.tmp 14) 2, none, []⟩] false)) (.region 5 [⟨some 15, .bin .add 2 (.tmp 8) (.const (.int .i64 1)), none, []⟩, ⟨some 8, .mov (.tmp 15), none, []⟩] false))))))) (.seq (.region 6 [⟨some 16, .mov (.tmp 5), none, []⟩, ⟨some 4, .asg 0 (.tmp 16) 2, none, []⟩] false) .ret))))
def impl_prime_inverse_L : Live := [(0, [0, 1]), (1, [0, 1]), (2, [0, 1, 5]), (3, [0, 1, 5, 7, 8]), (4, [0, 1, 5, 7, 8]), (5, [0, 1, 5, 7, 8]), (6, [5]), (100009, [0, 1, 5, 7, 8, 9])]
theorem impl_prime_inverse_body : Try.f122.body = some (Try.f122.body.getD .skip) := by kernel_rfl
theorem impl_prime_inverse_strip : strip [] (Try.f122.body.getD .skip) = impl_prime_inverse_c := by kernel_rfl
noncomputable def impl_prime_inverse_l1 (a0 : Int) (a1 : Int) (x19 : Int) (x20 : Int) : Option ((Int × Int) ⊕ Int) :=
  (if (decide (x20 < (IntKind.i64.wrap (a0 - 2)))) then (ifp (a0 ≠ 0) ((some (.inl ((Int.tmod (IntKind.i64.wrap (x19 * a1)) a0, IntKind.i64.wrap (x20 + 1))))))) else (some (.inr x19)))
noncomputable def impl_prime_inverse (a0 : Int) (a1 : Int) : Option Int :=
  (Option.bind (α := Int) ((loopM (fun s : (Int × Int) => impl_prime_inverse_l1 a0 a1 s.1 s.2) (1, 0))) fun x13 => (some x13))
set_option maxHeartbeats 16000000 in
theorem impl_prime_inverse_ok (a0 : Int) (a1 : Int) (r : Int) (h : impl_prime_inverse a0 a1 = some r) : Den Try.prog 122 [(.int .i64 a0), (.int .i64 a1)] { r := (.int .i64 r) } := by
  refine den_of (rs := [(.int .i64 r)]) (ac := impl_prime_inverse_c) (L := impl_prime_inverse_L) (n := 17) (m := []) good Try.func122 impl_prime_inverse_body (by kernel_rfl) Try.ntmps122 rfl rfl impl_prime_inverse_strip rfl rfl ?_
  refine a_st (σ' := ⟨[(0, (.int .i64 a0)), (1, (.int .i64 a1))], []⟩) (by kernel_rfl) ?_
  unfold impl_prime_inverse_c
  refine a_seq ?_
  refine a_region ?_
  refine a_val (v := (.int .i64 0)) (u := []) rfl trivial rfl ?_
  refine a_nil ?_
  refine a_next (σ' := ⟨[(0, (.int .i64 a0)), (1, (.int .i64 a1))], []⟩) (by kernel_rfl) ?_
  refine a_seq ?_
  refine a_region ?_
  refine a_val (v := (.int .i64 1)) (u := []) rfl trivial rfl ?_
  refine a_nil ?_
  refine a_next (σ' := ⟨[(0, (.int .i64 a0)), (1, (.int .i64 a1)), (5, (.int .i64 1))], []⟩) (by kernel_rfl) ?_
  obtain ⟨y14, hy15, hk16⟩ := bind_some h
  clear h
  refine a_join (emb := fun (s : Int) => ⟨[(5, (.int .i64 s))], []⟩) (pre := fun s => s = y14) ?_ ?_
  · rintro x13 rfl
    have h := hk16
    refine a_st (σ' := ⟨[(5, (.int .i64 x13))], []⟩) (by kernel_rfl) ?_
    refine a_seq ?_
    refine a_region ?_
    refine a_val (v := (.int .i64 x13)) (u := []) rfl trivial rfl ?_
    refine a_val (v := (.int .i64 x13)) (u := []) rfl trivial rfl ?_
    refine a_nil ?_
    refine a_next rfl ?_
    refine a_ret ?_
    refine ⟨.inr rfl, ?_⟩
    rw [Try.results122]
    cases h
    exact ⟨_, _, _, _, _, rfl, trivial, .inl ⟨rfl, .inl rfl⟩, rfl, rfl⟩
  · have h := hy15
    refine a_seq ?_
    refine a_region ?_
    refine a_val (v := (.int .i64 a0)) (u := []) rfl trivial rfl ?_
    refine a_val (v := (.int .i64 (IntKind.i64.wrap (a0 - 2)))) (u := []) rfl trivial rfl ?_
    refine a_val (v := (.int .i64 0)) (u := []) rfl trivial rfl ?_
    refine a_nil ?_
    refine a_next (σ' := ⟨[(0, (.int .i64 a0)), (1, (.int .i64 a1)), (5, (.int .i64 1)), (7, (.int .i64 (IntKind.i64.wrap (a0 - 2)))), (8, (.int .i64 0))], []⟩) (by kernel_rfl) ?_
    refine a_block ?_
    refine a_loop (emb := fun (s : (Int × Int)) => ⟨[(0, (.int .i64 a0)), (1, (.int .i64 a1)), (5, (.int .i64 s.1)), (7, (.int .i64 (IntKind.i64.wrap (a0 - 2)))), (8, (.int .i64 s.2))], []⟩) (body := (fun s : (Int × Int) => impl_prime_inverse_l1 a0 a1 s.1 s.2)) (G := fun q => some q = some y14) h rfl ?_ (by kernel_rfl)
    rintro X23 ⟨x19, x20⟩ x24 h hX25
    have h : impl_prime_inverse_l1 a0 a1 x19 x20 = some x24 := h
    refine a_st (σ' := ⟨[(0, (.int .i64 a0)), (1, (.int .i64 a1)), (5, (.int .i64 x19)), (7, (.int .i64 (IntKind.i64.wrap (a0 - 2)))), (8, (.int .i64 x20))], []⟩) (by kernel_rfl) ?_
    refine a_seq ?_
    refine a_region ?_
    refine a_val (v := (.bool ((decide (x20 < (IntKind.i64.wrap (a0 - 2))))))) (u := []) rfl trivial rfl ?_
    refine a_nil ?_
    refine a_next (σ' := ⟨[(0, (.int .i64 a0)), (1, (.int .i64 a1)), (5, (.int .i64 x19)), (7, (.int .i64 (IntKind.i64.wrap (a0 - 2)))), (8, (.int .i64 x20)), (9, (.bool ((decide (x20 < (IntKind.i64.wrap (a0 - 2)))))))], []⟩) (by kernel_rfl) ?_
    refine a_seq ?_
    cases hb26 : (decide (x20 < (IntKind.i64.wrap (a0 - 2))))
    · have h := ite_f hb26 h
      refine a_cond_f rfl ?_
      refine a_exit ?_
      refine t_exit ?_
      cases h
      have h := hX25
      refine t_exit ?_
      refine b_exit ?_
      exact j_leaf x19 (Option.some.inj h) (by kernel_rfl)
    · have h := ite_t hb26 h
      refine a_cond_t rfl ?_
      refine a_skip ?_
      refine a_next (σ' := ⟨[(0, (.int .i64 a0)), (1, (.int .i64 a1)), (5, (.int .i64 x19)), (7, (.int .i64 (IntKind.i64.wrap (a0 - 2)))), (8, (.int .i64 x20))], []⟩) (by kernel_rfl) ?_
      refine a_seq ?_
      refine a_block ?_
      refine a_region ?_
      refine a_val (v := (.int .i64 x19)) (u := []) rfl trivial rfl ?_
      refine a_val (v := (.int .i64 a1)) (u := []) rfl trivial rfl ?_
      refine a_val (v := (.int .i64 (IntKind.i64.wrap (x19 * a1)))) (u := []) rfl trivial rfl ?_
      refine a_val (v := (.int .i64 a0)) (u := []) rfl trivial rfl ?_
      obtain ⟨hc27, h⟩ := ifp_some h
      refine a_val (v := (.int .i64 (Int.tmod (IntKind.i64.wrap (x19 * a1)) a0))) (u := []) rfl hc27 rfl ?_
      refine a_val (v := (.int .i64 (Int.tmod (IntKind.i64.wrap (x19 * a1)) a0))) (u := []) rfl trivial rfl ?_
      refine a_nil ?_
      refine b_norm ?_
      refine a_next (σ' := ⟨[(0, (.int .i64 a0)), (1, (.int .i64 a1)), (5, (.int .i64 (Int.tmod (IntKind.i64.wrap (x19 * a1)) a0))), (7, (.int .i64 (IntKind.i64.wrap (a0 - 2)))), (8, (.int .i64 x20))], []⟩) (by kernel_rfl) ?_
      refine a_region ?_
      refine a_val (v := (.int .i64 (IntKind.i64.wrap (x20 + 1)))) (u := []) rfl trivial rfl ?_
      refine a_val (v := (.int .i64 (IntKind.i64.wrap (x20 + 1)))) (u := []) rfl trivial rfl ?_
      refine a_nil ?_
      cases h
      exact a_again (by kernel_rfl) hX25
end Go.Proofs.Ytgodhgbnjlflmaa
