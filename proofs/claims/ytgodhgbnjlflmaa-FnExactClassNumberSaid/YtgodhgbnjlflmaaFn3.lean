/- Functions of the program: plain Lean functions, and that the program computes them. Printed by gen.py. -/
import Derived.Test.YtgodhgbnjlflmaaFnT
import Derived.Test.YtgodhgbnjlflmaaFn1
import Derived.Test.YtgodhgbnjlflmaaFn2
namespace Go.Proofs.Ytgodhgbnjlflmaa
open Go.Abs Go.Proofs
set_option linter.unusedSimpArgs false
set_option linter.unusedVariables false
attribute [local irreducible] Abs.acode Abs.aops Abs.aopsT Abs.thenK Abs.blockK

def spec_l01Gcd_c : ACode := (.seq (.region 0 [⟨some 4, .box 23 (.tmp 1), none, []⟩, ⟨some 5, .box 23 (.tmp 2), none, []⟩, ⟨some 6, .alloc 23, none, []⟩] false) (.seq (.seq (.region 1 [⟨some 10, .load 23 (.tmp 4), none, []⟩, ⟨some 11, .call 0 (.func 83) [(.tmp 10)], none, []⟩, ⟨some 12, .bin .lss 2 (.tmp 11) (.const (.int .i64 0)), none, []⟩, ⟨some 13, .mov (.tmp 12), none, []⟩, ⟨some 14, .load 23 (.tmp 5), some (13, true), []⟩, ⟨some 15, .call 0 (.func 83) [(.tmp 14)], some (13, true), []⟩, ⟨some 16, .bin .lss 2 (.tmp 15) (.const (.int .i64 0)), some (13, true), []⟩, ⟨some 17, .pick (.tmp 13) (.tmp 16) (.const (.bool false)), none, []⟩] false) (.cond (.tmp 17) (.seq (.region 2 [⟨some 18, .build 23 [], none, []⟩, ⟨none, .store 23 (.tmp 6) (.tmp 18), none, []⟩] false) .ret) .skip)) (.seq (.region 3 [⟨some 20, .mov (.tmp 0), none, []⟩, ⟨some 21, .load 23 (.tmp 4), none, []⟩, ⟨some 22, .load 23 (.tmp 5), none, []⟩, ⟨some 23, .call 0 (.func 144) [(.tmp 20), (.tmp 21), (.tmp 22)], none, []⟩, ⟨some 19, .mov (.tmp 23), none, []⟩, ⟨some 24, .extract (.tmp 19) 0, none, []⟩, ⟨some 25, .extract (.tmp 19) 1, none, []⟩, ⟨some 26, .extract (.tmp 19) 2, none, []⟩, ⟨some 7, .alloc 23, none, []⟩, ⟨some 8, .alloc 23, none, []⟩, ⟨some 9, .alloc 23, none, []⟩, ⟨none, .store 23 (.tmp 7) (.tmp 24), none, []⟩, ⟨none, .store 23 (.tmp 8) (.tmp 25), none, []⟩, ⟨none, .store 23 (.tmp 9) (.tmp 26), none, []⟩] false) (.seq (.region 4 [⟨some 27, .load 23 (.tmp 7), none, []⟩, ⟨none, .store 23 (.tmp 6) (.tmp 27), none, []⟩] false) .ret))))
def spec_l01Gcd_L : Live := [(0, [0, 1, 2]), (1, [0, 4, 5, 6]), (2, [6]), (3, [0, 4, 5, 6]), (4, [6, 7]), (100017, [0, 4, 5, 6, 17])]
theorem spec_l01Gcd_body : Try.f126.body = some (Try.f126.body.getD .skip) := by kernel_rfl
theorem spec_l01Gcd_strip : strip [] (Try.f126.body.getD .skip) = spec_l01Gcd_c := by kernel_rfl
noncomputable def spec_l01Gcd (a0 : Int) (a1 : (Vec Int 64)) (a2 : (Vec Int 64)) : Option (Vec Int 64) :=
  (Option.bind (α := Bool) ((Option.bind (spec_l01Deg a1) fun r13 => (if (decide (r13 < 0)) then (Option.bind (spec_l01Deg a2) fun r17 => (some ((decide (r17 < 0))))) else (some false)))) fun x8 => (if x8 then (some ((vrep 64 (0 : Int)))) else (Option.bind (spec_l01Bezout a0 a1 a2) fun r22 => (some r22.1))))
set_option maxHeartbeats 16000000 in
theorem spec_l01Gcd_ok (a0 : Int) (a1 : (Vec Int 64)) (a2 : (Vec Int 64)) (r : (Vec Int 64)) (h : spec_l01Gcd a0 a1 a2 = some r) : Den Try.prog 126 [(.int .i64 a0), (eA64u8 a1), (eA64u8 a2)] { r := (eA64u8 r) } := by
  refine den_of (rs := [(eA64u8 r)]) (ac := spec_l01Gcd_c) (L := spec_l01Gcd_L) (n := 28) (m := []) good Try.func126 spec_l01Gcd_body (by kernel_rfl) Try.ntmps126 rfl rfl spec_l01Gcd_strip rfl rfl ?_
  refine a_st (σ' := ⟨[(0, (.int .i64 a0)), (1, (eA64u8 a1)), (2, (eA64u8 a2))], []⟩) (by kernel_rfl) ?_
  unfold spec_l01Gcd_c
  refine a_seq ?_
  refine a_region ?_
  refine a_val (v := (.own 1400 [] [])) (u := [(1400, some ⟨(eA64u8 a1), false⟩)]) rfl trivial rfl ?_
  refine a_val (v := (.own 1500 [] [])) (u := [(1500, some ⟨(eA64u8 a2), false⟩)]) rfl trivial rfl ?_
  refine a_val (v := (.own 1600 [] [])) (u := [(1600, some ⟨(eA64u8 ((vrep 64 (0 : Int)))), false⟩)]) rfl trivial rfl ?_
  refine a_nil ?_
  refine a_next (σ' := ⟨[(0, (.int .i64 a0)), (4, (.own 4 [] [])), (5, (.own 5 [] [])), (6, (.own 6 [] []))], [(4, some ⟨(eA64u8 a1), false⟩), (5, some ⟨(eA64u8 a2), false⟩), (6, some ⟨(eA64u8 ((vrep 64 (0 : Int)))), false⟩)]⟩) (by kernel_rfl) ?_
  refine a_seq ?_
  obtain ⟨y9, hy10, hk11⟩ := bind_some h
  clear h
  refine a_join (emb := fun (s : Bool) => ⟨[(0, (.int .i64 a0)), (4, (.own 4 [] [])), (5, (.own 5 [] [])), (6, (.own 6 [] [])), (17, (.bool s))], [(4, some ⟨(eA64u8 a1), false⟩), (5, some ⟨(eA64u8 a2), false⟩), (6, some ⟨(eA64u8 ((vrep 64 (0 : Int)))), false⟩)]⟩) (pre := fun s => s = y9) ?_ ?_
  · rintro x8 rfl
    have h := hk11
    refine a_st (σ' := ⟨[(0, (.int .i64 a0)), (4, (.own 4 [] [])), (5, (.own 5 [] [])), (6, (.own 6 [] [])), (17, (.bool x8))], [(4, some ⟨(eA64u8 a1), false⟩), (5, some ⟨(eA64u8 a2), false⟩), (6, some ⟨(eA64u8 ((vrep 64 (0 : Int)))), false⟩)]⟩) (by kernel_rfl) ?_
    cases hb19 : x8
    · have h := ite_f hb19 h
      refine a_cond_f rfl ?_
      refine a_skip ?_
      refine a_next (σ' := ⟨[(0, (.int .i64 a0)), (4, (.own 4 [] [])), (5, (.own 5 [] [])), (6, (.own 6 [] []))], [(4, some ⟨(eA64u8 a1), false⟩), (5, some ⟨(eA64u8 a2), false⟩), (6, some ⟨(eA64u8 ((vrep 64 (0 : Int)))), false⟩)]⟩) (by kernel_rfl) ?_
      refine a_seq ?_
      refine a_region ?_
      refine a_val (v := (.int .i64 a0)) (u := []) rfl trivial rfl ?_
      have hl20 : LdOk [] (eA64u8 a1) [] 64 true (eA64u8 a1) := (.nil rfl rfl rfl)
      refine a_val (v := (eA64u8 a1)) (u := []) (ld_own (i := ⟨.arr 64 5, 64, 64, (eA64u8 (vrep 64 (0 : Int)))⟩) rfl rfl rfl hl20) hl20.c rfl ?_
      have hl21 : LdOk [] (eA64u8 a2) [] 64 true (eA64u8 a2) := (.nil rfl rfl rfl)
      refine a_val (v := (eA64u8 a2)) (u := []) (ld_own (i := ⟨.arr 64 5, 64, 64, (eA64u8 (vrep 64 (0 : Int)))⟩) rfl rfl rfl hl21) hl21.c rfl ?_
      obtain ⟨r22, hr23, h⟩ := bind_some h
      refine a_call (args := [(.int .i64 a0), (eA64u8 a1), (eA64u8 a2)]) (u := []) (r := (.tuple [(eA64u8 r22.1), (eA64u8 r22.2.1), (eA64u8 r22.2.2)])) rfl rfl (spec_l01Bezout_ok a0 a1 a2 r22 hr23) rfl ?_
      refine a_val (v := (.tuple [(eA64u8 r22.1), (eA64u8 r22.2.1), (eA64u8 r22.2.2)])) (u := []) rfl trivial rfl ?_
      refine a_val (v := (eA64u8 r22.1)) (u := []) rfl (Nat.le_of_ble_eq_true rfl) rfl ?_
      refine a_val (v := (eA64u8 r22.2.1)) (u := []) rfl (Nat.le_of_ble_eq_true rfl) rfl ?_
      refine a_val (v := (eA64u8 r22.2.2)) (u := []) rfl (Nat.le_of_ble_eq_true rfl) rfl ?_
      refine a_val (v := (.own 1700 [] [])) (u := [(1700, some ⟨(eA64u8 ((vrep 64 (0 : Int)))), false⟩)]) rfl trivial rfl ?_
      refine a_val (v := (.own 1800 [] [])) (u := [(1800, some ⟨(eA64u8 ((vrep 64 (0 : Int)))), false⟩)]) rfl trivial rfl ?_
      refine a_val (v := (.own 1900 [] [])) (u := [(1900, some ⟨(eA64u8 ((vrep 64 (0 : Int)))), false⟩)]) rfl trivial rfl ?_
      have hs24 : StOk [] (eA64u8 ((vrep 64 (0 : Int)))) [] 64 (eA64u8 r22.1) (eA64u8 r22.1) := (.nil rfl rfl rfl rfl)
      refine a_val (v := .top) (u := [(1700, some ⟨(eA64u8 r22.1), false⟩)]) (st_own (i := ⟨.arr 64 5, 64, 64, (eA64u8 (vrep 64 (0 : Int)))⟩) rfl rfl (fun _ => rfl) rfl hs24) (hs24.c rfl) rfl ?_
      have hs25 : StOk [] (eA64u8 ((vrep 64 (0 : Int)))) [] 64 (eA64u8 r22.2.1) (eA64u8 r22.2.1) := (.nil rfl rfl rfl rfl)
      refine a_val (v := .top) (u := [(1800, some ⟨(eA64u8 r22.2.1), false⟩)]) (st_own (i := ⟨.arr 64 5, 64, 64, (eA64u8 (vrep 64 (0 : Int)))⟩) rfl rfl (fun _ => rfl) rfl hs25) (hs25.c rfl) rfl ?_
      have hs26 : StOk [] (eA64u8 ((vrep 64 (0 : Int)))) [] 64 (eA64u8 r22.2.2) (eA64u8 r22.2.2) := (.nil rfl rfl rfl rfl)
      refine a_val (v := .top) (u := [(1900, some ⟨(eA64u8 r22.2.2), false⟩)]) (st_own (i := ⟨.arr 64 5, 64, 64, (eA64u8 (vrep 64 (0 : Int)))⟩) rfl rfl (fun _ => rfl) rfl hs26) (hs26.c rfl) rfl ?_
      refine a_nil ?_
      refine a_next (σ' := ⟨[(6, (.own 6 [] [])), (7, (.own 7 [] []))], [(6, some ⟨(eA64u8 ((vrep 64 (0 : Int)))), false⟩), (7, some ⟨(eA64u8 r22.1), false⟩)]⟩) (by kernel_rfl) ?_
      refine a_seq ?_
      refine a_region ?_
      have hl27 : LdOk [] (eA64u8 r22.1) [] 64 true (eA64u8 r22.1) := (.nil rfl rfl rfl)
      refine a_val (v := (eA64u8 r22.1)) (u := []) (ld_own (i := ⟨.arr 64 5, 64, 64, (eA64u8 (vrep 64 (0 : Int)))⟩) rfl rfl rfl hl27) hl27.c rfl ?_
      have hs28 : StOk [] (eA64u8 ((vrep 64 (0 : Int)))) [] 64 (eA64u8 r22.1) (eA64u8 r22.1) := (.nil rfl rfl rfl rfl)
      refine a_val (v := .top) (u := [(6, some ⟨(eA64u8 r22.1), false⟩)]) (st_own (i := ⟨.arr 64 5, 64, 64, (eA64u8 (vrep 64 (0 : Int)))⟩) rfl rfl (fun _ => rfl) rfl hs28) (hs28.c rfl) rfl ?_
      refine a_nil ?_
      refine a_next rfl ?_
      refine a_ret ?_
      have hl29 : LdOk [] (eA64u8 r22.1) [] 64 true (eA64u8 r22.1) := (.nil rfl rfl rfl)
      refine ⟨.inr rfl, ?_⟩
      rw [Try.results126]
      cases h
      exact ⟨_, _, _, _, _, ld_own (i := ⟨.arr 64 5, 64, 64, (eA64u8 (vrep 64 (0 : Int)))⟩) rfl rfl rfl hl29, hl29.c, .inl ⟨rfl, .inl rfl⟩, rfl, rfl⟩
    · have h := ite_t hb19 h
      refine a_cond_t rfl ?_
      refine a_seq ?_
      refine a_region ?_
      refine a_val (v := (eA64u8 ((vrep 64 (0 : Int))))) (u := []) rfl ⟨⟨_, rfl, rfl⟩, all_nil⟩ rfl ?_
      have hs30 : StOk [] (eA64u8 ((vrep 64 (0 : Int)))) [] 64 (eA64u8 ((vrep 64 (0 : Int)))) (eA64u8 ((vrep 64 (0 : Int)))) := (.nil rfl rfl rfl rfl)
      refine a_val (v := .top) (u := [(6, some ⟨(eA64u8 ((vrep 64 (0 : Int)))), false⟩)]) (st_own (i := ⟨.arr 64 5, 64, 64, (eA64u8 (vrep 64 (0 : Int)))⟩) rfl rfl (fun _ => rfl) rfl hs30) (hs30.c rfl) rfl ?_
      refine a_nil ?_
      refine a_next rfl ?_
      refine a_ret ?_
      refine t_ret ?_
      have hl31 : LdOk [] (eA64u8 ((vrep 64 (0 : Int)))) [] 64 true (eA64u8 ((vrep 64 (0 : Int)))) := (.nil rfl rfl rfl)
      refine ⟨.inr rfl, ?_⟩
      rw [Try.results126]
      cases h
      exact ⟨_, _, _, _, _, ld_own (i := ⟨.arr 64 5, 64, 64, (eA64u8 (vrep 64 (0 : Int)))⟩) rfl rfl rfl hl31, hl31.c, .inl ⟨rfl, .inl rfl⟩, rfl, rfl⟩
  · have h := hy10
    refine a_region ?_
    have hl12 : LdOk [] (eA64u8 a1) [] 64 true (eA64u8 a1) := (.nil rfl rfl rfl)
    refine a_val (v := (eA64u8 a1)) (u := []) (ld_own (i := ⟨.arr 64 5, 64, 64, (eA64u8 (vrep 64 (0 : Int)))⟩) rfl rfl rfl hl12) hl12.c rfl ?_
    obtain ⟨r13, hr14, h⟩ := bind_some h
    refine a_call (args := [(eA64u8 a1)]) (u := []) (r := (.int .i64 r13)) rfl rfl (spec_l01Deg_ok a1 r13 hr14) rfl ?_
    refine a_val (v := (.bool ((decide (r13 < 0))))) (u := []) rfl trivial rfl ?_
    refine a_val (v := (.bool ((decide (r13 < 0))))) (u := []) rfl trivial rfl ?_
    cases hb15 : (decide (r13 < 0))
    · have h := ite_f hb15 h
      refine a_gskip rfl ?_
      refine a_gskip rfl ?_
      refine a_gskip rfl ?_
      refine a_val (v := (.bool false)) (u := []) rfl trivial rfl ?_
      refine a_nil ?_
      exact j_leaf false (Option.some.inj h) (by kernel_rfl)
    · have h := ite_t hb15 h
      have hl16 : LdOk [] (eA64u8 a2) [] 64 true (eA64u8 a2) := (.nil rfl rfl rfl)
      refine a_gval rfl (v := (eA64u8 a2)) (u := []) (ld_own (i := ⟨.arr 64 5, 64, 64, (eA64u8 (vrep 64 (0 : Int)))⟩) rfl rfl rfl hl16) hl16.c rfl ?_
      obtain ⟨r17, hr18, h⟩ := bind_some h
      refine a_gcall rfl (args := [(eA64u8 a2)]) (u := []) (r := (.int .i64 r17)) rfl rfl (spec_l01Deg_ok a2 r17 hr18) rfl ?_
      refine a_gval rfl (v := (.bool ((decide (r17 < 0))))) (u := []) rfl trivial rfl ?_
      refine a_val (v := (.bool ((decide (r17 < 0))))) (u := []) rfl trivial rfl ?_
      refine a_nil ?_
      exact j_leaf ((decide (r17 < 0))) (Option.some.inj h) (by kernel_rfl)
def spec_l07Is_c : ACode := (.seq (.region 0 [⟨some 3, .box 23 (.tmp 1), none, []⟩, ⟨some 4, .asg 0 (.const (.bool false)) 4, none, []⟩] false) (.seq (.seq (.region 1 [⟨some 8, .mov (.tmp 0), none, []⟩, ⟨some 9, .load 23 (.tmp 3), none, []⟩, ⟨some 10, .call 0 (.func 116) [(.tmp 8), (.tmp 9)], none, []⟩, ⟨some 11, .un .not (.tmp 10), none, []⟩, ⟨some 12, .mov (.tmp 11), none, []⟩, ⟨some 13, .mov (.tmp 0), some (12, false), []⟩, ⟨some 14, .bin .eql 2 (.tmp 13) (.const (.int .i64 2)), some (12, false), []⟩, ⟨some 15, .pick (.tmp 12) (.const (.bool true)) (.tmp 14), none, []⟩] false) (.cond (.tmp 15) (.seq (.region 2 [⟨some 4, .asg 0 (.const (.bool false)) 4, none, []⟩] false) .ret) .skip)) (.seq (.region 3 [⟨some 16, .load 23 (.tmp 3), none, []⟩, ⟨some 17, .call 0 (.func 83) [(.tmp 16)], none, []⟩, ⟨some 5, .asg 0 (.tmp 17) 2, none, []⟩] false) (.seq (.seq (.region 4 [⟨some 18, .mov (.tmp 5), none, []⟩, ⟨some 19, .bin .neq 2 (.tmp 18) (.const (.int .i64 1)), none, []⟩, ⟨some 20, .mov (.tmp 19), none, []⟩, ⟨some 21, .mov (.tmp 5), some (20, true), []⟩, ⟨some 22, .bin .neq 2 (.tmp 21) (.const (.int .i64 3)), some (20, true), []⟩, ⟨some 23, .pick (.tmp 20) (.tmp 22) (.const (.bool false)), none, []⟩, ⟨some 24, .mov (.tmp 23), none, []⟩, ⟨some 25, .mov (.tmp 5), some (24, true), []⟩, ⟨some 26, .bin .neq 2 (.tmp 25) (.const (.int .i64 5)), some (24, true), []⟩, ⟨some 27, .pick (.tmp 24) (.tmp 26) (.const (.bool false)), none, []⟩] false) (.cond (.tmp 27) (.seq (.region 5 [⟨some 4, .asg 0 (.const (.bool false)) 4, none, []⟩] false) .ret) .skip)) (.seq (.region 6 [⟨some 29, .mov (.tmp 0), none, []⟩, ⟨some 30, .load 23 (.tmp 3), none, []⟩, ⟨some 31, .call 0 (.func 125) [(.tmp 29), (.tmp 30)], none, []⟩, ⟨some 28, .mov (.tmp 31), none, []⟩, ⟨some 32, .extract (.tmp 28) 0, none, []⟩, ⟨some 33, .extract (.tmp 28) 1, none, []⟩, ⟨some 6, .alloc 23, none, []⟩, ⟨none, .store 23 (.tmp 6) (.tmp 32), none, []⟩, ⟨some 7, .asg 0 (.tmp 33) 2, none, []⟩] false) (.seq (.region 7 [⟨some 34, .mov (.tmp 0), none, []⟩, ⟨some 35, .load 23 (.tmp 3), none, []⟩, ⟨some 36, .load 23 (.tmp 6), none, []⟩, ⟨some 37, .call 0 (.func 126) [(.tmp 34), (.tmp 35), (.tmp 36)], none, []⟩, ⟨some 38, .call 0 (.func 83) [(.tmp 37)], none, []⟩, ⟨some 39, .bin .eql 2 (.tmp 38) (.const (.int .i64 0)), none, []⟩, ⟨some 4, .asg 0 (.tmp 39) 4, none, []⟩] false) .ret))))))
def spec_l07Is_L : Live := [(0, [0, 1]), (1, [0, 3]), (2, []), (3, [0, 3]), (4, [0, 3, 5]), (5, []), (6, [0, 3]), (7, [0, 3, 6]), (100015, [0, 3, 15]), (100027, [0, 3, 27])]
theorem spec_l07Is_body : Try.f102.body = some (Try.f102.body.getD .skip) := by kernel_rfl
theorem spec_l07Is_strip : strip [] (Try.f102.body.getD .skip) = spec_l07Is_c := by kernel_rfl
noncomputable def spec_l07Is (a0 : Int) (a1 : (Vec Int 64)) : Option Bool :=
  (Option.bind (α := Bool) ((Option.bind (spec_l01Is a0 a1) fun r10 => (if (!r10) then (some true) else (some (a0 == 2))))) fun x5 => (if x5 then (some false) else (Option.bind (spec_l01Deg a1) fun r15 => (Option.bind (α := Bool) ((if (r15 != 1) then (if (r15 != 3) then (some (r15 != 5)) else (some false)) else (some false))) fun x19 => (if x19 then (some false) else (Option.bind (spec_DerivativeOf a0 a1) fun r27 => (Option.bind (spec_l01Gcd a0 a1 r27.1) fun r32 => (Option.bind (spec_l01Deg r32) fun r34 => (some (r34 == 0))))))))))
set_option maxHeartbeats 16000000 in
theorem spec_l07Is_ok (a0 : Int) (a1 : (Vec Int 64)) (r : Bool) (h : spec_l07Is a0 a1 = some r) : Den Try.prog 102 [(.int .i64 a0), (eA64u8 a1)] { r := (.bool r) } := by
  refine den_of (rs := [(.bool r)]) (ac := spec_l07Is_c) (L := spec_l07Is_L) (n := 40) (m := []) good Try.func102 spec_l07Is_body (by kernel_rfl) Try.ntmps102 rfl rfl spec_l07Is_strip rfl rfl ?_
  refine a_st (σ' := ⟨[(0, (.int .i64 a0)), (1, (eA64u8 a1))], []⟩) (by kernel_rfl) ?_
  unfold spec_l07Is_c
  refine a_seq ?_
  refine a_region ?_
  refine a_val (v := (.own 1300 [] [])) (u := [(1300, some ⟨(eA64u8 a1), false⟩)]) rfl trivial rfl ?_
  refine a_val (v := (.bool false)) (u := []) rfl trivial rfl ?_
  refine a_nil ?_
  refine a_next (σ' := ⟨[(0, (.int .i64 a0)), (3, (.own 3 [] []))], [(3, some ⟨(eA64u8 a1), false⟩)]⟩) (by kernel_rfl) ?_
  refine a_seq ?_
  obtain ⟨y6, hy7, hk8⟩ := bind_some h
  clear h
  refine a_join (emb := fun (s : Bool) => ⟨[(0, (.int .i64 a0)), (3, (.own 3 [] [])), (15, (.bool s))], [(3, some ⟨(eA64u8 a1), false⟩)]⟩) (pre := fun s => s = y6) ?_ ?_
  · rintro x5 rfl
    have h := hk8
    refine a_st (σ' := ⟨[(0, (.int .i64 a0)), (3, (.own 3 [] [])), (15, (.bool x5))], [(3, some ⟨(eA64u8 a1), false⟩)]⟩) (by kernel_rfl) ?_
    cases hb13 : x5
    · have h := ite_f hb13 h
      refine a_cond_f rfl ?_
      refine a_skip ?_
      refine a_next (σ' := ⟨[(0, (.int .i64 a0)), (3, (.own 3 [] []))], [(3, some ⟨(eA64u8 a1), false⟩)]⟩) (by kernel_rfl) ?_
      refine a_seq ?_
      refine a_region ?_
      have hl14 : LdOk [] (eA64u8 a1) [] 64 true (eA64u8 a1) := (.nil rfl rfl rfl)
      refine a_val (v := (eA64u8 a1)) (u := []) (ld_own (i := ⟨.arr 64 5, 64, 64, (eA64u8 (vrep 64 (0 : Int)))⟩) rfl rfl rfl hl14) hl14.c rfl ?_
      obtain ⟨r15, hr16, h⟩ := bind_some h
      refine a_call (args := [(eA64u8 a1)]) (u := []) (r := (.int .i64 r15)) rfl rfl (spec_l01Deg_ok a1 r15 hr16) rfl ?_
      refine a_val (v := (.int .i64 r15)) (u := []) rfl trivial rfl ?_
      refine a_nil ?_
      refine a_next (σ' := ⟨[(0, (.int .i64 a0)), (3, (.own 3 [] [])), (5, (.int .i64 r15))], [(3, some ⟨(eA64u8 a1), false⟩)]⟩) (by kernel_rfl) ?_
      refine a_seq ?_
      obtain ⟨y20, hy21, hk22⟩ := bind_some h
      clear h
      refine a_join (emb := fun (s : Bool) => ⟨[(0, (.int .i64 a0)), (3, (.own 3 [] [])), (27, (.bool s))], [(3, some ⟨(eA64u8 a1), false⟩)]⟩) (pre := fun s => s = y20) ?_ ?_
      · rintro x19 rfl
        have h := hk22
        refine a_st (σ' := ⟨[(0, (.int .i64 a0)), (3, (.own 3 [] [])), (27, (.bool x19))], [(3, some ⟨(eA64u8 a1), false⟩)]⟩) (by kernel_rfl) ?_
        cases hb25 : x19
        · have h := ite_f hb25 h
          refine a_cond_f rfl ?_
          refine a_skip ?_
          refine a_next (σ' := ⟨[(0, (.int .i64 a0)), (3, (.own 3 [] []))], [(3, some ⟨(eA64u8 a1), false⟩)]⟩) (by kernel_rfl) ?_
          refine a_seq ?_
          refine a_region ?_
          refine a_val (v := (.int .i64 a0)) (u := []) rfl trivial rfl ?_
          have hl26 : LdOk [] (eA64u8 a1) [] 64 true (eA64u8 a1) := (.nil rfl rfl rfl)
          refine a_val (v := (eA64u8 a1)) (u := []) (ld_own (i := ⟨.arr 64 5, 64, 64, (eA64u8 (vrep 64 (0 : Int)))⟩) rfl rfl rfl hl26) hl26.c rfl ?_
          obtain ⟨r27, hr28, h⟩ := bind_some h
          refine a_call (args := [(.int .i64 a0), (eA64u8 a1)]) (u := []) (r := (.tuple [(eA64u8 r27.1), (.int .i64 r27.2)])) rfl rfl (spec_DerivativeOf_ok a0 a1 r27 hr28) rfl ?_
          refine a_val (v := (.tuple [(eA64u8 r27.1), (.int .i64 r27.2)])) (u := []) rfl trivial rfl ?_
          refine a_val (v := (eA64u8 r27.1)) (u := []) rfl (Nat.le_of_ble_eq_true rfl) rfl ?_
          refine a_val (v := (.int .i64 r27.2)) (u := []) rfl (Nat.le_of_ble_eq_true rfl) rfl ?_
          refine a_val (v := (.own 1600 [] [])) (u := [(1600, some ⟨(eA64u8 ((vrep 64 (0 : Int)))), false⟩)]) rfl trivial rfl ?_
          have hs29 : StOk [] (eA64u8 ((vrep 64 (0 : Int)))) [] 64 (eA64u8 r27.1) (eA64u8 r27.1) := (.nil rfl rfl rfl rfl)
          refine a_val (v := .top) (u := [(1600, some ⟨(eA64u8 r27.1), false⟩)]) (st_own (i := ⟨.arr 64 5, 64, 64, (eA64u8 (vrep 64 (0 : Int)))⟩) rfl rfl (fun _ => rfl) rfl hs29) (hs29.c rfl) rfl ?_
          refine a_val (v := (.int .i64 r27.2)) (u := []) rfl trivial rfl ?_
          refine a_nil ?_
          refine a_next (σ' := ⟨[(0, (.int .i64 a0)), (3, (.own 3 [] [])), (6, (.own 6 [] []))], [(3, some ⟨(eA64u8 a1), false⟩), (6, some ⟨(eA64u8 r27.1), false⟩)]⟩) (by kernel_rfl) ?_
          refine a_seq ?_
          refine a_region ?_
          refine a_val (v := (.int .i64 a0)) (u := []) rfl trivial rfl ?_
          have hl30 : LdOk [] (eA64u8 a1) [] 64 true (eA64u8 a1) := (.nil rfl rfl rfl)
          refine a_val (v := (eA64u8 a1)) (u := []) (ld_own (i := ⟨.arr 64 5, 64, 64, (eA64u8 (vrep 64 (0 : Int)))⟩) rfl rfl rfl hl30) hl30.c rfl ?_
          have hl31 : LdOk [] (eA64u8 r27.1) [] 64 true (eA64u8 r27.1) := (.nil rfl rfl rfl)
          refine a_val (v := (eA64u8 r27.1)) (u := []) (ld_own (i := ⟨.arr 64 5, 64, 64, (eA64u8 (vrep 64 (0 : Int)))⟩) rfl rfl rfl hl31) hl31.c rfl ?_
          obtain ⟨r32, hr33, h⟩ := bind_some h
          refine a_call (args := [(.int .i64 a0), (eA64u8 a1), (eA64u8 r27.1)]) (u := []) (r := (eA64u8 r32)) rfl rfl (spec_l01Gcd_ok a0 a1 r27.1 r32 hr33) rfl ?_
          obtain ⟨r34, hr35, h⟩ := bind_some h
          refine a_call (args := [(eA64u8 r32)]) (u := []) (r := (.int .i64 r34)) rfl rfl (spec_l01Deg_ok r32 r34 hr35) rfl ?_
          refine a_val (v := (.bool (r34 == 0))) (u := []) rfl trivial rfl ?_
          refine a_val (v := (.bool (r34 == 0))) (u := []) rfl trivial rfl ?_
          refine a_nil ?_
          refine a_next rfl ?_
          refine a_ret ?_
          refine ⟨.inr rfl, ?_⟩
          rw [Try.results102]
          cases h
          exact ⟨_, _, _, _, _, rfl, trivial, .inl ⟨rfl, .inl rfl⟩, rfl, rfl⟩
        · have h := ite_t hb25 h
          refine a_cond_t rfl ?_
          refine a_seq ?_
          refine a_region ?_
          refine a_val (v := (.bool false)) (u := []) rfl trivial rfl ?_
          refine a_nil ?_
          refine a_next rfl ?_
          refine a_ret ?_
          refine t_ret ?_
          refine ⟨.inr rfl, ?_⟩
          rw [Try.results102]
          cases h
          exact ⟨_, _, _, _, _, rfl, trivial, .inl ⟨rfl, .inl rfl⟩, rfl, rfl⟩
      · have h := hy21
        refine a_region ?_
        refine a_val (v := (.int .i64 r15)) (u := []) rfl trivial rfl ?_
        refine a_val (v := (.bool (r15 != 1))) (u := []) rfl trivial rfl ?_
        refine a_val (v := (.bool (r15 != 1))) (u := []) rfl trivial rfl ?_
        cases hb23 : (r15 != 1)
        · have h := ite_f hb23 h
          refine a_gskip rfl ?_
          refine a_gskip rfl ?_
          refine a_val (v := (.bool false)) (u := []) rfl trivial rfl ?_
          refine a_val (v := (.bool false)) (u := []) rfl trivial rfl ?_
          refine a_gskip rfl ?_
          refine a_gskip rfl ?_
          refine a_val (v := (.bool false)) (u := []) rfl trivial rfl ?_
          refine a_nil ?_
          exact j_leaf false (Option.some.inj h) (by kernel_rfl)
        · have h := ite_t hb23 h
          refine a_gval rfl (v := (.int .i64 r15)) (u := []) rfl trivial rfl ?_
          refine a_gval rfl (v := (.bool (r15 != 3))) (u := []) rfl trivial rfl ?_
          refine a_val (v := (.bool (r15 != 3))) (u := []) rfl trivial rfl ?_
          refine a_val (v := (.bool (r15 != 3))) (u := []) rfl trivial rfl ?_
          cases hb24 : (r15 != 3)
          · have h := ite_f hb24 h
            refine a_gskip rfl ?_
            refine a_gskip rfl ?_
            refine a_val (v := (.bool false)) (u := []) rfl trivial rfl ?_
            refine a_nil ?_
            exact j_leaf false (Option.some.inj h) (by kernel_rfl)
          · have h := ite_t hb24 h
            refine a_gval rfl (v := (.int .i64 r15)) (u := []) rfl trivial rfl ?_
            refine a_gval rfl (v := (.bool (r15 != 5))) (u := []) rfl trivial rfl ?_
            refine a_val (v := (.bool (r15 != 5))) (u := []) rfl trivial rfl ?_
            refine a_nil ?_
            exact j_leaf (r15 != 5) (Option.some.inj h) (by kernel_rfl)
    · have h := ite_t hb13 h
      refine a_cond_t rfl ?_
      refine a_seq ?_
      refine a_region ?_
      refine a_val (v := (.bool false)) (u := []) rfl trivial rfl ?_
      refine a_nil ?_
      refine a_next rfl ?_
      refine a_ret ?_
      refine t_ret ?_
      refine ⟨.inr rfl, ?_⟩
      rw [Try.results102]
      cases h
      exact ⟨_, _, _, _, _, rfl, trivial, .inl ⟨rfl, .inl rfl⟩, rfl, rfl⟩
  · have h := hy7
    refine a_region ?_
    refine a_val (v := (.int .i64 a0)) (u := []) rfl trivial rfl ?_
    have hl9 : LdOk [] (eA64u8 a1) [] 64 true (eA64u8 a1) := (.nil rfl rfl rfl)
    refine a_val (v := (eA64u8 a1)) (u := []) (ld_own (i := ⟨.arr 64 5, 64, 64, (eA64u8 (vrep 64 (0 : Int)))⟩) rfl rfl rfl hl9) hl9.c rfl ?_
    obtain ⟨r10, hr11, h⟩ := bind_some h
    refine a_call (args := [(.int .i64 a0), (eA64u8 a1)]) (u := []) (r := (.bool r10)) rfl rfl (spec_l01Is_ok a0 a1 r10 hr11) rfl ?_
    refine a_val (v := (.bool (!r10))) (u := []) rfl trivial rfl ?_
    refine a_val (v := (.bool (!r10))) (u := []) rfl trivial rfl ?_
    cases hb12 : (!r10)
    · have h := ite_f hb12 h
      refine a_gval rfl (v := (.int .i64 a0)) (u := []) rfl trivial rfl ?_
      refine a_gval rfl (v := (.bool (a0 == 2))) (u := []) rfl trivial rfl ?_
      refine a_val (v := (.bool (a0 == 2))) (u := []) rfl trivial rfl ?_
      refine a_nil ?_
      exact j_leaf (a0 == 2) (Option.some.inj h) (by kernel_rfl)
    · have h := ite_t hb12 h
      refine a_gskip rfl ?_
      refine a_gskip rfl ?_
      refine a_val (v := (.bool true)) (u := []) rfl trivial rfl ?_
      refine a_nil ?_
      exact j_leaf true (Option.some.inj h) (by kernel_rfl)
def spec_l07Genus_c : ACode := (.seq (.region 0 [⟨some 1, .box 23 (.tmp 0), none, []⟩, ⟨some 2, .asg 0 (.const (.int .i64 0)) 2, none, []⟩] false) (.seq (.region 1 [⟨some 3, .load 23 (.tmp 1), none, []⟩, ⟨some 4, .call 0 (.func 83) [(.tmp 3)], none, []⟩, ⟨some 5, .bin .sub 2 (.tmp 4) (.const (.int .i64 1)), none, []⟩, ⟨some 6, .bin .quo 2 (.tmp 5) (.const (.int .i64 2)), none, []⟩, ⟨some 2, .asg 0 (.tmp 6) 2, none, []⟩] false) .ret))
def spec_l07Genus_L : Live := [(0, [0]), (1, [1])]
theorem spec_l07Genus_body : Try.f127.body = some (Try.f127.body.getD .skip) := by kernel_rfl
theorem spec_l07Genus_strip : strip [] (Try.f127.body.getD .skip) = spec_l07Genus_c := by kernel_rfl
noncomputable def spec_l07Genus (a0 : (Vec Int 64)) : Option Int :=
  (Option.bind (spec_l01Deg a0) fun r2 => (some (IntKind.i64.wrap (Int.tdiv (IntKind.i64.wrap (r2 - 1)) 2))))
set_option maxHeartbeats 16000000 in
theorem spec_l07Genus_ok (a0 : (Vec Int 64)) (r : Int) (h : spec_l07Genus a0 = some r) : Den Try.prog 127 [(eA64u8 a0)] { r := (.int .i64 r) } := by
  refine den_of (rs := [(.int .i64 r)]) (ac := spec_l07Genus_c) (L := spec_l07Genus_L) (n := 7) (m := []) good Try.func127 spec_l07Genus_body (by kernel_rfl) Try.ntmps127 rfl rfl spec_l07Genus_strip rfl rfl ?_
  refine a_st (σ' := ⟨[(0, (eA64u8 a0))], []⟩) (by kernel_rfl) ?_
  unfold spec_l07Genus_c
  refine a_seq ?_
  refine a_region ?_
  refine a_val (v := (.own 1100 [] [])) (u := [(1100, some ⟨(eA64u8 a0), false⟩)]) rfl trivial rfl ?_
  refine a_val (v := (.int .i64 0)) (u := []) rfl trivial rfl ?_
  refine a_nil ?_
  refine a_next (σ' := ⟨[(1, (.own 1 [] []))], [(1, some ⟨(eA64u8 a0), false⟩)]⟩) (by kernel_rfl) ?_
  refine a_seq ?_
  refine a_region ?_
  have hl1 : LdOk [] (eA64u8 a0) [] 64 true (eA64u8 a0) := (.nil rfl rfl rfl)
  refine a_val (v := (eA64u8 a0)) (u := []) (ld_own (i := ⟨.arr 64 5, 64, 64, (eA64u8 (vrep 64 (0 : Int)))⟩) rfl rfl rfl hl1) hl1.c rfl ?_
  obtain ⟨r2, hr3, h⟩ := bind_some h
  refine a_call (args := [(eA64u8 a0)]) (u := []) (r := (.int .i64 r2)) rfl rfl (spec_l01Deg_ok a0 r2 hr3) rfl ?_
  refine a_val (v := (.int .i64 (IntKind.i64.wrap (r2 - 1)))) (u := []) rfl trivial rfl ?_
  refine a_val (v := (.int .i64 (IntKind.i64.wrap (Int.tdiv (IntKind.i64.wrap (r2 - 1)) 2)))) (u := []) rfl (by decide) rfl ?_
  refine a_val (v := (.int .i64 (IntKind.i64.wrap (Int.tdiv (IntKind.i64.wrap (r2 - 1)) 2)))) (u := []) rfl trivial rfl ?_
  refine a_nil ?_
  refine a_next rfl ?_
  refine a_ret ?_
  refine ⟨.inr rfl, ?_⟩
  rw [Try.results127]
  cases h
  exact ⟨_, _, _, _, _, rfl, trivial, .inl ⟨rfl, .inl rfl⟩, rfl, rfl⟩
def spec_l01Count_c : ACode := (.seq (.region 0 [⟨some 4, .asg 0 (.const (.int .i64 0)) 2, none, []⟩] false) (.seq (.region 1 [⟨some 5, .asg 0 (.const (.int .i64 1)) 2, none, []⟩] false) (.seq (.block 0 (.loop (.seq (.seq (.region 2 [⟨some 6, .mov (.tmp 1), none, []⟩, ⟨some 7, .bin .gtr 2 (.tmp 6) (.const (.int .i64 0)), none, []⟩, ⟨some 8, .mov (.tmp 7), none, []⟩, ⟨some 9, .mov (.tmp 5), some (8, true), []⟩, ⟨some 10, .bin .leq 2 (.tmp 9) (.const (.int .i64 1000000000000)), some (8, true), []⟩, ⟨some 11, .pick (.tmp 8) (.tmp 10) (.const (.bool false)), none, []⟩] false) (.cond (.tmp 11) .skip (.exit 0))) (.seq (.block 1 (.region 4 [⟨some 14, .mov (.tmp 5), none, []⟩, ⟨some 15, .mov (.tmp 0), none, []⟩, ⟨some 16, .bin .mul 2 (.tmp 14) (.tmp 15), none, []⟩, ⟨some 5, .asg 0 (.tmp 16) 2, none, []⟩] false)) (.region 3 [⟨some 12, .mov (.tmp 1), none, []⟩, ⟨some 13, .bin .sub 2 (.tmp 12) (.const (.int .i64 1)), none, []⟩, ⟨some 1, .asg 0 (.tmp 13) 2, none, []⟩] false))))) (.seq (.region 5 [⟨some 17, .mov (.tmp 5), none, []⟩, ⟨some 18, .blt 0 .min [(.tmp 17), (.const (.int .i64 1000000000001))] [2, 2], none, []⟩, ⟨some 4, .asg 0 (.tmp 18) 2, none, []⟩] false) .ret))))
def spec_l01Count_L : Live := [(0, [0, 1]), (1, [0, 1]), (2, [0, 1, 5]), (3, [0, 1, 5]), (4, [0, 1, 5]), (5, [5]), (100011, [0, 1, 5, 11])]
theorem spec_l01Count_body : Try.f75.body = some (Try.f75.body.getD .skip) := by kernel_rfl
theorem spec_l01Count_strip : strip [] (Try.f75.body.getD .skip) = spec_l01Count_c := by kernel_rfl
noncomputable def spec_l01Count_l1 (a0 : Int) (x39 : Int) (x40 : Int) : Option ((Int × Int) ⊕ Int) :=
  (Option.bind (α := Bool) ((if (decide (x39 > 0)) then (some ((decide (x40 ≤ 1000000000000)))) else (some false))) fun x52 => (if x52 then (some (.inl ((IntKind.i64.wrap (x39 - 1), IntKind.i64.wrap (x40 * a0))))) else (some (.inr x40))))
noncomputable def spec_l01Count (a0 : Int) (a1 : Int) : Option Int :=
  (Option.bind (α := Int) ((loopM (fun s : (Int × Int) => spec_l01Count_l1 a0 s.1 s.2) (a1, 1))) fun x28 => (some (if 1000000000001 < x28 then 1000000000001 else x28)))
set_option maxHeartbeats 16000000 in
theorem spec_l01Count_ok (a0 : Int) (a1 : Int) (r : Int) (h : spec_l01Count a0 a1 = some r) : Den Try.prog 75 [(.int .i64 a0), (.int .i64 a1)] { r := (.int .i64 r) } := by
  refine den_of (rs := [(.int .i64 r)]) (ac := spec_l01Count_c) (L := spec_l01Count_L) (n := 19) (m := []) good Try.func75 spec_l01Count_body (by kernel_rfl) Try.ntmps75 rfl rfl spec_l01Count_strip rfl rfl ?_
  refine a_st (σ' := ⟨[(0, (.int .i64 a0)), (1, (.int .i64 a1))], []⟩) (by kernel_rfl) ?_
  unfold spec_l01Count_c
  refine a_seq ?_
  refine a_region ?_
  refine a_val (v := (.int .i64 0)) (u := []) rfl trivial rfl ?_
  refine a_nil ?_
  refine a_next (σ' := ⟨[(0, (.int .i64 a0)), (1, (.int .i64 a1))], []⟩) (by kernel_rfl) ?_
  refine a_seq ?_
  refine a_region ?_
  refine a_val (v := (.int .i64 1)) (u := []) rfl trivial rfl ?_
  refine a_nil ?_
  refine a_next (σ' := ⟨[(0, (.int .i64 a0)), (1, (.int .i64 a1)), (5, (.int .i64 1))], []⟩) (by kernel_rfl) ?_
  obtain ⟨y29, hy30, hk31⟩ := bind_some h
  clear h
  refine a_join (emb := fun (s : Int) => ⟨[(5, (.int .i64 s))], []⟩) (pre := fun s => s = y29) ?_ ?_
  · rintro x28 rfl
    have h := hk31
    refine a_st (σ' := ⟨[(5, (.int .i64 x28))], []⟩) (by kernel_rfl) ?_
    refine a_seq ?_
    refine a_region ?_
    refine a_val (v := (.int .i64 x28)) (u := []) rfl trivial rfl ?_
    refine a_val (v := (.int .i64 (if 1000000000001 < x28 then 1000000000001 else x28))) (u := []) rfl trivial rfl ?_
    refine a_val (v := (.int .i64 (if 1000000000001 < x28 then 1000000000001 else x28))) (u := []) rfl trivial rfl ?_
    refine a_nil ?_
    refine a_next rfl ?_
    refine a_ret ?_
    refine ⟨.inr rfl, ?_⟩
    rw [Try.results75]
    cases h
    exact ⟨_, _, _, _, _, rfl, trivial, .inl ⟨rfl, .inl rfl⟩, rfl, rfl⟩
  · have h := hy30
    refine a_block ?_
    refine a_loop (emb := fun (s : (Int × Int)) => ⟨[(0, (.int .i64 a0)), (1, (.int .i64 s.1)), (5, (.int .i64 s.2))], []⟩) (body := (fun s : (Int × Int) => spec_l01Count_l1 a0 s.1 s.2)) (G := fun q => some q = some y29) h rfl ?_ (by kernel_rfl)
    rintro X48 ⟨x39, x40⟩ x49 h hX50
    have h : spec_l01Count_l1 a0 x39 x40 = some x49 := h
    refine a_st (σ' := ⟨[(0, (.int .i64 a0)), (1, (.int .i64 x39)), (5, (.int .i64 x40))], []⟩) (by kernel_rfl) ?_
    refine a_seq ?_
    obtain ⟨y53, hy54, hk55⟩ := bind_some h
    clear h
    refine a_join (emb := fun (s : Bool) => ⟨[(0, (.int .i64 a0)), (1, (.int .i64 x39)), (5, (.int .i64 x40)), (11, (.bool s))], []⟩) (pre := fun s => s = y53) ?_ ?_
    · rintro x52 rfl
      have h := hk55
      refine a_st (σ' := ⟨[(0, (.int .i64 a0)), (1, (.int .i64 x39)), (5, (.int .i64 x40)), (11, (.bool x52))], []⟩) (by kernel_rfl) ?_
      cases hb57 : x52
      · have h := ite_f hb57 h
        refine a_cond_f rfl ?_
        refine a_exit ?_
        refine t_exit ?_
        cases h
        have h := hX50
        refine t_exit ?_
        refine b_exit ?_
        exact j_leaf x40 (Option.some.inj h) (by kernel_rfl)
      · have h := ite_t hb57 h
        refine a_cond_t rfl ?_
        refine a_skip ?_
        refine a_next (σ' := ⟨[(0, (.int .i64 a0)), (1, (.int .i64 x39)), (5, (.int .i64 x40))], []⟩) (by kernel_rfl) ?_
        refine a_seq ?_
        refine a_block ?_
        refine a_region ?_
        refine a_val (v := (.int .i64 x40)) (u := []) rfl trivial rfl ?_
        refine a_val (v := (.int .i64 a0)) (u := []) rfl trivial rfl ?_
        refine a_val (v := (.int .i64 (IntKind.i64.wrap (x40 * a0)))) (u := []) rfl trivial rfl ?_
        refine a_val (v := (.int .i64 (IntKind.i64.wrap (x40 * a0)))) (u := []) rfl trivial rfl ?_
        refine a_nil ?_
        refine b_norm ?_
        refine a_next (σ' := ⟨[(0, (.int .i64 a0)), (1, (.int .i64 x39)), (5, (.int .i64 (IntKind.i64.wrap (x40 * a0))))], []⟩) (by kernel_rfl) ?_
        refine a_region ?_
        refine a_val (v := (.int .i64 x39)) (u := []) rfl trivial rfl ?_
        refine a_val (v := (.int .i64 (IntKind.i64.wrap (x39 - 1)))) (u := []) rfl trivial rfl ?_
        refine a_val (v := (.int .i64 (IntKind.i64.wrap (x39 - 1)))) (u := []) rfl trivial rfl ?_
        refine a_nil ?_
        cases h
        exact a_again (by kernel_rfl) hX50
    · have h := hy54
      refine a_region ?_
      refine a_val (v := (.int .i64 x39)) (u := []) rfl trivial rfl ?_
      refine a_val (v := (.bool ((decide (x39 > 0))))) (u := []) rfl trivial rfl ?_
      refine a_val (v := (.bool ((decide (x39 > 0))))) (u := []) rfl trivial rfl ?_
      cases hb56 : (decide (x39 > 0))
      · have h := ite_f hb56 h
        refine a_gskip rfl ?_
        refine a_gskip rfl ?_
        refine a_val (v := (.bool false)) (u := []) rfl trivial rfl ?_
        refine a_nil ?_
        exact j_leaf false (Option.some.inj h) (by kernel_rfl)
      · have h := ite_t hb56 h
        refine a_gval rfl (v := (.int .i64 x40)) (u := []) rfl trivial rfl ?_
        refine a_gval rfl (v := (.bool ((decide (x40 ≤ 1000000000000))))) (u := []) rfl trivial rfl ?_
        refine a_val (v := (.bool ((decide (x40 ≤ 1000000000000))))) (u := []) rfl trivial rfl ?_
        refine a_nil ?_
        exact j_leaf ((decide (x40 ≤ 1000000000000))) (Option.some.inj h) (by kernel_rfl)
def spec_l01Of_c : ACode := (.seq (.region 0 [⟨some 4, .alloc 23, none, []⟩] false) (.seq (.region 1 [⟨some 7, .build 23 [], none, []⟩, ⟨some 5, .alloc 23, none, []⟩, ⟨none, .store 23 (.tmp 5) (.tmp 7), none, []⟩] false) (.seq (.seq (.region 2 [⟨some 6, .asg 0 (.const (.int .i64 0)) 3, none, []⟩] false) (.block 0 (.loop (.seq (.seq (.region 3 [⟨some 8, .mov (.tmp 1), none, []⟩, ⟨some 9, .bin .gtr 2 (.tmp 8) (.const (.int .i64 0)), none, []⟩] false) (.cond (.tmp 9) .skip (.exit 0))) (.seq (.block 1 (.seq (.region 5 [⟨some 12, .mov (.tmp 6), none, []⟩, ⟨some 13, .mov (.tmp 1), none, []⟩, ⟨some 14, .mov (.tmp 0), none, []⟩, ⟨some 15, .bin .rem 2 (.tmp 13) (.tmp 14), none, []⟩, ⟨some 16, .conv 2 5 (.tmp 15), none, []⟩, ⟨some 17, .indexAddr 23 (.tmp 5) (.tmp 12), none, []⟩, ⟨none, .store 5 (.tmp 17) (.tmp 16), none, []⟩] false) (.region 6 [⟨some 18, .mov (.tmp 1), none, []⟩, ⟨some 19, .mov (.tmp 0), none, []⟩, ⟨some 20, .bin .quo 2 (.tmp 18) (.tmp 19), none, []⟩, ⟨some 1, .asg 0 (.tmp 20) 2, none, []⟩] false))) (.region 4 [⟨some 10, .mov (.tmp 6), none, []⟩, ⟨some 11, .bin .add 3 (.tmp 10) (.const (.int .i64 1)), none, []⟩, ⟨some 6, .asg 0 (.tmp 11) 3, none, []⟩] false)))))) (.seq (.region 7 [⟨some 21, .load 23 (.tmp 5), none, []⟩, ⟨none, .store 23 (.tmp 4) (.tmp 21), none, []⟩] false) .ret))))
def spec_l01Of_L : Live := [(0, [0, 1]), (1, [0, 1, 4]), (2, [0, 1, 4, 5]), (3, [0, 1, 4, 5, 6]), (4, [0, 1, 4, 5, 6]), (5, [0, 1, 4, 5, 6]), (6, [0, 1, 4, 5, 6]), (7, [4, 5]), (100009, [0, 1, 4, 5, 6, 9])]
theorem spec_l01Of_body : Try.f95.body = some (Try.f95.body.getD .skip) := by kernel_rfl
theorem spec_l01Of_strip : strip [] (Try.f95.body.getD .skip) = spec_l01Of_c := by kernel_rfl
noncomputable def spec_l01Of_l1 (a0 : Int) (x33 : Int) (x34 : Int) (x35 : (Vec Int 64)) : Option ((Int × Int × (Vec Int 64)) ⊕ (Vec Int 64)) :=
  (if (decide (x33 > 0)) then (ifp (a0 ≠ 0) ((ifp (0 ≤ x34 ∧ x34 < ((64 : Nat) : Int)) ((ifp (a0 ≠ 0) ((some (.inl ((IntKind.i64.wrap (Int.tdiv x33 a0), IntKind.i64.wrap (x34 + 1), (vset x35 x34.toNat (IntKind.u8.wrap (Int.tmod x33 a0))))))))))))) else (some (.inr x35)))
noncomputable def spec_l01Of (a0 : Int) (a1 : Int) : Option (Vec Int 64) :=
  (Option.bind (α := (Vec Int 64)) ((loopM (fun s : (Int × Int × (Vec Int 64)) => spec_l01Of_l1 a0 s.1 s.2.1 s.2.2) (a1, 0, (vrep 64 (0 : Int))))) fun x24 => (some x24))
set_option maxHeartbeats 16000000 in
theorem spec_l01Of_ok (a0 : Int) (a1 : Int) (r : (Vec Int 64)) (h : spec_l01Of a0 a1 = some r) : Den Try.prog 95 [(.int .i64 a0), (.int .i64 a1)] { r := (eA64u8 r) } := by
  refine den_of (rs := [(eA64u8 r)]) (ac := spec_l01Of_c) (L := spec_l01Of_L) (n := 22) (m := []) good Try.func95 spec_l01Of_body (by kernel_rfl) Try.ntmps95 rfl rfl spec_l01Of_strip rfl rfl ?_
  refine a_st (σ' := ⟨[(0, (.int .i64 a0)), (1, (.int .i64 a1))], []⟩) (by kernel_rfl) ?_
  unfold spec_l01Of_c
  refine a_seq ?_
  refine a_region ?_
  refine a_val (v := (.own 1400 [] [])) (u := [(1400, some ⟨(eA64u8 ((vrep 64 (0 : Int)))), false⟩)]) rfl trivial rfl ?_
  refine a_nil ?_
  refine a_next (σ' := ⟨[(0, (.int .i64 a0)), (1, (.int .i64 a1)), (4, (.own 4 [] []))], [(4, some ⟨(eA64u8 ((vrep 64 (0 : Int)))), false⟩)]⟩) (by kernel_rfl) ?_
  refine a_seq ?_
  refine a_region ?_
  refine a_val (v := (eA64u8 ((vrep 64 (0 : Int))))) (u := []) rfl ⟨⟨_, rfl, rfl⟩, all_nil⟩ rfl ?_
  refine a_val (v := (.own 1500 [] [])) (u := [(1500, some ⟨(eA64u8 ((vrep 64 (0 : Int)))), false⟩)]) rfl trivial rfl ?_
  have hs1 : StOk [] (eA64u8 ((vrep 64 (0 : Int)))) [] 64 (eA64u8 ((vrep 64 (0 : Int)))) (eA64u8 ((vrep 64 (0 : Int)))) := (.nil rfl rfl rfl rfl)
  refine a_val (v := .top) (u := [(1500, some ⟨(eA64u8 ((vrep 64 (0 : Int)))), false⟩)]) (st_own (i := ⟨.arr 64 5, 64, 64, (eA64u8 (vrep 64 (0 : Int)))⟩) rfl rfl (fun _ => rfl) rfl hs1) (hs1.c rfl) rfl ?_
  refine a_nil ?_
  refine a_next (σ' := ⟨[(0, (.int .i64 a0)), (1, (.int .i64 a1)), (4, (.own 4 [] [])), (5, (.own 5 [] []))], [(4, some ⟨(eA64u8 ((vrep 64 (0 : Int)))), false⟩), (5, some ⟨(eA64u8 ((vrep 64 (0 : Int)))), false⟩)]⟩) (by kernel_rfl) ?_
  obtain ⟨y25, hy26, hk27⟩ := bind_some h
  clear h
  refine a_join (emb := fun (s : (Vec Int 64)) => ⟨[(4, (.own 4 [] [])), (5, (.own 5 [] []))], [(4, some ⟨(eA64u8 ((vrep 64 (0 : Int)))), false⟩), (5, some ⟨(eA64u8 s), false⟩)]⟩) (pre := fun s => s = y25) ?_ ?_
  · rintro x24 rfl
    have h := hk27
    refine a_st (σ' := ⟨[(4, (.own 4 [] [])), (5, (.own 5 [] []))], [(4, some ⟨(eA64u8 ((vrep 64 (0 : Int)))), false⟩), (5, some ⟨(eA64u8 x24), false⟩)]⟩) (by kernel_rfl) ?_
    refine a_seq ?_
    refine a_region ?_
    have hl50 : LdOk [] (eA64u8 x24) [] 64 true (eA64u8 x24) := (.nil rfl rfl rfl)
    refine a_val (v := (eA64u8 x24)) (u := []) (ld_own (i := ⟨.arr 64 5, 64, 64, (eA64u8 (vrep 64 (0 : Int)))⟩) rfl rfl rfl hl50) hl50.c rfl ?_
    have hs51 : StOk [] (eA64u8 ((vrep 64 (0 : Int)))) [] 64 (eA64u8 x24) (eA64u8 x24) := (.nil rfl rfl rfl rfl)
    refine a_val (v := .top) (u := [(4, some ⟨(eA64u8 x24), false⟩)]) (st_own (i := ⟨.arr 64 5, 64, 64, (eA64u8 (vrep 64 (0 : Int)))⟩) rfl rfl (fun _ => rfl) rfl hs51) (hs51.c rfl) rfl ?_
    refine a_nil ?_
    refine a_next rfl ?_
    refine a_ret ?_
    have hl52 : LdOk [] (eA64u8 x24) [] 64 true (eA64u8 x24) := (.nil rfl rfl rfl)
    refine ⟨.inr rfl, ?_⟩
    rw [Try.results95]
    cases h
    exact ⟨_, _, _, _, _, ld_own (i := ⟨.arr 64 5, 64, 64, (eA64u8 (vrep 64 (0 : Int)))⟩) rfl rfl rfl hl52, hl52.c, .inl ⟨rfl, .inl rfl⟩, rfl, rfl⟩
  · have h := hy26
    refine a_seq ?_
    refine a_region ?_
    refine a_val (v := (.int .i64 0)) (u := []) rfl trivial rfl ?_
    refine a_nil ?_
    refine a_next (σ' := ⟨[(0, (.int .i64 a0)), (1, (.int .i64 a1)), (4, (.own 4 [] [])), (5, (.own 5 [] [])), (6, (.int .i64 0))], [(4, some ⟨(eA64u8 ((vrep 64 (0 : Int)))), false⟩), (5, some ⟨(eA64u8 ((vrep 64 (0 : Int)))), false⟩)]⟩) (by kernel_rfl) ?_
    refine a_block ?_
    refine a_loop (emb := fun (s : (Int × Int × (Vec Int 64))) => ⟨[(0, (.int .i64 a0)), (1, (.int .i64 s.1)), (4, (.own 4 [] [])), (5, (.own 5 [] [])), (6, (.int .i64 s.2.1))], [(4, some ⟨(eA64u8 ((vrep 64 (0 : Int)))), false⟩), (5, some ⟨(eA64u8 s.2.2), false⟩)]⟩) (body := (fun s : (Int × Int × (Vec Int 64)) => spec_l01Of_l1 a0 s.1 s.2.1 s.2.2)) (G := fun q => some q = some y25) h rfl ?_ (by kernel_rfl)
    rintro X41 ⟨x33, x34, x35⟩ x42 h hX43
    have h : spec_l01Of_l1 a0 x33 x34 x35 = some x42 := h
    refine a_st (σ' := ⟨[(0, (.int .i64 a0)), (1, (.int .i64 x33)), (4, (.own 4 [] [])), (5, (.own 5 [] [])), (6, (.int .i64 x34))], [(4, some ⟨(eA64u8 ((vrep 64 (0 : Int)))), false⟩), (5, some ⟨(eA64u8 x35), false⟩)]⟩) (by kernel_rfl) ?_
    refine a_seq ?_
    refine a_seq ?_
    refine a_region ?_
    refine a_val (v := (.int .i64 x33)) (u := []) rfl trivial rfl ?_
    refine a_val (v := (.bool ((decide (x33 > 0))))) (u := []) rfl trivial rfl ?_
    refine a_nil ?_
    refine a_next (σ' := ⟨[(0, (.int .i64 a0)), (1, (.int .i64 x33)), (4, (.own 4 [] [])), (5, (.own 5 [] [])), (6, (.int .i64 x34)), (9, (.bool ((decide (x33 > 0)))))], [(4, some ⟨(eA64u8 ((vrep 64 (0 : Int)))), false⟩), (5, some ⟨(eA64u8 x35), false⟩)]⟩) (by kernel_rfl) ?_
    cases hb44 : (decide (x33 > 0))
    · have h := ite_f hb44 h
      refine a_cond_f rfl ?_
      refine a_exit ?_
      refine t_exit ?_
      cases h
      have h := hX43
      refine t_exit ?_
      refine b_exit ?_
      exact j_leaf x35 (Option.some.inj h) (by kernel_rfl)
    · have h := ite_t hb44 h
      refine a_cond_t rfl ?_
      refine a_skip ?_
      refine a_next (σ' := ⟨[(0, (.int .i64 a0)), (1, (.int .i64 x33)), (4, (.own 4 [] [])), (5, (.own 5 [] [])), (6, (.int .i64 x34))], [(4, some ⟨(eA64u8 ((vrep 64 (0 : Int)))), false⟩), (5, some ⟨(eA64u8 x35), false⟩)]⟩) (by kernel_rfl) ?_
      refine a_seq ?_
      refine a_block ?_
      refine a_seq ?_
      refine a_region ?_
      refine a_val (v := (.int .i64 x34)) (u := []) rfl trivial rfl ?_
      refine a_val (v := (.int .i64 x33)) (u := []) rfl trivial rfl ?_
      refine a_val (v := (.int .i64 a0)) (u := []) rfl trivial rfl ?_
      obtain ⟨hc45, h⟩ := ifp_some h
      refine a_val (v := (.int .i64 (Int.tmod x33 a0))) (u := []) rfl hc45 rfl ?_
      refine a_val (v := (.int .u8 (IntKind.u8.wrap (Int.tmod x33 a0)))) (u := []) rfl trivial rfl ?_
      obtain ⟨hc46, h⟩ := ifp_some h
      refine a_val (v := (.own 5 [x34.toNat] [x34.toNat * 1])) (u := []) rfl hc46 rfl ?_
      have hs47 : StOk [x34.toNat] (eA64u8 x35) [x34.toNat * 1] 1 (.int .u8 (IntKind.u8.wrap (Int.tmod x33 a0))) (eA64u8 ((vset x35 x34.toNat (IntKind.u8.wrap (Int.tmod x33 a0))))) := (.arr (y := IntKind.u8.wrap (Int.tmod x33 a0)) (vlt x35 hc46) rfl (.nil rfl rfl rfl rfl))
      refine a_val (v := .top) (u := [(5, some ⟨(eA64u8 ((vset x35 x34.toNat (IntKind.u8.wrap (Int.tmod x33 a0))))), false⟩)]) (st_own (i := ⟨.int .u8, 1, 1, (.int .u8 0)⟩) rfl rfl (fun _ => rfl) rfl hs47) (hs47.c rfl) rfl ?_
      refine a_nil ?_
      refine a_next (σ' := ⟨[(0, (.int .i64 a0)), (1, (.int .i64 x33)), (4, (.own 4 [] [])), (5, (.own 5 [] [])), (6, (.int .i64 x34))], [(4, some ⟨(eA64u8 ((vrep 64 (0 : Int)))), false⟩), (5, some ⟨(eA64u8 ((vset x35 x34.toNat (IntKind.u8.wrap (Int.tmod x33 a0))))), false⟩)]⟩) (by kernel_rfl) ?_
      refine a_region ?_
      refine a_val (v := (.int .i64 x33)) (u := []) rfl trivial rfl ?_
      refine a_val (v := (.int .i64 a0)) (u := []) rfl trivial rfl ?_
      obtain ⟨hc48, h⟩ := ifp_some h
      refine a_val (v := (.int .i64 (IntKind.i64.wrap (Int.tdiv x33 a0)))) (u := []) rfl hc48 rfl ?_
      refine a_val (v := (.int .i64 (IntKind.i64.wrap (Int.tdiv x33 a0)))) (u := []) rfl trivial rfl ?_
      refine a_nil ?_
      refine b_norm ?_
      refine a_next (σ' := ⟨[(0, (.int .i64 a0)), (1, (.int .i64 (IntKind.i64.wrap (Int.tdiv x33 a0)))), (4, (.own 4 [] [])), (5, (.own 5 [] [])), (6, (.int .i64 x34))], [(4, some ⟨(eA64u8 ((vrep 64 (0 : Int)))), false⟩), (5, some ⟨(eA64u8 ((vset x35 x34.toNat (IntKind.u8.wrap (Int.tmod x33 a0))))), false⟩)]⟩) (by kernel_rfl) ?_
      refine a_region ?_
      refine a_val (v := (.int .i64 x34)) (u := []) rfl trivial rfl ?_
      refine a_val (v := (.int .i64 (IntKind.i64.wrap (x34 + 1)))) (u := []) rfl trivial rfl ?_
      refine a_val (v := (.int .i64 (IntKind.i64.wrap (x34 + 1)))) (u := []) rfl trivial rfl ?_
      refine a_nil ?_
      cases h
      exact a_again (by kernel_rfl) hX43
def spec_l01Monic_c : ACode := (.seq (.region 0 [⟨some 1, .box 23 (.tmp 0), none, []⟩, ⟨some 2, .asg 0 (.const (.bool false)) 4, none, []⟩] false) (.seq (.region 1 [⟨some 4, .load 23 (.tmp 1), none, []⟩, ⟨some 5, .call 0 (.func 83) [(.tmp 4)], none, []⟩, ⟨some 3, .asg 0 (.tmp 5) 2, none, []⟩] false) (.seq (.region 2 [⟨some 6, .mov (.tmp 3), none, []⟩, ⟨some 7, .bin .geq 2 (.tmp 6) (.const (.int .i64 0)), none, []⟩, ⟨some 8, .mov (.tmp 7), none, []⟩, ⟨some 9, .mov (.tmp 3), some (8, true), []⟩, ⟨some 10, .indexAddr 23 (.tmp 1) (.tmp 9), some (8, true), []⟩, ⟨some 11, .load 5 (.tmp 10), some (8, true), []⟩, ⟨some 12, .bin .eql 5 (.tmp 11) (.const (.int .u8 1)), some (8, true), []⟩, ⟨some 13, .pick (.tmp 8) (.tmp 12) (.const (.bool false)), none, []⟩, ⟨some 2, .asg 0 (.tmp 13) 4, none, []⟩] false) .ret)))
def spec_l01Monic_L : Live := [(0, [0]), (1, [1]), (2, [1, 3])]
theorem spec_l01Monic_body : Try.f124.body = some (Try.f124.body.getD .skip) := by kernel_rfl
theorem spec_l01Monic_strip : strip [] (Try.f124.body.getD .skip) = spec_l01Monic_c := by kernel_rfl
noncomputable def spec_l01Monic (a0 : (Vec Int 64)) : Option Bool :=
  (Option.bind (spec_l01Deg a0) fun r2 => (if (decide (r2 ≥ 0)) then (ifp (0 ≤ r2 ∧ r2 < ((64 : Nat) : Int)) ((some (((rd a0.1 r2.toNat) == 1))))) else (some false)))
set_option maxHeartbeats 16000000 in
theorem spec_l01Monic_ok (a0 : (Vec Int 64)) (r : Bool) (h : spec_l01Monic a0 = some r) : Den Try.prog 124 [(eA64u8 a0)] { r := (.bool r) } := by
  refine den_of (rs := [(.bool r)]) (ac := spec_l01Monic_c) (L := spec_l01Monic_L) (n := 14) (m := []) good Try.func124 spec_l01Monic_body (by kernel_rfl) Try.ntmps124 rfl rfl spec_l01Monic_strip rfl rfl ?_
  refine a_st (σ' := ⟨[(0, (eA64u8 a0))], []⟩) (by kernel_rfl) ?_
  unfold spec_l01Monic_c
  refine a_seq ?_
  refine a_region ?_
  refine a_val (v := (.own 1100 [] [])) (u := [(1100, some ⟨(eA64u8 a0), false⟩)]) rfl trivial rfl ?_
  refine a_val (v := (.bool false)) (u := []) rfl trivial rfl ?_
  refine a_nil ?_
  refine a_next (σ' := ⟨[(1, (.own 1 [] []))], [(1, some ⟨(eA64u8 a0), false⟩)]⟩) (by kernel_rfl) ?_
  refine a_seq ?_
  refine a_region ?_
  have hl1 : LdOk [] (eA64u8 a0) [] 64 true (eA64u8 a0) := (.nil rfl rfl rfl)
  refine a_val (v := (eA64u8 a0)) (u := []) (ld_own (i := ⟨.arr 64 5, 64, 64, (eA64u8 (vrep 64 (0 : Int)))⟩) rfl rfl rfl hl1) hl1.c rfl ?_
  obtain ⟨r2, hr3, h⟩ := bind_some h
  refine a_call (args := [(eA64u8 a0)]) (u := []) (r := (.int .i64 r2)) rfl rfl (spec_l01Deg_ok a0 r2 hr3) rfl ?_
  refine a_val (v := (.int .i64 r2)) (u := []) rfl trivial rfl ?_
  refine a_nil ?_
  refine a_next (σ' := ⟨[(1, (.own 1 [] [])), (3, (.int .i64 r2))], [(1, some ⟨(eA64u8 a0), false⟩)]⟩) (by kernel_rfl) ?_
  refine a_seq ?_
  refine a_region ?_
  refine a_val (v := (.int .i64 r2)) (u := []) rfl trivial rfl ?_
  refine a_val (v := (.bool ((decide (r2 ≥ 0))))) (u := []) rfl trivial rfl ?_
  refine a_val (v := (.bool ((decide (r2 ≥ 0))))) (u := []) rfl trivial rfl ?_
  cases hb4 : (decide (r2 ≥ 0))
  · have h := ite_f hb4 h
    refine a_gskip rfl ?_
    refine a_gskip rfl ?_
    refine a_gskip rfl ?_
    refine a_gskip rfl ?_
    refine a_val (v := (.bool false)) (u := []) rfl trivial rfl ?_
    refine a_val (v := (.bool false)) (u := []) rfl trivial rfl ?_
    refine a_nil ?_
    refine a_next rfl ?_
    refine a_ret ?_
    refine ⟨.inr rfl, ?_⟩
    rw [Try.results124]
    cases h
    exact ⟨_, _, _, _, _, rfl, trivial, .inl ⟨rfl, .inl rfl⟩, rfl, rfl⟩
  · have h := ite_t hb4 h
    refine a_gval rfl (v := (.int .i64 r2)) (u := []) rfl trivial rfl ?_
    obtain ⟨hc5, h⟩ := ifp_some h
    refine a_gval rfl (v := (.own 1 [r2.toNat] [r2.toNat * 1])) (u := []) rfl hc5 rfl ?_
    have hl6 : LdOk [r2.toNat] (eA64u8 a0) [r2.toNat * 1] 1 false (.int .u8 (rd a0.1 r2.toNat)) := (.arr (vlt a0 hc5) rfl (.nil rfl rfl rfl))
    refine a_gval rfl (v := (.int .u8 (rd a0.1 r2.toNat))) (u := []) (ld_own (i := ⟨.int .u8, 1, 1, (.int .u8 0)⟩) rfl rfl rfl hl6) hl6.c rfl ?_
    refine a_gval rfl (v := (.bool (((rd a0.1 r2.toNat) == 1)))) (u := []) rfl trivial rfl ?_
    refine a_val (v := (.bool (((rd a0.1 r2.toNat) == 1)))) (u := []) rfl trivial rfl ?_
    refine a_val (v := (.bool (((rd a0.1 r2.toNat) == 1)))) (u := []) rfl trivial rfl ?_
    refine a_nil ?_
    refine a_next rfl ?_
    refine a_ret ?_
    refine ⟨.inr rfl, ?_⟩
    rw [Try.results124]
    cases h
    exact ⟨_, _, _, _, _, rfl, trivial, .inl ⟨rfl, .inl rfl⟩, rfl, rfl⟩
def spec_l07Square_c : ACode := (.seq (.region 0 [⟨some 4, .box 23 (.tmp 1), none, []⟩, ⟨some 5, .box 23 (.tmp 2), none, []⟩, ⟨some 6, .alloc 23, none, []⟩] false) (.seq (.region 1 [⟨some 10, .mov (.tmp 0), none, []⟩, ⟨some 11, .load 23 (.tmp 5), none, []⟩, ⟨some 12, .load 23 (.tmp 5), none, []⟩, ⟨some 13, .call 0 (.func 52) [(.tmp 10), (.tmp 11), (.tmp 12)], none, []⟩, ⟨some 9, .mov (.tmp 13), none, []⟩, ⟨some 14, .extract (.tmp 9) 0, none, []⟩, ⟨some 15, .extract (.tmp 9) 1, none, []⟩, ⟨some 7, .alloc 23, none, []⟩, ⟨none, .store 23 (.tmp 7) (.tmp 14), none, []⟩, ⟨some 8, .asg 0 (.tmp 15) 4, none, []⟩] false) (.seq (.region 2 [⟨some 16, .mov (.tmp 0), none, []⟩, ⟨some 17, .load 23 (.tmp 7), none, []⟩, ⟨some 18, .load 23 (.tmp 4), none, []⟩, ⟨some 19, .call 0 (.func 51) [(.tmp 16), (.tmp 17), (.tmp 18), (.const (.int .i64 (-1)))], none, []⟩, ⟨none, .store 23 (.tmp 6) (.tmp 19), none, []⟩] false) .ret)))
def spec_l07Square_L : Live := [(0, [0, 1, 2]), (1, [0, 4, 5, 6]), (2, [0, 4, 6, 7])]
theorem spec_l07Square_body : Try.f145.body = some (Try.f145.body.getD .skip) := by kernel_rfl
theorem spec_l07Square_strip : strip [] (Try.f145.body.getD .skip) = spec_l07Square_c := by kernel_rfl
noncomputable def spec_l07Square (a0 : Int) (a1 : (Vec Int 64)) (a2 : (Vec Int 64)) : Option (Vec Int 64) :=
  (Option.bind (spec_l01Times a0 a2 a2) fun r3 => (Option.bind (spec_l01Add a0 r3.1 a1 (-1)) fun r8 => (some r8)))
set_option maxHeartbeats 16000000 in
theorem spec_l07Square_ok (a0 : Int) (a1 : (Vec Int 64)) (a2 : (Vec Int 64)) (r : (Vec Int 64)) (h : spec_l07Square a0 a1 a2 = some r) : Den Try.prog 145 [(.int .i64 a0), (eA64u8 a1), (eA64u8 a2)] { r := (eA64u8 r) } := by
  refine den_of (rs := [(eA64u8 r)]) (ac := spec_l07Square_c) (L := spec_l07Square_L) (n := 20) (m := []) good Try.func145 spec_l07Square_body (by kernel_rfl) Try.ntmps145 rfl rfl spec_l07Square_strip rfl rfl ?_
  refine a_st (σ' := ⟨[(0, (.int .i64 a0)), (1, (eA64u8 a1)), (2, (eA64u8 a2))], []⟩) (by kernel_rfl) ?_
  unfold spec_l07Square_c
  refine a_seq ?_
  refine a_region ?_
  refine a_val (v := (.own 1400 [] [])) (u := [(1400, some ⟨(eA64u8 a1), false⟩)]) rfl trivial rfl ?_
  refine a_val (v := (.own 1500 [] [])) (u := [(1500, some ⟨(eA64u8 a2), false⟩)]) rfl trivial rfl ?_
  refine a_val (v := (.own 1600 [] [])) (u := [(1600, some ⟨(eA64u8 ((vrep 64 (0 : Int)))), false⟩)]) rfl trivial rfl ?_
  refine a_nil ?_
  refine a_next (σ' := ⟨[(0, (.int .i64 a0)), (4, (.own 4 [] [])), (5, (.own 5 [] [])), (6, (.own 6 [] []))], [(4, some ⟨(eA64u8 a1), false⟩), (5, some ⟨(eA64u8 a2), false⟩), (6, some ⟨(eA64u8 ((vrep 64 (0 : Int)))), false⟩)]⟩) (by kernel_rfl) ?_
  refine a_seq ?_
  refine a_region ?_
  refine a_val (v := (.int .i64 a0)) (u := []) rfl trivial rfl ?_
  have hl1 : LdOk [] (eA64u8 a2) [] 64 true (eA64u8 a2) := (.nil rfl rfl rfl)
  refine a_val (v := (eA64u8 a2)) (u := []) (ld_own (i := ⟨.arr 64 5, 64, 64, (eA64u8 (vrep 64 (0 : Int)))⟩) rfl rfl rfl hl1) hl1.c rfl ?_
  have hl2 : LdOk [] (eA64u8 a2) [] 64 true (eA64u8 a2) := (.nil rfl rfl rfl)
  refine a_val (v := (eA64u8 a2)) (u := []) (ld_own (i := ⟨.arr 64 5, 64, 64, (eA64u8 (vrep 64 (0 : Int)))⟩) rfl rfl rfl hl2) hl2.c rfl ?_
  obtain ⟨r3, hr4, h⟩ := bind_some h
  refine a_call (args := [(.int .i64 a0), (eA64u8 a2), (eA64u8 a2)]) (u := []) (r := (.tuple [(eA64u8 r3.1), (.bool r3.2)])) rfl rfl (spec_l01Times_ok a0 a2 a2 r3 hr4) rfl ?_
  refine a_val (v := (.tuple [(eA64u8 r3.1), (.bool r3.2)])) (u := []) rfl trivial rfl ?_
  refine a_val (v := (eA64u8 r3.1)) (u := []) rfl (Nat.le_of_ble_eq_true rfl) rfl ?_
  refine a_val (v := (.bool r3.2)) (u := []) rfl (Nat.le_of_ble_eq_true rfl) rfl ?_
  refine a_val (v := (.own 1700 [] [])) (u := [(1700, some ⟨(eA64u8 ((vrep 64 (0 : Int)))), false⟩)]) rfl trivial rfl ?_
  have hs5 : StOk [] (eA64u8 ((vrep 64 (0 : Int)))) [] 64 (eA64u8 r3.1) (eA64u8 r3.1) := (.nil rfl rfl rfl rfl)
  refine a_val (v := .top) (u := [(1700, some ⟨(eA64u8 r3.1), false⟩)]) (st_own (i := ⟨.arr 64 5, 64, 64, (eA64u8 (vrep 64 (0 : Int)))⟩) rfl rfl (fun _ => rfl) rfl hs5) (hs5.c rfl) rfl ?_
  refine a_val (v := (.bool r3.2)) (u := []) rfl trivial rfl ?_
  refine a_nil ?_
  refine a_next (σ' := ⟨[(0, (.int .i64 a0)), (4, (.own 4 [] [])), (6, (.own 6 [] [])), (7, (.own 7 [] []))], [(4, some ⟨(eA64u8 a1), false⟩), (6, some ⟨(eA64u8 ((vrep 64 (0 : Int)))), false⟩), (7, some ⟨(eA64u8 r3.1), false⟩)]⟩) (by kernel_rfl) ?_
  refine a_seq ?_
  refine a_region ?_
  refine a_val (v := (.int .i64 a0)) (u := []) rfl trivial rfl ?_
  have hl6 : LdOk [] (eA64u8 r3.1) [] 64 true (eA64u8 r3.1) := (.nil rfl rfl rfl)
  refine a_val (v := (eA64u8 r3.1)) (u := []) (ld_own (i := ⟨.arr 64 5, 64, 64, (eA64u8 (vrep 64 (0 : Int)))⟩) rfl rfl rfl hl6) hl6.c rfl ?_
  have hl7 : LdOk [] (eA64u8 a1) [] 64 true (eA64u8 a1) := (.nil rfl rfl rfl)
  refine a_val (v := (eA64u8 a1)) (u := []) (ld_own (i := ⟨.arr 64 5, 64, 64, (eA64u8 (vrep 64 (0 : Int)))⟩) rfl rfl rfl hl7) hl7.c rfl ?_
  obtain ⟨r8, hr9, h⟩ := bind_some h
  refine a_call (args := [(.int .i64 a0), (eA64u8 r3.1), (eA64u8 a1), (.int .i64 (-1))]) (u := []) (r := (eA64u8 r8)) rfl rfl (spec_l01Add_ok a0 r3.1 a1 (-1) r8 hr9) rfl ?_
  have hs10 : StOk [] (eA64u8 ((vrep 64 (0 : Int)))) [] 64 (eA64u8 r8) (eA64u8 r8) := (.nil rfl rfl rfl rfl)
  refine a_val (v := .top) (u := [(6, some ⟨(eA64u8 r8), false⟩)]) (st_own (i := ⟨.arr 64 5, 64, 64, (eA64u8 (vrep 64 (0 : Int)))⟩) rfl rfl (fun _ => rfl) rfl hs10) (hs10.c rfl) rfl ?_
  refine a_nil ?_
  refine a_next rfl ?_
  refine a_ret ?_
  have hl11 : LdOk [] (eA64u8 r8) [] 64 true (eA64u8 r8) := (.nil rfl rfl rfl)
  refine ⟨.inr rfl, ?_⟩
  rw [Try.results145]
  cases h
  exact ⟨_, _, _, _, _, ld_own (i := ⟨.arr 64 5, 64, 64, (eA64u8 (vrep 64 (0 : Int)))⟩) rfl rfl rfl hl11, hl11.c, .inl ⟨rfl, .inl rfl⟩, rfl, rfl⟩
def spec_l01Mod_c : ACode := (.seq (.region 0 [⟨some 4, .box 23 (.tmp 1), none, []⟩, ⟨some 5, .box 23 (.tmp 2), none, []⟩, ⟨some 6, .alloc 23, none, []⟩] false) (.seq (.region 1 [⟨some 10, .mov (.tmp 0), none, []⟩, ⟨some 11, .load 23 (.tmp 4), none, []⟩, ⟨some 12, .load 23 (.tmp 5), none, []⟩, ⟨some 13, .call 0 (.func 87) [(.tmp 10), (.tmp 11), (.tmp 12)], none, []⟩, ⟨some 9, .mov (.tmp 13), none, []⟩, ⟨some 14, .extract (.tmp 9) 0, none, []⟩, ⟨some 15, .extract (.tmp 9) 1, none, []⟩, ⟨some 7, .alloc 23, none, []⟩, ⟨some 8, .alloc 23, none, []⟩, ⟨none, .store 23 (.tmp 7) (.tmp 14), none, []⟩, ⟨none, .store 23 (.tmp 8) (.tmp 15), none, []⟩] false) (.seq (.region 2 [⟨some 16, .load 23 (.tmp 8), none, []⟩, ⟨none, .store 23 (.tmp 6) (.tmp 16), none, []⟩] false) .ret)))
def spec_l01Mod_L : Live := [(0, [0, 1, 2]), (1, [0, 4, 5, 6]), (2, [6, 8])]
theorem spec_l01Mod_body : Try.f85.body = some (Try.f85.body.getD .skip) := by kernel_rfl
theorem spec_l01Mod_strip : strip [] (Try.f85.body.getD .skip) = spec_l01Mod_c := by kernel_rfl
noncomputable def spec_l01Mod (a0 : Int) (a1 : (Vec Int 64)) (a2 : (Vec Int 64)) : Option (Vec Int 64) :=
  (Option.bind (spec_l01Divide a0 a1 a2) fun r3 => (some r3.2))
set_option maxHeartbeats 16000000 in
theorem spec_l01Mod_ok (a0 : Int) (a1 : (Vec Int 64)) (a2 : (Vec Int 64)) (r : (Vec Int 64)) (h : spec_l01Mod a0 a1 a2 = some r) : Den Try.prog 85 [(.int .i64 a0), (eA64u8 a1), (eA64u8 a2)] { r := (eA64u8 r) } := by
  refine den_of (rs := [(eA64u8 r)]) (ac := spec_l01Mod_c) (L := spec_l01Mod_L) (n := 17) (m := []) good Try.func85 spec_l01Mod_body (by kernel_rfl) Try.ntmps85 rfl rfl spec_l01Mod_strip rfl rfl ?_
  refine a_st (σ' := ⟨[(0, (.int .i64 a0)), (1, (eA64u8 a1)), (2, (eA64u8 a2))], []⟩) (by kernel_rfl) ?_
  unfold spec_l01Mod_c
  refine a_seq ?_
  refine a_region ?_
  refine a_val (v := (.own 1400 [] [])) (u := [(1400, some ⟨(eA64u8 a1), false⟩)]) rfl trivial rfl ?_
  refine a_val (v := (.own 1500 [] [])) (u := [(1500, some ⟨(eA64u8 a2), false⟩)]) rfl trivial rfl ?_
  refine a_val (v := (.own 1600 [] [])) (u := [(1600, some ⟨(eA64u8 ((vrep 64 (0 : Int)))), false⟩)]) rfl trivial rfl ?_
  refine a_nil ?_
  refine a_next (σ' := ⟨[(0, (.int .i64 a0)), (4, (.own 4 [] [])), (5, (.own 5 [] [])), (6, (.own 6 [] []))], [(4, some ⟨(eA64u8 a1), false⟩), (5, some ⟨(eA64u8 a2), false⟩), (6, some ⟨(eA64u8 ((vrep 64 (0 : Int)))), false⟩)]⟩) (by kernel_rfl) ?_
  refine a_seq ?_
  refine a_region ?_
  refine a_val (v := (.int .i64 a0)) (u := []) rfl trivial rfl ?_
  have hl1 : LdOk [] (eA64u8 a1) [] 64 true (eA64u8 a1) := (.nil rfl rfl rfl)
  refine a_val (v := (eA64u8 a1)) (u := []) (ld_own (i := ⟨.arr 64 5, 64, 64, (eA64u8 (vrep 64 (0 : Int)))⟩) rfl rfl rfl hl1) hl1.c rfl ?_
  have hl2 : LdOk [] (eA64u8 a2) [] 64 true (eA64u8 a2) := (.nil rfl rfl rfl)
  refine a_val (v := (eA64u8 a2)) (u := []) (ld_own (i := ⟨.arr 64 5, 64, 64, (eA64u8 (vrep 64 (0 : Int)))⟩) rfl rfl rfl hl2) hl2.c rfl ?_
  obtain ⟨r3, hr4, h⟩ := bind_some h
  refine a_call (args := [(.int .i64 a0), (eA64u8 a1), (eA64u8 a2)]) (u := []) (r := (.tuple [(eA64u8 r3.1), (eA64u8 r3.2)])) rfl rfl (spec_l01Divide_ok a0 a1 a2 r3 hr4) rfl ?_
  refine a_val (v := (.tuple [(eA64u8 r3.1), (eA64u8 r3.2)])) (u := []) rfl trivial rfl ?_
  refine a_val (v := (eA64u8 r3.1)) (u := []) rfl (Nat.le_of_ble_eq_true rfl) rfl ?_
  refine a_val (v := (eA64u8 r3.2)) (u := []) rfl (Nat.le_of_ble_eq_true rfl) rfl ?_
  refine a_val (v := (.own 1700 [] [])) (u := [(1700, some ⟨(eA64u8 ((vrep 64 (0 : Int)))), false⟩)]) rfl trivial rfl ?_
  refine a_val (v := (.own 1800 [] [])) (u := [(1800, some ⟨(eA64u8 ((vrep 64 (0 : Int)))), false⟩)]) rfl trivial rfl ?_
  have hs5 : StOk [] (eA64u8 ((vrep 64 (0 : Int)))) [] 64 (eA64u8 r3.1) (eA64u8 r3.1) := (.nil rfl rfl rfl rfl)
  refine a_val (v := .top) (u := [(1700, some ⟨(eA64u8 r3.1), false⟩)]) (st_own (i := ⟨.arr 64 5, 64, 64, (eA64u8 (vrep 64 (0 : Int)))⟩) rfl rfl (fun _ => rfl) rfl hs5) (hs5.c rfl) rfl ?_
  have hs6 : StOk [] (eA64u8 ((vrep 64 (0 : Int)))) [] 64 (eA64u8 r3.2) (eA64u8 r3.2) := (.nil rfl rfl rfl rfl)
  refine a_val (v := .top) (u := [(1800, some ⟨(eA64u8 r3.2), false⟩)]) (st_own (i := ⟨.arr 64 5, 64, 64, (eA64u8 (vrep 64 (0 : Int)))⟩) rfl rfl (fun _ => rfl) rfl hs6) (hs6.c rfl) rfl ?_
  refine a_nil ?_
  refine a_next (σ' := ⟨[(6, (.own 6 [] [])), (8, (.own 8 [] []))], [(6, some ⟨(eA64u8 ((vrep 64 (0 : Int)))), false⟩), (8, some ⟨(eA64u8 r3.2), false⟩)]⟩) (by kernel_rfl) ?_
  refine a_seq ?_
  refine a_region ?_
  have hl7 : LdOk [] (eA64u8 r3.2) [] 64 true (eA64u8 r3.2) := (.nil rfl rfl rfl)
  refine a_val (v := (eA64u8 r3.2)) (u := []) (ld_own (i := ⟨.arr 64 5, 64, 64, (eA64u8 (vrep 64 (0 : Int)))⟩) rfl rfl rfl hl7) hl7.c rfl ?_
  have hs8 : StOk [] (eA64u8 ((vrep 64 (0 : Int)))) [] 64 (eA64u8 r3.2) (eA64u8 r3.2) := (.nil rfl rfl rfl rfl)
  refine a_val (v := .top) (u := [(6, some ⟨(eA64u8 r3.2), false⟩)]) (st_own (i := ⟨.arr 64 5, 64, 64, (eA64u8 (vrep 64 (0 : Int)))⟩) rfl rfl (fun _ => rfl) rfl hs8) (hs8.c rfl) rfl ?_
  refine a_nil ?_
  refine a_next rfl ?_
  refine a_ret ?_
  have hl9 : LdOk [] (eA64u8 r3.2) [] 64 true (eA64u8 r3.2) := (.nil rfl rfl rfl)
  refine ⟨.inr rfl, ?_⟩
  rw [Try.results85]
  cases h
  exact ⟨_, _, _, _, _, ld_own (i := ⟨.arr 64 5, 64, 64, (eA64u8 (vrep 64 (0 : Int)))⟩) rfl rfl rfl hl9, hl9.c, .inl ⟨rfl, .inl rfl⟩, rfl, rfl⟩
def spec_l07Form_c : ACode := (.seq (.region 0 [⟨some 4, .box 23 (.tmp 1), none, []⟩, ⟨some 5, .box 124 (.tmp 2), none, []⟩, ⟨some 6, .asg 0 (.const (.bool false)) 4, none, []⟩] false) (.seq (.seq (.region 1 [⟨some 7, .mov (.tmp 0), none, []⟩, ⟨some 8, .fieldAddr 124 (.tmp 5) 0, none, []⟩, ⟨some 9, .load 23 (.tmp 8), none, [1]⟩, ⟨some 10, .call 0 (.func 116) [(.tmp 7), (.tmp 9)], none, [0, 2]⟩, ⟨some 11, .un .not (.tmp 10), none, [3]⟩, ⟨some 12, .mov (.tmp 11), none, [4, 3]⟩, ⟨some 13, .mov (.tmp 0), some (12, false), [5]⟩, ⟨some 14, .fieldAddr 124 (.tmp 5) 1, some (12, false), [5]⟩, ⟨some 15, .load 23 (.tmp 14), some (12, false), [7, 5]⟩, ⟨some 16, .call 0 (.func 116) [(.tmp 13), (.tmp 15)], some (12, false), [6, 8, 5, 5]⟩, ⟨some 17, .un .not (.tmp 16), some (12, false), [9, 5]⟩, ⟨some 18, .pick (.tmp 12) (.const (.bool true)) (.tmp 17), none, [5, 10]⟩, ⟨some 19, .mov (.tmp 18), none, [11, 9]⟩, ⟨some 20, .fieldAddr 124 (.tmp 5) 0, some (19, false), [12]⟩, ⟨some 21, .load 23 (.tmp 20), some (19, false), [13, 12]⟩, ⟨some 22, .call 0 (.func 124) [(.tmp 21)], some (19, false), [14, 12, 12]⟩, ⟨some 23, .un .not (.tmp 22), some (19, false), [15, 12]⟩, ⟨some 24, .pick (.tmp 19) (.const (.bool true)) (.tmp 23), none, [12, 16]⟩, ⟨some 25, .mov (.tmp 24), none, [17, 15]⟩, ⟨some 26, .fieldAddr 124 (.tmp 5) 0, some (25, false), [18]⟩, ⟨some 27, .load 23 (.tmp 26), some (25, false), [19, 18]⟩, ⟨some 28, .call 0 (.func 83) [(.tmp 27)], some (25, false), [20, 18, 18]⟩, ⟨some 29, .bin .gtr 2 (.tmp 28) (.const (.int .i64 12)), some (25, false), [21, 18]⟩, ⟨some 30, .pick (.tmp 25) (.const (.bool true)) (.tmp 29), none, [18, 22]⟩, ⟨some 31, .mov (.tmp 30), none, [23, 21]⟩, ⟨some 32, .fieldAddr 124 (.tmp 5) 1, some (31, false), [24]⟩, ⟨some 33, .load 23 (.tmp 32), some (31, false), [25, 24]⟩, ⟨some 34, .call 0 (.func 83) [(.tmp 33)], some (31, false), [26, 24, 24]⟩, ⟨some 35, .fieldAddr 124 (.tmp 5) 0, some (31, false), [24]⟩, ⟨some 36, .load 23 (.tmp 35), some (31, false), [28, 24]⟩, ⟨some 37, .call 0 (.func 83) [(.tmp 36)], some (31, false), [29, 27, 24]⟩, ⟨some 38, .bin .geq 2 (.tmp 34) (.tmp 37), some (31, false), [27, 30, 24]⟩, ⟨some 39, .pick (.tmp 31) (.const (.bool true)) (.tmp 38), none, [24, 31]⟩] true) (.cond (.tmp 39) (.seq (.region 2 [⟨some 6, .asg 0 (.const (.bool false)) 4, none, []⟩] false) .ret) .skip)) (.seq (.region 3 [⟨some 40, .mov (.tmp 0), none, []⟩, ⟨some 41, .mov (.tmp 0), none, []⟩, ⟨some 42, .load 23 (.tmp 4), none, []⟩, ⟨some 43, .fieldAddr 124 (.tmp 5) 1, none, []⟩, ⟨some 44, .load 23 (.tmp 43), none, [3]⟩, ⟨some 45, .call 0 (.func 145) [(.tmp 41), (.tmp 42), (.tmp 44)], none, [1, 2, 4]⟩, ⟨some 46, .fieldAddr 124 (.tmp 5) 0, none, []⟩, ⟨some 47, .load 23 (.tmp 46), none, [6]⟩, ⟨some 48, .call 0 (.func 85) [(.tmp 40), (.tmp 45), (.tmp 47)], none, [0, 5, 7, 5]⟩, ⟨some 49, .call 0 (.func 83) [(.tmp 48)], none, [8, 8]⟩, ⟨some 50, .bin .lss 2 (.tmp 49) (.const (.int .i64 0)), none, [9]⟩, ⟨some 6, .asg 0 (.tmp 50) 4, none, [10, 9, 0, 1, 2, 3, 4, 5, 6, 7, 8, 9, 10]⟩] true) .ret)))
def spec_l07Form_L : Live := [(0, [0, 1, 2]), (1, [0, 4, 5]), (2, []), (3, [0, 4, 5]), (100039, [0, 4, 5, 39])]
theorem spec_l07Form_body : Try.f128.body = some (Try.f128.body.getD .skip) := by kernel_rfl
theorem spec_l07Form_strip : strip [] (Try.f128.body.getD .skip) = spec_l07Form_c := by kernel_rfl
noncomputable def spec_l07Form (a0 : Int) (a1 : (Vec Int 64)) (a2 : ((Vec Int 64) × (Vec Int 64))) : Option Bool :=
  (Option.bind (α := Bool) ((Option.bind (spec_l01Is a0 a2.1) fun r72 => (if (!r72) then (some true) else (Option.bind (spec_l01Is a0 a2.2) fun r76 => (if (!r76) then (some true) else (Option.bind (spec_l01Monic a2.1) fun r80 => (if (!r80) then (some true) else (Option.bind (spec_l01Deg a2.1) fun r84 => (if (decide (r84 > 12)) then (some true) else (Option.bind (spec_l01Deg a2.2) fun r88 => (Option.bind (spec_l01Deg a2.1) fun r91 => (some ((decide (r88 ≥ r91))))))))))))))) fun x45 => (if x45 then (some false) else (Option.bind (spec_l07Square a0 a1 a2.2) fun r105 => (Option.bind (spec_l01Mod a0 r105 a2.1) fun r108 => (Option.bind (spec_l01Deg r108) fun r110 => (some ((decide (r110 < 0)))))))))
set_option maxHeartbeats 16000000 in
theorem spec_l07Form_ok (a0 : Int) (a1 : (Vec Int 64)) (a2 : ((Vec Int 64) × (Vec Int 64))) (r : Bool) (h : spec_l07Form a0 a1 a2 = some r) : Den Try.prog 128 [(.int .i64 a0), (eA64u8 a1), (eT_A64u8_A64u8_Z a2)] { r := (.bool r) } := by
  refine den_of (rs := [(.bool r)]) (ac := spec_l07Form_c) (L := spec_l07Form_L) (n := 51) (m := []) good Try.func128 spec_l07Form_body (by kernel_rfl) Try.ntmps128 rfl rfl spec_l07Form_strip rfl rfl ?_
  refine a_st (σ' := ⟨[(0, (.int .i64 a0)), (1, (eA64u8 a1)), (2, (eT_A64u8_A64u8_Z a2))], []⟩) (by kernel_rfl) ?_
  unfold spec_l07Form_c
  refine a_seq ?_
  refine a_region ?_
  refine a_val (v := (.own 1400 [] [])) (u := [(1400, some ⟨(eA64u8 a1), false⟩)]) rfl trivial rfl ?_
  refine a_val (v := (.own 1500 [] [])) (u := [(1500, some ⟨(eT_A64u8_A64u8_Z a2), false⟩)]) rfl trivial rfl ?_
  refine a_val (v := (.bool false)) (u := []) rfl trivial rfl ?_
  refine a_nil ?_
  refine a_next (σ' := ⟨[(0, (.int .i64 a0)), (4, (.own 4 [] [])), (5, (.own 5 [] []))], [(4, some ⟨(eA64u8 a1), false⟩), (5, some ⟨(eT_A64u8_A64u8_Z a2), false⟩)]⟩) (by kernel_rfl) ?_
  refine a_seq ?_
  obtain ⟨y46, hy47, hk48⟩ := bind_some h
  clear h
  refine a_join (emb := fun (s : Bool) => ⟨[(0, (.int .i64 a0)), (4, (.own 4 [] [])), (5, (.own 5 [] [])), (39, (.bool s))], [(4, some ⟨(eA64u8 a1), false⟩), (5, some ⟨(eT_A64u8_A64u8_Z a2), false⟩)]⟩) (pre := fun s => s = y46) ?_ ?_
  · rintro x45 rfl
    have h := hk48
    refine a_st (σ' := ⟨[(0, (.int .i64 a0)), (4, (.own 4 [] [])), (5, (.own 5 [] [])), (39, (.bool x45))], [(4, some ⟨(eA64u8 a1), false⟩), (5, some ⟨(eT_A64u8_A64u8_Z a2), false⟩)]⟩) (by kernel_rfl) ?_
    cases hb93 : x45
    · have h := ite_f hb93 h
      refine a_cond_f rfl ?_
      refine a_skip ?_
      refine a_next (σ' := ⟨[(0, (.int .i64 a0)), (4, (.own 4 [] [])), (5, (.own 5 [] []))], [(4, some ⟨(eA64u8 a1), false⟩), (5, some ⟨(eT_A64u8_A64u8_Z a2), false⟩)]⟩) (by kernel_rfl) ?_
      refine a_seq ?_
      refine a_draw [⟨[], [], [], []⟩, ⟨[], [], [], []⟩, ⟨[4], [], [], []⟩, ⟨[5], [], [5], []⟩, ⟨[5], [], [], [3]⟩, ⟨[], [], [], [1, 2, 3, 4]⟩, ⟨[5], [], [5], []⟩, ⟨[5], [], [], [6]⟩, ⟨[], [], [], [0, 1, 2, 3, 4, 5, 6, 7]⟩, ⟨[], [], [], [0, 1, 2, 3, 4, 5, 6, 7, 8]⟩, ⟨[], [], [], [0, 1, 2, 3, 4, 5, 6, 7, 8, 9]⟩, ⟨[], [], [], [0, 1, 2, 3, 4, 5, 6, 7, 8, 9, 10]⟩] (by kernel_rfl) ?_
      refine d_cons ?_
      refine a_val (v := (.int .i64 a0)) (u := []) rfl trivial rfl ?_
      refine d_next (by kernel_rfl) ?_
      refine d_cons ?_
      refine a_val (v := (.int .i64 a0)) (u := []) rfl trivial rfl ?_
      refine d_next (by kernel_rfl) ?_
      refine d_cons ?_
      have hl103 : LdOk [] (eA64u8 a1) [] 64 true (eA64u8 a1) := (.nil rfl rfl rfl)
      refine a_val (v := (eA64u8 a1)) (u := []) (ld_own (i := ⟨.arr 64 5, 64, 64, (eA64u8 (vrep 64 (0 : Int)))⟩) rfl rfl rfl hl103) hl103.c rfl ?_
      refine d_next (by kernel_rfl) ?_
      refine d_cons ?_
      refine a_val (v := (.own 5 [1] [64])) (u := []) rfl (Nat.le_of_ble_eq_true rfl) rfl ?_
      refine d_next (by kernel_rfl) ?_
      refine d_cons ?_
      have hl104 : LdOk [1] (eT_A64u8_A64u8_Z a2) [64] 64 true (eA64u8 a2.2) := (.fld rfl rfl rfl rfl (.nil rfl rfl rfl))
      refine a_val (v := (eA64u8 a2.2)) (u := []) (ld_own (i := ⟨.arr 64 5, 64, 64, (eA64u8 (vrep 64 (0 : Int)))⟩) rfl rfl rfl hl104) hl104.c rfl ?_
      refine d_next (by kernel_rfl) ?_
      refine d_cons ?_
      obtain ⟨r105, hr106, h⟩ := bind_some h
      refine a_call (args := [(.int .i64 a0), (eA64u8 a1), (eA64u8 a2.2)]) (u := []) (r := (eA64u8 r105)) rfl rfl (spec_l07Square_ok a0 a1 a2.2 r105 hr106) rfl ?_
      refine d_next (by kernel_rfl) ?_
      refine d_cons ?_
      refine a_val (v := (.own 5 [0] [0])) (u := []) rfl (Nat.le_of_ble_eq_true rfl) rfl ?_
      refine d_next (by kernel_rfl) ?_
      refine d_cons ?_
      have hl107 : LdOk [0] (eT_A64u8_A64u8_Z a2) [0] 64 true (eA64u8 a2.1) := (.fld rfl rfl rfl rfl (.nil rfl rfl rfl))
      refine a_val (v := (eA64u8 a2.1)) (u := []) (ld_own (i := ⟨.arr 64 5, 64, 64, (eA64u8 (vrep 64 (0 : Int)))⟩) rfl rfl rfl hl107) hl107.c rfl ?_
      refine d_next (by kernel_rfl) ?_
      refine d_cons ?_
      obtain ⟨r108, hr109, h⟩ := bind_some h
      refine a_call (args := [(.int .i64 a0), (eA64u8 r105), (eA64u8 a2.1)]) (u := []) (r := (eA64u8 r108)) rfl rfl (spec_l01Mod_ok a0 r105 a2.1 r108 hr109) rfl ?_
      refine d_next (by kernel_rfl) ?_
      refine d_cons ?_
      obtain ⟨r110, hr111, h⟩ := bind_some h
      refine a_call (args := [(eA64u8 r108)]) (u := []) (r := (.int .i64 r110)) rfl rfl (spec_l01Deg_ok r108 r110 hr111) rfl ?_
      refine d_next (by kernel_rfl) ?_
      refine d_cons ?_
      refine a_val (v := (.bool ((decide (r110 < 0))))) (u := []) rfl trivial rfl ?_
      refine d_next (by kernel_rfl) ?_
      refine d_cons ?_
      refine a_val (v := (.bool ((decide (r110 < 0))))) (u := []) rfl trivial rfl ?_
      refine d_next (by kernel_rfl) ?_
      refine d_nil ?_
      refine a_next rfl ?_
      refine a_ret ?_
      refine ⟨.inr rfl, ?_⟩
      rw [Try.results128]
      cases h
      exact ⟨_, _, _, _, _, rfl, trivial, .inl ⟨rfl, .inl rfl⟩, rfl, rfl⟩
    · have h := ite_t hb93 h
      refine a_cond_t rfl ?_
      refine a_seq ?_
      refine a_region ?_
      refine a_val (v := (.bool false)) (u := []) rfl trivial rfl ?_
      refine a_nil ?_
      refine a_next rfl ?_
      refine a_ret ?_
      refine t_ret ?_
      refine ⟨.inr rfl, ?_⟩
      rw [Try.results128]
      cases h
      exact ⟨_, _, _, _, _, rfl, trivial, .inl ⟨rfl, .inl rfl⟩, rfl, rfl⟩
  · have h := hy47
    refine a_draw [⟨[], [], [], []⟩, ⟨[5], [], [5], []⟩, ⟨[5], [], [], [1]⟩, ⟨[], [], [], [0, 1, 2]⟩, ⟨[], [], [], [0, 1, 2, 3]⟩, ⟨[], [], [], [0, 1, 2, 3, 4]⟩, ⟨[], [], [], [0, 1, 2, 3, 4, 5]⟩, ⟨[5], [], [5], [0, 1, 2, 3, 4, 5]⟩, ⟨[5], [], [], [0, 1, 2, 3, 4, 5, 7]⟩, ⟨[], [], [], [0, 1, 2, 3, 4, 5, 6, 7, 8]⟩, ⟨[], [], [], [0, 1, 2, 3, 4, 5, 6, 7, 8, 9]⟩, ⟨[], [], [], [0, 1, 2, 3, 4, 5, 6, 7, 8, 9, 10]⟩, ⟨[], [], [], [0, 1, 2, 3, 4, 5, 6, 7, 8, 9, 10, 11]⟩, ⟨[5], [], [5], [0, 1, 2, 3, 4, 5, 6, 7, 8, 9, 10, 11, 12]⟩, ⟨[5], [], [], [0, 1, 2, 3, 4, 5, 6, 7, 8, 9, 10, 11, 12, 13]⟩, ⟨[], [], [], [0, 1, 2, 3, 4, 5, 6, 7, 8, 9, 10, 11, 12, 13, 14]⟩, ⟨[], [], [], [0, 1, 2, 3, 4, 5, 6, 7, 8, 9, 10, 11, 12, 13, 14, 15]⟩, ⟨[], [], [], [0, 1, 2, 3, 4, 5, 6, 7, 8, 9, 10, 11, 12, 13, 14, 15, 16]⟩, ⟨[], [], [], [0, 1, 2, 3, 4, 5, 6, 7, 8, 9, 10, 11, 12, 13, 14, 15, 16, 17]⟩, ⟨[5], [], [5], [0, 1, 2, 3, 4, 5, 6, 7, 8, 9, 10, 11, 12, 13, 14, 15, 16, 17, 18]⟩, ⟨[5], [], [], [0, 1, 2, 3, 4, 5, 6, 7, 8, 9, 10, 11, 12, 13, 14, 15, 16, 17, 18, 19]⟩, ⟨[], [], [], [0, 1, 2, 3, 4, 5, 6, 7, 8, 9, 10, 11, 12, 13, 14, 15, 16, 17, 18, 19, 20]⟩, ⟨[], [], [], [0, 1, 2, 3, 4, 5, 6, 7, 8, 9, 10, 11, 12, 13, 14, 15, 16, 17, 18, 19, 20, 21]⟩, ⟨[], [], [], [0, 1, 2, 3, 4, 5, 6, 7, 8, 9, 10, 11, 12, 13, 14, 15, 16, 17, 18, 19, 20, 21, 22]⟩, ⟨[], [], [], [0, 1, 2, 3, 4, 5, 6, 7, 8, 9, 10, 11, 12, 13, 14, 15, 16, 17, 18, 19, 20, 21, 22, 23]⟩, ⟨[5], [], [5], [0, 1, 2, 3, 4, 5, 6, 7, 8, 9, 10, 11, 12, 13, 14, 15, 16, 17, 18, 19, 20, 21, 22, 23, 24]⟩, ⟨[5], [], [], [0, 1, 2, 3, 4, 5, 6, 7, 8, 9, 10, 11, 12, 13, 14, 15, 16, 17, 18, 19, 20, 21, 22, 23, 24, 25]⟩, ⟨[], [], [], [0, 1, 2, 3, 4, 5, 6, 7, 8, 9, 10, 11, 12, 13, 14, 15, 16, 17, 18, 19, 20, 21, 22, 23, 24, 25, 26]⟩, ⟨[5], [], [5], [0, 1, 2, 3, 4, 5, 6, 7, 8, 9, 10, 11, 12, 13, 14, 15, 16, 17, 18, 19, 20, 21, 22, 23, 24]⟩, ⟨[5], [], [], [0, 1, 2, 3, 4, 5, 6, 7, 8, 9, 10, 11, 12, 13, 14, 15, 16, 17, 18, 19, 20, 21, 22, 23, 24, 28]⟩, ⟨[], [], [], [0, 1, 2, 3, 4, 5, 6, 7, 8, 9, 10, 11, 12, 13, 14, 15, 16, 17, 18, 19, 20, 21, 22, 23, 24, 25, 26, 27, 28, 29]⟩, ⟨[], [], [], [0, 1, 2, 3, 4, 5, 6, 7, 8, 9, 10, 11, 12, 13, 14, 15, 16, 17, 18, 19, 20, 21, 22, 23, 24, 25, 26, 27, 28, 29, 30]⟩, ⟨[], [], [], [0, 1, 2, 3, 4, 5, 6, 7, 8, 9, 10, 11, 12, 13, 14, 15, 16, 17, 18, 19, 20, 21, 22, 23, 24, 25, 26, 27, 28, 29, 30, 31]⟩] (by kernel_rfl) ?_
    refine d_cons ?_
    refine a_val (v := (.int .i64 a0)) (u := []) rfl trivial rfl ?_
    refine d_next (by kernel_rfl) ?_
    refine d_cons ?_
    refine a_val (v := (.own 5 [0] [0])) (u := []) rfl (Nat.le_of_ble_eq_true rfl) rfl ?_
    refine d_next (by kernel_rfl) ?_
    refine d_cons ?_
    have hl71 : LdOk [0] (eT_A64u8_A64u8_Z a2) [0] 64 true (eA64u8 a2.1) := (.fld rfl rfl rfl rfl (.nil rfl rfl rfl))
    refine a_val (v := (eA64u8 a2.1)) (u := []) (ld_own (i := ⟨.arr 64 5, 64, 64, (eA64u8 (vrep 64 (0 : Int)))⟩) rfl rfl rfl hl71) hl71.c rfl ?_
    refine d_next (by kernel_rfl) ?_
    refine d_cons ?_
    obtain ⟨r72, hr73, h⟩ := bind_some h
    refine a_call (args := [(.int .i64 a0), (eA64u8 a2.1)]) (u := []) (r := (.bool r72)) rfl rfl (spec_l01Is_ok a0 a2.1 r72 hr73) rfl ?_
    refine d_next (by kernel_rfl) ?_
    refine d_cons ?_
    refine a_val (v := (.bool (!r72))) (u := []) rfl trivial rfl ?_
    refine d_next (by kernel_rfl) ?_
    refine d_cons ?_
    refine a_val (v := (.bool (!r72))) (u := []) rfl trivial rfl ?_
    refine d_next (by kernel_rfl) ?_
    cases hb74 : (!r72)
    · have h := ite_f hb74 h
      refine d_cons ?_
      refine a_gval rfl (v := (.int .i64 a0)) (u := []) rfl trivial rfl ?_
      refine d_next (by kernel_rfl) ?_
      refine d_cons ?_
      refine a_gval rfl (v := (.own 5 [1] [64])) (u := []) rfl (Nat.le_of_ble_eq_true rfl) rfl ?_
      refine d_next (by kernel_rfl) ?_
      refine d_cons ?_
      have hl75 : LdOk [1] (eT_A64u8_A64u8_Z a2) [64] 64 true (eA64u8 a2.2) := (.fld rfl rfl rfl rfl (.nil rfl rfl rfl))
      refine a_gval rfl (v := (eA64u8 a2.2)) (u := []) (ld_own (i := ⟨.arr 64 5, 64, 64, (eA64u8 (vrep 64 (0 : Int)))⟩) rfl rfl rfl hl75) hl75.c rfl ?_
      refine d_next (by kernel_rfl) ?_
      refine d_cons ?_
      obtain ⟨r76, hr77, h⟩ := bind_some h
      refine a_gcall rfl (args := [(.int .i64 a0), (eA64u8 a2.2)]) (u := []) (r := (.bool r76)) rfl rfl (spec_l01Is_ok a0 a2.2 r76 hr77) rfl ?_
      refine d_next (by kernel_rfl) ?_
      refine d_cons ?_
      refine a_gval rfl (v := (.bool (!r76))) (u := []) rfl trivial rfl ?_
      refine d_next (by kernel_rfl) ?_
      refine d_cons ?_
      refine a_val (v := (.bool (!r76))) (u := []) rfl trivial rfl ?_
      refine d_next (by kernel_rfl) ?_
      refine d_cons ?_
      refine a_val (v := (.bool (!r76))) (u := []) rfl trivial rfl ?_
      refine d_next (by kernel_rfl) ?_
      cases hb78 : (!r76)
      · have h := ite_f hb78 h
        refine d_cons ?_
        refine a_gval rfl (v := (.own 5 [0] [0])) (u := []) rfl (Nat.le_of_ble_eq_true rfl) rfl ?_
        refine d_next (by kernel_rfl) ?_
        refine d_cons ?_
        have hl79 : LdOk [0] (eT_A64u8_A64u8_Z a2) [0] 64 true (eA64u8 a2.1) := (.fld rfl rfl rfl rfl (.nil rfl rfl rfl))
        refine a_gval rfl (v := (eA64u8 a2.1)) (u := []) (ld_own (i := ⟨.arr 64 5, 64, 64, (eA64u8 (vrep 64 (0 : Int)))⟩) rfl rfl rfl hl79) hl79.c rfl ?_
        refine d_next (by kernel_rfl) ?_
        refine d_cons ?_
        obtain ⟨r80, hr81, h⟩ := bind_some h
        refine a_gcall rfl (args := [(eA64u8 a2.1)]) (u := []) (r := (.bool r80)) rfl rfl (spec_l01Monic_ok a2.1 r80 hr81) rfl ?_
        refine d_next (by kernel_rfl) ?_
        refine d_cons ?_
        refine a_gval rfl (v := (.bool (!r80))) (u := []) rfl trivial rfl ?_
        refine d_next (by kernel_rfl) ?_
        refine d_cons ?_
        refine a_val (v := (.bool (!r80))) (u := []) rfl trivial rfl ?_
        refine d_next (by kernel_rfl) ?_
        refine d_cons ?_
        refine a_val (v := (.bool (!r80))) (u := []) rfl trivial rfl ?_
        refine d_next (by kernel_rfl) ?_
        cases hb82 : (!r80)
        · have h := ite_f hb82 h
          refine d_cons ?_
          refine a_gval rfl (v := (.own 5 [0] [0])) (u := []) rfl (Nat.le_of_ble_eq_true rfl) rfl ?_
          refine d_next (by kernel_rfl) ?_
          refine d_cons ?_
          have hl83 : LdOk [0] (eT_A64u8_A64u8_Z a2) [0] 64 true (eA64u8 a2.1) := (.fld rfl rfl rfl rfl (.nil rfl rfl rfl))
          refine a_gval rfl (v := (eA64u8 a2.1)) (u := []) (ld_own (i := ⟨.arr 64 5, 64, 64, (eA64u8 (vrep 64 (0 : Int)))⟩) rfl rfl rfl hl83) hl83.c rfl ?_
          refine d_next (by kernel_rfl) ?_
          refine d_cons ?_
          obtain ⟨r84, hr85, h⟩ := bind_some h
          refine a_gcall rfl (args := [(eA64u8 a2.1)]) (u := []) (r := (.int .i64 r84)) rfl rfl (spec_l01Deg_ok a2.1 r84 hr85) rfl ?_
          refine d_next (by kernel_rfl) ?_
          refine d_cons ?_
          refine a_gval rfl (v := (.bool ((decide (r84 > 12))))) (u := []) rfl trivial rfl ?_
          refine d_next (by kernel_rfl) ?_
          refine d_cons ?_
          refine a_val (v := (.bool ((decide (r84 > 12))))) (u := []) rfl trivial rfl ?_
          refine d_next (by kernel_rfl) ?_
          refine d_cons ?_
          refine a_val (v := (.bool ((decide (r84 > 12))))) (u := []) rfl trivial rfl ?_
          refine d_next (by kernel_rfl) ?_
          cases hb86 : (decide (r84 > 12))
          · have h := ite_f hb86 h
            refine d_cons ?_
            refine a_gval rfl (v := (.own 5 [1] [64])) (u := []) rfl (Nat.le_of_ble_eq_true rfl) rfl ?_
            refine d_next (by kernel_rfl) ?_
            refine d_cons ?_
            have hl87 : LdOk [1] (eT_A64u8_A64u8_Z a2) [64] 64 true (eA64u8 a2.2) := (.fld rfl rfl rfl rfl (.nil rfl rfl rfl))
            refine a_gval rfl (v := (eA64u8 a2.2)) (u := []) (ld_own (i := ⟨.arr 64 5, 64, 64, (eA64u8 (vrep 64 (0 : Int)))⟩) rfl rfl rfl hl87) hl87.c rfl ?_
            refine d_next (by kernel_rfl) ?_
            refine d_cons ?_
            obtain ⟨r88, hr89, h⟩ := bind_some h
            refine a_gcall rfl (args := [(eA64u8 a2.2)]) (u := []) (r := (.int .i64 r88)) rfl rfl (spec_l01Deg_ok a2.2 r88 hr89) rfl ?_
            refine d_next (by kernel_rfl) ?_
            refine d_cons ?_
            refine a_gval rfl (v := (.own 5 [0] [0])) (u := []) rfl (Nat.le_of_ble_eq_true rfl) rfl ?_
            refine d_next (by kernel_rfl) ?_
            refine d_cons ?_
            have hl90 : LdOk [0] (eT_A64u8_A64u8_Z a2) [0] 64 true (eA64u8 a2.1) := (.fld rfl rfl rfl rfl (.nil rfl rfl rfl))
            refine a_gval rfl (v := (eA64u8 a2.1)) (u := []) (ld_own (i := ⟨.arr 64 5, 64, 64, (eA64u8 (vrep 64 (0 : Int)))⟩) rfl rfl rfl hl90) hl90.c rfl ?_
            refine d_next (by kernel_rfl) ?_
            refine d_cons ?_
            obtain ⟨r91, hr92, h⟩ := bind_some h
            refine a_gcall rfl (args := [(eA64u8 a2.1)]) (u := []) (r := (.int .i64 r91)) rfl rfl (spec_l01Deg_ok a2.1 r91 hr92) rfl ?_
            refine d_next (by kernel_rfl) ?_
            refine d_cons ?_
            refine a_gval rfl (v := (.bool ((decide (r88 ≥ r91))))) (u := []) rfl trivial rfl ?_
            refine d_next (by kernel_rfl) ?_
            refine d_cons ?_
            refine a_val (v := (.bool ((decide (r88 ≥ r91))))) (u := []) rfl trivial rfl ?_
            refine d_next (by kernel_rfl) ?_
            refine d_nil ?_
            exact j_leaf ((decide (r88 ≥ r91))) (Option.some.inj h) (by kernel_rfl)
          · have h := ite_t hb86 h
            refine d_cons ?_
            refine a_gskip rfl ?_
            refine d_next (by kernel_rfl) ?_
            refine d_cons ?_
            refine a_gskip rfl ?_
            refine d_next (by kernel_rfl) ?_
            refine d_cons ?_
            refine a_gskip rfl ?_
            refine d_next (by kernel_rfl) ?_
            refine d_cons ?_
            refine a_gskip rfl ?_
            refine d_next (by kernel_rfl) ?_
            refine d_cons ?_
            refine a_gskip rfl ?_
            refine d_next (by kernel_rfl) ?_
            refine d_cons ?_
            refine a_gskip rfl ?_
            refine d_next (by kernel_rfl) ?_
            refine d_cons ?_
            refine a_gskip rfl ?_
            refine d_next (by kernel_rfl) ?_
            refine d_cons ?_
            refine a_val (v := (.bool true)) (u := []) rfl trivial rfl ?_
            refine d_next (by kernel_rfl) ?_
            refine d_nil ?_
            exact j_leaf true (Option.some.inj h) (by kernel_rfl)
        · have h := ite_t hb82 h
          refine d_cons ?_
          refine a_gskip rfl ?_
          refine d_next (by kernel_rfl) ?_
          refine d_cons ?_
          refine a_gskip rfl ?_
          refine d_next (by kernel_rfl) ?_
          refine d_cons ?_
          refine a_gskip rfl ?_
          refine d_next (by kernel_rfl) ?_
          refine d_cons ?_
          refine a_gskip rfl ?_
          refine d_next (by kernel_rfl) ?_
          refine d_cons ?_
          refine a_val (v := (.bool true)) (u := []) rfl trivial rfl ?_
          refine d_next (by kernel_rfl) ?_
          refine d_cons ?_
          refine a_val (v := (.bool true)) (u := []) rfl trivial rfl ?_
          refine d_next (by kernel_rfl) ?_
          refine d_cons ?_
          refine a_gskip rfl ?_
          refine d_next (by kernel_rfl) ?_
          refine d_cons ?_
          refine a_gskip rfl ?_
          refine d_next (by kernel_rfl) ?_
          refine d_cons ?_
          refine a_gskip rfl ?_
          refine d_next (by kernel_rfl) ?_
          refine d_cons ?_
          refine a_gskip rfl ?_
          refine d_next (by kernel_rfl) ?_
          refine d_cons ?_
          refine a_gskip rfl ?_
          refine d_next (by kernel_rfl) ?_
          refine d_cons ?_
          refine a_gskip rfl ?_
          refine d_next (by kernel_rfl) ?_
          refine d_cons ?_
          refine a_gskip rfl ?_
          refine d_next (by kernel_rfl) ?_
          refine d_cons ?_
          refine a_val (v := (.bool true)) (u := []) rfl trivial rfl ?_
          refine d_next (by kernel_rfl) ?_
          refine d_nil ?_
          exact j_leaf true (Option.some.inj h) (by kernel_rfl)
      · have h := ite_t hb78 h
        refine d_cons ?_
        refine a_gskip rfl ?_
        refine d_next (by kernel_rfl) ?_
        refine d_cons ?_
        refine a_gskip rfl ?_
        refine d_next (by kernel_rfl) ?_
        refine d_cons ?_
        refine a_gskip rfl ?_
        refine d_next (by kernel_rfl) ?_
        refine d_cons ?_
        refine a_gskip rfl ?_
        refine d_next (by kernel_rfl) ?_
        refine d_cons ?_
        refine a_val (v := (.bool true)) (u := []) rfl trivial rfl ?_
        refine d_next (by kernel_rfl) ?_
        refine d_cons ?_
        refine a_val (v := (.bool true)) (u := []) rfl trivial rfl ?_
        refine d_next (by kernel_rfl) ?_
        refine d_cons ?_
        refine a_gskip rfl ?_
        refine d_next (by kernel_rfl) ?_
        refine d_cons ?_
        refine a_gskip rfl ?_
        refine d_next (by kernel_rfl) ?_
        refine d_cons ?_
        refine a_gskip rfl ?_
        refine d_next (by kernel_rfl) ?_
        refine d_cons ?_
        refine a_gskip rfl ?_
        refine d_next (by kernel_rfl) ?_
        refine d_cons ?_
        refine a_val (v := (.bool true)) (u := []) rfl trivial rfl ?_
        refine d_next (by kernel_rfl) ?_
        refine d_cons ?_
        refine a_val (v := (.bool true)) (u := []) rfl trivial rfl ?_
        refine d_next (by kernel_rfl) ?_
        refine d_cons ?_
        refine a_gskip rfl ?_
        refine d_next (by kernel_rfl) ?_
        refine d_cons ?_
        refine a_gskip rfl ?_
        refine d_next (by kernel_rfl) ?_
        refine d_cons ?_
        refine a_gskip rfl ?_
        refine d_next (by kernel_rfl) ?_
        refine d_cons ?_
        refine a_gskip rfl ?_
        refine d_next (by kernel_rfl) ?_
        refine d_cons ?_
        refine a_gskip rfl ?_
        refine d_next (by kernel_rfl) ?_
        refine d_cons ?_
        refine a_gskip rfl ?_
        refine d_next (by kernel_rfl) ?_
        refine d_cons ?_
        refine a_gskip rfl ?_
        refine d_next (by kernel_rfl) ?_
        refine d_cons ?_
        refine a_val (v := (.bool true)) (u := []) rfl trivial rfl ?_
        refine d_next (by kernel_rfl) ?_
        refine d_nil ?_
        exact j_leaf true (Option.some.inj h) (by kernel_rfl)
    · have h := ite_t hb74 h
      refine d_cons ?_
      refine a_gskip rfl ?_
      refine d_next (by kernel_rfl) ?_
      refine d_cons ?_
      refine a_gskip rfl ?_
      refine d_next (by kernel_rfl) ?_
      refine d_cons ?_
      refine a_gskip rfl ?_
      refine d_next (by kernel_rfl) ?_
      refine d_cons ?_
      refine a_gskip rfl ?_
      refine d_next (by kernel_rfl) ?_
      refine d_cons ?_
      refine a_gskip rfl ?_
      refine d_next (by kernel_rfl) ?_
      refine d_cons ?_
      refine a_val (v := (.bool true)) (u := []) rfl trivial rfl ?_
      refine d_next (by kernel_rfl) ?_
      refine d_cons ?_
      refine a_val (v := (.bool true)) (u := []) rfl trivial rfl ?_
      refine d_next (by kernel_rfl) ?_
      refine d_cons ?_
      refine a_gskip rfl ?_
      refine d_next (by kernel_rfl) ?_
      refine d_cons ?_
      refine a_gskip rfl ?_
      refine d_next (by kernel_rfl) ?_
      refine d_cons ?_
      refine a_gskip rfl ?_
      refine d_next (by kernel_rfl) ?_
      refine d_cons ?_
      refine a_gskip rfl ?_
      refine d_next (by kernel_rfl) ?_
      refine d_cons ?_
      refine a_val (v := (.bool true)) (u := []) rfl trivial rfl ?_
      refine d_next (by kernel_rfl) ?_
      refine d_cons ?_
      refine a_val (v := (.bool true)) (u := []) rfl trivial rfl ?_
      refine d_next (by kernel_rfl) ?_
      refine d_cons ?_
      refine a_gskip rfl ?_
      refine d_next (by kernel_rfl) ?_
      refine d_cons ?_
      refine a_gskip rfl ?_
      refine d_next (by kernel_rfl) ?_
      refine d_cons ?_
      refine a_gskip rfl ?_
      refine d_next (by kernel_rfl) ?_
      refine d_cons ?_
      refine a_gskip rfl ?_
      refine d_next (by kernel_rfl) ?_
      refine d_cons ?_
      refine a_val (v := (.bool true)) (u := []) rfl trivial rfl ?_
      refine d_next (by kernel_rfl) ?_
      refine d_cons ?_
      refine a_val (v := (.bool true)) (u := []) rfl trivial rfl ?_
      refine d_next (by kernel_rfl) ?_
      refine d_cons ?_
      refine a_gskip rfl ?_
      refine d_next (by kernel_rfl) ?_
      refine d_cons ?_
      refine a_gskip rfl ?_
      refine d_next (by kernel_rfl) ?_
      refine d_cons ?_
      refine a_gskip rfl ?_
      refine d_next (by kernel_rfl) ?_
      refine d_cons ?_
      refine a_gskip rfl ?_
      refine d_next (by kernel_rfl) ?_
      refine d_cons ?_
      refine a_gskip rfl ?_
      refine d_next (by kernel_rfl) ?_
      refine d_cons ?_
      refine a_gskip rfl ?_
      refine d_next (by kernel_rfl) ?_
      refine d_cons ?_
      refine a_gskip rfl ?_
      refine d_next (by kernel_rfl) ?_
      refine d_cons ?_
      refine a_val (v := (.bool true)) (u := []) rfl trivial rfl ?_
      refine d_next (by kernel_rfl) ?_
      refine d_nil ?_
      exact j_leaf true (Option.some.inj h) (by kernel_rfl)
end Go.Proofs.Ytgodhgbnjlflmaa
