/- Functions of the program: plain Lean functions, and that the program computes them. Printed by gen.py. -/
import Derived.Test.YtgodhgbnjlflmaaFnT
import Derived.Test.YtgodhgbnjlflmaaFn1
import Derived.Test.YtgodhgbnjlflmaaFn2
namespace Go.Proofs.Ytgodhgbnjlflmaa
open Go.Abs Go.Proofs
set_option linter.unusedSimpArgs false
set_option linter.unusedVariables false
attribute [local irreducible] Abs.acode Abs.aops Abs.aopsT Abs.thenK Abs.blockK

def spec_l10Convergents_c : ACode := (.seq (.region 0 [⟨some 4, .asg 1 (.const (.slice none 0 0)) 30, none, []⟩, ⟨some 5, .asg 1 (.const (.slice none 0 0)) 30, none, []⟩, ⟨some 6, .asg 0 (.const (.bool false)) 4, none, []⟩] false) (.seq (.region 1 [⟨some 18, .bslice 2 30 0 [], none, []⟩, ⟨some 19, .bslice 2 30 0 [], none, []⟩, ⟨some 7, .asg 2 (.tmp 18) 30, none, []⟩, ⟨some 8, .asg 2 (.tmp 19) 30, none, []⟩] false) (.seq (.region 2 [⟨some 20, .call 0 (.func 61) [], none, []⟩, ⟨some 21, .build 23 [], none, []⟩, ⟨some 9, .alloc 23, none, []⟩, ⟨some 10, .alloc 23, none, []⟩, ⟨none, .store 23 (.tmp 9) (.tmp 20), none, []⟩, ⟨none, .store 23 (.tmp 10) (.tmp 21), none, []⟩] false) (.seq (.region 3 [⟨some 22, .build 23 [], none, []⟩, ⟨some 23, .call 0 (.func 61) [], none, []⟩, ⟨some 11, .alloc 23, none, []⟩, ⟨some 12, .alloc 23, none, []⟩, ⟨none, .store 23 (.tmp 11) (.tmp 22), none, []⟩, ⟨none, .store 23 (.tmp 12) (.tmp 23), none, []⟩] false) (.seq (.seq (.region 4 [⟨some 13, .asg 0 (.const (.int .i64 0)) 3, none, []⟩] false) (.block 0 (.loop (.seq (.seq (.region 5 [⟨some 24, .mov (.tmp 13), none, []⟩, ⟨some 25, .mov (.tmp 1), none, []⟩, ⟨some 26, .blt 0 .len [(.tmp 25)] [30], none, []⟩, ⟨some 27, .bin .lss 3 (.tmp 24) (.tmp 26), none, []⟩] false) (.cond (.tmp 27) .skip (.exit 0))) (.seq (.block 1 (.seq (.region 7 [⟨some 31, .mov (.tmp 0), none, []⟩, ⟨some 32, .mov (.tmp 1), none, []⟩, ⟨some 33, .mov (.tmp 13), none, []⟩, ⟨some 34, .indexAddr 30 (.tmp 32) (.tmp 33), none, [1, 2]⟩, ⟨some 35, .load 23 (.tmp 34), none, [3]⟩, ⟨some 36, .load 23 (.tmp 9), none, []⟩, ⟨some 37, .call 0 (.func 52) [(.tmp 31), (.tmp 35), (.tmp 36)], none, [0, 4, 5]⟩, ⟨some 30, .mov (.tmp 37), none, [6]⟩, ⟨some 38, .extract (.tmp 30) 0, none, [7]⟩, ⟨some 39, .extract (.tmp 30) 1, none, [7]⟩, ⟨some 14, .alloc 23, none, []⟩, ⟨none, .store 23 (.tmp 14) (.tmp 38), none, [10, 8, 6, 0, 1, 2, 3, 4, 5, 6, 7, 8, 10]⟩, ⟨some 15, .asg 0 (.tmp 39) 4, none, [9, 11, 0, 1, 2, 3, 4, 5, 6, 7, 8, 9, 10, 11]⟩] true) (.seq (.region 8 [⟨some 41, .mov (.tmp 0), none, []⟩, ⟨some 42, .mov (.tmp 1), none, []⟩, ⟨some 43, .mov (.tmp 13), none, []⟩, ⟨some 44, .indexAddr 30 (.tmp 42) (.tmp 43), none, [1, 2]⟩, ⟨some 45, .load 23 (.tmp 44), none, [3]⟩, ⟨some 46, .load 23 (.tmp 11), none, []⟩, ⟨some 47, .call 0 (.func 52) [(.tmp 41), (.tmp 45), (.tmp 46)], none, [0, 4, 5]⟩, ⟨some 40, .mov (.tmp 47), none, [6]⟩, ⟨some 48, .extract (.tmp 40) 0, none, [7]⟩, ⟨some 49, .extract (.tmp 40) 1, none, [7]⟩, ⟨some 16, .alloc 23, none, []⟩, ⟨none, .store 23 (.tmp 16) (.tmp 48), none, [10, 8, 6, 0, 1, 2, 3, 4, 5, 6, 7, 8, 10]⟩, ⟨some 17, .asg 0 (.tmp 49) 4, none, [9, 11, 0, 1, 2, 3, 4, 5, 6, 7, 8, 9, 10, 11]⟩] true) (.seq (.seq (.region 9 [⟨some 50, .mov (.tmp 15), none, []⟩, ⟨some 51, .un .not (.tmp 50), none, []⟩, ⟨some 52, .mov (.tmp 51), none, []⟩, ⟨some 53, .mov (.tmp 17), some (52, false), []⟩, ⟨some 54, .un .not (.tmp 53), some (52, false), []⟩, ⟨some 55, .pick (.tmp 52) (.const (.bool true)) (.tmp 54), none, []⟩] false) (.cond (.tmp 55) (.seq (.region 10 [⟨some 4, .asg 1 (.const (.slice none 0 0)) 30, none, []⟩, ⟨some 5, .asg 1 (.const (.slice none 0 0)) 30, none, []⟩, ⟨some 6, .asg 0 (.const (.bool false)) 4, none, []⟩] false) .ret) .skip)) (.seq (.region 11 [⟨some 56, .mov (.tmp 0), none, []⟩, ⟨some 57, .load 23 (.tmp 14), none, []⟩, ⟨some 58, .load 23 (.tmp 10), none, []⟩, ⟨some 59, .call 0 (.func 51) [(.tmp 56), (.tmp 57), (.tmp 58), (.const (.int .i64 1))], none, []⟩, ⟨none, .store 23 (.tmp 14) (.tmp 59), none, []⟩] false) (.seq (.region 12 [⟨some 60, .mov (.tmp 0), none, []⟩, ⟨some 61, .load 23 (.tmp 16), none, []⟩, ⟨some 62, .load 23 (.tmp 12), none, []⟩, ⟨some 63, .call 0 (.func 51) [(.tmp 60), (.tmp 61), (.tmp 62), (.const (.int .i64 1))], none, []⟩, ⟨none, .store 23 (.tmp 16) (.tmp 63), none, []⟩] false) (.seq (.region 13 [⟨some 64, .load 23 (.tmp 9), none, []⟩, ⟨none, .store 23 (.tmp 10) (.tmp 64), none, []⟩] false) (.seq (.region 14 [⟨some 65, .load 23 (.tmp 11), none, []⟩, ⟨none, .store 23 (.tmp 12) (.tmp 65), none, []⟩] false) (.seq (.region 15 [⟨some 66, .load 23 (.tmp 14), none, []⟩, ⟨none, .store 23 (.tmp 9) (.tmp 66), none, []⟩] false) (.seq (.region 16 [⟨some 67, .load 23 (.tmp 16), none, []⟩, ⟨none, .store 23 (.tmp 11) (.tmp 67), none, []⟩] false) (.seq (.region 17 [⟨some 68, .mov (.tmp 7), none, []⟩, ⟨some 69, .load 23 (.tmp 9), none, []⟩, ⟨some 70, .bslice 0 30 1 [(0, (.tmp 69))], none, []⟩, ⟨some 71, .blt 0 .append [(.tmp 68), (.tmp 70)] [30, 30], none, []⟩, ⟨some 7, .asg 2 (.tmp 71) 30, none, []⟩] false) (.region 18 [⟨some 72, .mov (.tmp 8), none, []⟩, ⟨some 73, .load 23 (.tmp 11), none, []⟩, ⟨some 74, .bslice 0 30 1 [(0, (.tmp 73))], none, []⟩, ⟨some 75, .blt 0 .append [(.tmp 72), (.tmp 74)] [30, 30], none, []⟩, ⟨some 8, .asg 2 (.tmp 75) 30, none, []⟩] false)))))))))))) (.region 6 [⟨some 28, .mov (.tmp 13), none, []⟩, ⟨some 29, .bin .add 3 (.tmp 28) (.const (.int .i64 1)), none, []⟩, ⟨some 13, .asg 0 (.tmp 29) 3, none, []⟩] false)))))) (.seq (.region 19 [⟨some 76, .mov (.tmp 7), none, []⟩, ⟨some 77, .mov (.tmp 8), none, []⟩, ⟨some 4, .asg 1 (.tmp 76) 30, none, []⟩, ⟨some 5, .asg 1 (.tmp 77) 30, none, []⟩, ⟨some 6, .asg 0 (.const (.bool true)) 4, none, []⟩] false) .ret))))))
def spec_l10Convergents_L : Live := [(0, [0, 1]), (1, [0, 1]), (2, [0, 1, 7, 8]), (3, [0, 1, 7, 8, 9, 10]), (4, [0, 1, 7, 8, 9, 10, 11, 12]), (5, [0, 1, 7, 8, 9, 10, 11, 12, 13]), (6, [0, 1, 7, 8, 9, 10, 11, 12, 13]), (7, [0, 1, 7, 8, 9, 10, 11, 12, 13]), (8, [0, 1, 7, 8, 9, 10, 11, 12, 13, 14, 15]), (9, [0, 1, 7, 8, 9, 10, 11, 12, 13, 14, 15, 16, 17]), (10, []), (11, [0, 1, 7, 8, 9, 10, 11, 12, 13, 14, 16]), (12, [0, 1, 7, 8, 9, 10, 11, 12, 13, 14, 16]), (13, [0, 1, 7, 8, 9, 10, 11, 12, 13, 14, 16]), (14, [0, 1, 7, 8, 9, 10, 11, 12, 13, 14, 16]), (15, [0, 1, 7, 8, 9, 10, 11, 12, 13, 14, 16]), (16, [0, 1, 7, 8, 9, 10, 11, 12, 13, 16]), (17, [0, 1, 7, 8, 9, 10, 11, 12, 13]), (18, [0, 1, 7, 8, 9, 10, 11, 12, 13]), (19, [7, 8]), (100027, [0, 1, 7, 8, 9, 10, 11, 12, 13, 27]), (100055, [0, 1, 7, 8, 9, 10, 11, 12, 13, 14, 16, 55])]
theorem spec_l10Convergents_body : Try.f79.body = some (Try.f79.body.getD .skip) := by kernel_rfl
theorem spec_l10Convergents_strip : strip [(4, 1), (5, 1), (7, 2), (8, 2), (18, 2), (19, 2)] (Try.f79.body.getD .skip) = spec_l10Convergents_c := by kernel_rfl
noncomputable def spec_l10Convergents_l1 (a1 : (List (Vec Int 64))) (a0 : Int) (x241 : Int) (x242 : (List (Vec Int 64))) (x243 : (List (Vec Int 64))) (x244 : (Vec Int 64)) (x245 : (Vec Int 64)) (x246 : (Vec Int 64)) (x247 : (Vec Int 64)) : Option ((Int × (List (Vec Int 64)) × (List (Vec Int 64)) × (Vec Int 64) × (Vec Int 64) × (Vec Int 64) × (Vec Int 64)) ⊕ (((List (Vec Int 64)) × (List (Vec Int 64))) ⊕ ((List (Vec Int 64)) × (List (Vec Int 64)) × Bool))) :=
  (if (decide (x241 < (a1.length : Int))) then (ifp (0 ≤ x241 ∧ x241 < ((a1.length : Nat) : Int)) ((Option.bind (spec_l01Times a0 (rd a1 x241.toNat) x244) fun r315 => (ifp (0 ≤ x241 ∧ x241 < ((a1.length : Nat) : Int)) ((Option.bind (spec_l01Times a0 (rd a1 x241.toNat) x246) fun r327 => (Option.bind (α := Bool) ((if (!r315.2) then (some true) else (some (!r327.2)))) fun x331 => (if x331 then (some (.inr ((.inr ([], [], false))))) else (Option.bind (spec_l01Add a0 r315.1 x245 1) fun r339 => (Option.bind (spec_l01Add a0 r327.1 x247 1) fun r344 => (ifp ((x242.length + ([r339] : List (Vec Int 64)).length) * 64 ≤ 140737488355328) ((ifp ((x243.length + ([r344] : List (Vec Int 64)).length) * 64 ≤ 140737488355328) ((some (.inl ((IntKind.i64.wrap (x241 + 1), (x242 ++ ([r339])), (x243 ++ ([r344])), r339, x244, r344, x246)))))))))))))))))) else (some (.inr (((.inl (x242, x243)))))))
noncomputable def spec_l10Convergents (a0 : Int) (a1 : (List (Vec Int 64))) : Option ((List (Vec Int 64)) × (List (Vec Int 64)) × Bool) :=
  (Option.bind (spec_l01One) fun r1 => (Option.bind (spec_l01One) fun r5 => (Option.bind (α := (((List (Vec Int 64)) × (List (Vec Int 64))) ⊕ ((List (Vec Int 64)) × (List (Vec Int 64)) × Bool))) ((loopM (fun s : (Int × (List (Vec Int 64)) × (List (Vec Int 64)) × (Vec Int 64) × (Vec Int 64) × (Vec Int 64) × (Vec Int 64)) => spec_l10Convergents_l1 a1 a0 s.1 s.2.1 s.2.2.1 s.2.2.2.1 s.2.2.2.2.1 s.2.2.2.2.2.1 s.2.2.2.2.2.2) (0, [], [], r1, (vrep 64 (0 : Int)), (vrep 64 (0 : Int)), r5))) fun z => match z with | .inl ⟨x182, x183⟩ => (some (x182, x183, true)) | .inr r360 => (some r360))))
set_option maxHeartbeats 16000000 in
theorem spec_l10Convergents_ok (a0 : Int) (a1 : (List (Vec Int 64))) (r : ((List (Vec Int 64)) × (List (Vec Int 64)) × Bool)) (h : spec_l10Convergents a0 a1 = some r) : Den Try.prog 79 [(.int .i64 a0), (eSA64u8 a1)] { r := (.tuple [(eSA64u8 r.1), (eSA64u8 r.2.1), (.bool r.2.2)]) } := by
  refine den_of (rs := [(eSA64u8 r.1), (eSA64u8 r.2.1), (.bool r.2.2)]) (ac := spec_l10Convergents_c) (L := spec_l10Convergents_L) (n := 78) (m := [(4, 1), (5, 1), (7, 2), (8, 2), (18, 2), (19, 2)]) good Try.func79 spec_l10Convergents_body (by kernel_rfl) Try.ntmps79 rfl rfl spec_l10Convergents_strip rfl rfl ?_
  refine a_st (σ' := ⟨[(0, (.int .i64 a0)), (1, (eSA64u8 a1))], []⟩) (by kernel_rfl) ?_
  unfold spec_l10Convergents_c
  refine a_seq ?_
  refine a_region ?_
  refine a_val (v := (eSA64u8 ([]))) (u := []) rfl trivial rfl ?_
  refine a_val (v := (eSA64u8 ([]))) (u := []) rfl trivial rfl ?_
  refine a_val (v := (.bool false)) (u := []) rfl trivial rfl ?_
  refine a_nil ?_
  refine a_next (σ' := ⟨[(0, (.int .i64 a0)), (1, (eSA64u8 a1))], []⟩) (by kernel_rfl) ?_
  refine a_seq ?_
  refine a_region ?_
  refine a_val (v := (.osl 2800)) (u := [(2800, some ⟨(.row 64 (([]).map eA64u8)), false⟩)]) rfl ⟨(Nat.le_of_ble_eq_true rfl), (Nat.le_of_ble_eq_true rfl), all_nil⟩ rfl ?_
  refine a_val (v := (.osl 2900)) (u := [(2900, some ⟨(.row 64 (([]).map eA64u8)), false⟩)]) rfl ⟨(Nat.le_of_ble_eq_true rfl), (Nat.le_of_ble_eq_true rfl), all_nil⟩ rfl ?_
  refine a_val (v := (.osl 2800)) (u := []) rfl trivial rfl ?_
  refine a_val (v := (.osl 2900)) (u := []) rfl trivial rfl ?_
  refine a_nil ?_
  refine a_next (σ' := ⟨[(0, (.int .i64 a0)), (1, (eSA64u8 a1)), (7, (.osl 7)), (8, (.osl 8))], [(7, some ⟨(.row 64 (([]).map eA64u8)), false⟩), (8, some ⟨(.row 64 (([]).map eA64u8)), false⟩)]⟩) (by kernel_rfl) ?_
  refine a_seq ?_
  refine a_region ?_
  obtain ⟨r1, hr2, h⟩ := bind_some h
  refine a_call (args := []) (u := []) (r := (eA64u8 r1)) rfl rfl (spec_l01One_ok r1 hr2) rfl ?_
  refine a_val (v := (eA64u8 ((vrep 64 (0 : Int))))) (u := []) rfl ⟨⟨_, rfl, rfl⟩, all_nil⟩ rfl ?_
  refine a_val (v := (.own 1900 [] [])) (u := [(1900, some ⟨(eA64u8 ((vrep 64 (0 : Int)))), false⟩)]) rfl trivial rfl ?_
  refine a_val (v := (.own 2000 [] [])) (u := [(2000, some ⟨(eA64u8 ((vrep 64 (0 : Int)))), false⟩)]) rfl trivial rfl ?_
  have hs3 : StOk [] (eA64u8 ((vrep 64 (0 : Int)))) [] 64 (eA64u8 r1) (eA64u8 r1) := (.nil rfl rfl rfl rfl)
  refine a_val (v := .top) (u := [(1900, some ⟨(eA64u8 r1), false⟩)]) (st_own (i := ⟨.arr 64 5, 64, 64, (eA64u8 (vrep 64 (0 : Int)))⟩) rfl rfl (fun _ => rfl) rfl hs3) (hs3.c rfl) rfl ?_
  have hs4 : StOk [] (eA64u8 ((vrep 64 (0 : Int)))) [] 64 (eA64u8 ((vrep 64 (0 : Int)))) (eA64u8 ((vrep 64 (0 : Int)))) := (.nil rfl rfl rfl rfl)
  refine a_val (v := .top) (u := [(2000, some ⟨(eA64u8 ((vrep 64 (0 : Int)))), false⟩)]) (st_own (i := ⟨.arr 64 5, 64, 64, (eA64u8 (vrep 64 (0 : Int)))⟩) rfl rfl (fun _ => rfl) rfl hs4) (hs4.c rfl) rfl ?_
  refine a_nil ?_
  refine a_next (σ' := ⟨[(0, (.int .i64 a0)), (1, (eSA64u8 a1)), (7, (.osl 7)), (8, (.osl 8)), (9, (.own 9 [] [])), (10, (.own 10 [] []))], [(7, some ⟨(.row 64 (([]).map eA64u8)), false⟩), (8, some ⟨(.row 64 (([]).map eA64u8)), false⟩), (9, some ⟨(eA64u8 r1), false⟩), (10, some ⟨(eA64u8 ((vrep 64 (0 : Int)))), false⟩)]⟩) (by kernel_rfl) ?_
  refine a_seq ?_
  refine a_region ?_
  refine a_val (v := (eA64u8 ((vrep 64 (0 : Int))))) (u := []) rfl ⟨⟨_, rfl, rfl⟩, all_nil⟩ rfl ?_
  obtain ⟨r5, hr6, h⟩ := bind_some h
  refine a_call (args := []) (u := []) (r := (eA64u8 r5)) rfl rfl (spec_l01One_ok r5 hr6) rfl ?_
  refine a_val (v := (.own 2100 [] [])) (u := [(2100, some ⟨(eA64u8 ((vrep 64 (0 : Int)))), false⟩)]) rfl trivial rfl ?_
  refine a_val (v := (.own 2200 [] [])) (u := [(2200, some ⟨(eA64u8 ((vrep 64 (0 : Int)))), false⟩)]) rfl trivial rfl ?_
  have hs7 : StOk [] (eA64u8 ((vrep 64 (0 : Int)))) [] 64 (eA64u8 ((vrep 64 (0 : Int)))) (eA64u8 ((vrep 64 (0 : Int)))) := (.nil rfl rfl rfl rfl)
  refine a_val (v := .top) (u := [(2100, some ⟨(eA64u8 ((vrep 64 (0 : Int)))), false⟩)]) (st_own (i := ⟨.arr 64 5, 64, 64, (eA64u8 (vrep 64 (0 : Int)))⟩) rfl rfl (fun _ => rfl) rfl hs7) (hs7.c rfl) rfl ?_
  have hs8 : StOk [] (eA64u8 ((vrep 64 (0 : Int)))) [] 64 (eA64u8 r5) (eA64u8 r5) := (.nil rfl rfl rfl rfl)
  refine a_val (v := .top) (u := [(2200, some ⟨(eA64u8 r5), false⟩)]) (st_own (i := ⟨.arr 64 5, 64, 64, (eA64u8 (vrep 64 (0 : Int)))⟩) rfl rfl (fun _ => rfl) rfl hs8) (hs8.c rfl) rfl ?_
  refine a_nil ?_
  refine a_next (σ' := ⟨[(0, (.int .i64 a0)), (1, (eSA64u8 a1)), (7, (.osl 7)), (8, (.osl 8)), (9, (.own 9 [] [])), (10, (.own 10 [] [])), (11, (.own 11 [] [])), (12, (.own 12 [] []))], [(7, some ⟨(.row 64 (([]).map eA64u8)), false⟩), (8, some ⟨(.row 64 (([]).map eA64u8)), false⟩), (9, some ⟨(eA64u8 r1), false⟩), (10, some ⟨(eA64u8 ((vrep 64 (0 : Int)))), false⟩), (11, some ⟨(eA64u8 ((vrep 64 (0 : Int)))), false⟩), (12, some ⟨(eA64u8 r5), false⟩)]⟩) (by kernel_rfl) ?_
  obtain ⟨y184, hy185, hk186⟩ := bind_some h
  clear h
  refine a_join (emb := fun (s : ((List (Vec Int 64)) × (List (Vec Int 64)))) => ⟨[(7, (.osl 7)), (8, (.osl 8))], [(7, some ⟨(.row 64 (s.1.map eA64u8)), false⟩), (8, some ⟨(.row 64 (s.2.map eA64u8)), false⟩)]⟩) (pre := fun s => (.inl s) = y184) ?_ ?_
  · rintro ⟨x182, x183⟩ rfl
    have h := hk186
    refine a_st (σ' := ⟨[(7, (.osl 7)), (8, (.osl 8))], [(7, some ⟨(.row 64 (x182.map eA64u8)), false⟩), (8, some ⟨(.row 64 (x183.map eA64u8)), false⟩)]⟩) (by kernel_rfl) ?_
    refine a_seq ?_
    refine a_region ?_
    refine a_val (v := (.osl 7)) (u := []) rfl trivial rfl ?_
    refine a_val (v := (.osl 8)) (u := []) rfl trivial rfl ?_
    refine a_val (v := (eSA64u8 x182)) (u := [(7, some ⟨(.row 64 (x182.map eA64u8)), true⟩)]) rfl trivial rfl ?_
    refine a_val (v := (eSA64u8 x183)) (u := [(8, some ⟨(.row 64 (x183.map eA64u8)), true⟩)]) rfl trivial rfl ?_
    refine a_val (v := (.bool true)) (u := []) rfl trivial rfl ?_
    refine a_nil ?_
    refine a_next rfl ?_
    refine a_ret ?_
    refine ⟨.inr rfl, ?_⟩
    rw [Try.results79]
    cases h
    exact ⟨_, _, _, _, _, rfl, trivial, .inl ⟨rfl, .inl rfl⟩, rfl, ⟨_, _, _, _, _, rfl, trivial, .inl ⟨rfl, .inl rfl⟩, rfl, ⟨_, _, _, _, _, rfl, trivial, .inl ⟨rfl, .inl rfl⟩, rfl, rfl⟩⟩⟩
  · have h := hy185
    refine a_seq ?_
    refine a_region ?_
    refine a_val (v := (.int .i64 0)) (u := []) rfl trivial rfl ?_
    refine a_nil ?_
    refine a_next (σ' := ⟨[(0, (.int .i64 a0)), (1, (eSA64u8 a1)), (7, (.osl 7)), (8, (.osl 8)), (9, (.own 9 [] [])), (10, (.own 10 [] [])), (11, (.own 11 [] [])), (12, (.own 12 [] [])), (13, (.int .i64 0))], [(7, some ⟨(.row 64 (([]).map eA64u8)), false⟩), (8, some ⟨(.row 64 (([]).map eA64u8)), false⟩), (9, some ⟨(eA64u8 r1), false⟩), (10, some ⟨(eA64u8 ((vrep 64 (0 : Int)))), false⟩), (11, some ⟨(eA64u8 ((vrep 64 (0 : Int)))), false⟩), (12, some ⟨(eA64u8 r5), false⟩)]⟩) (by kernel_rfl) ?_
    refine a_block ?_
    refine a_loop (emb := fun (s : (Int × (List (Vec Int 64)) × (List (Vec Int 64)) × (Vec Int 64) × (Vec Int 64) × (Vec Int 64) × (Vec Int 64))) => ⟨[(0, (.int .i64 a0)), (1, (eSA64u8 a1)), (7, (.osl 7)), (8, (.osl 8)), (9, (.own 9 [] [])), (10, (.own 10 [] [])), (11, (.own 11 [] [])), (12, (.own 12 [] [])), (13, (.int .i64 s.1))], [(7, some ⟨(.row 64 (s.2.1.map eA64u8)), false⟩), (8, some ⟨(.row 64 (s.2.2.1.map eA64u8)), false⟩), (9, some ⟨(eA64u8 s.2.2.2.1), false⟩), (10, some ⟨(eA64u8 s.2.2.2.2.1), false⟩), (11, some ⟨(eA64u8 s.2.2.2.2.2.1), false⟩), (12, some ⟨(eA64u8 s.2.2.2.2.2.2), false⟩)]⟩) (body := (fun s : (Int × (List (Vec Int 64)) × (List (Vec Int 64)) × (Vec Int 64) × (Vec Int 64) × (Vec Int 64) × (Vec Int 64)) => spec_l10Convergents_l1 a1 a0 s.1 s.2.1 s.2.2.1 s.2.2.2.1 s.2.2.2.2.1 s.2.2.2.2.2.1 s.2.2.2.2.2.2)) (G := fun q => some q = some y184) h rfl ?_ (by kernel_rfl)
    rintro X302 ⟨x241, x242, x243, x244, x245, x246, x247⟩ x303 h hX304
    have h : spec_l10Convergents_l1 a1 a0 x241 x242 x243 x244 x245 x246 x247 = some x303 := h
    refine a_st (σ' := ⟨[(0, (.int .i64 a0)), (1, (eSA64u8 a1)), (7, (.osl 7)), (8, (.osl 8)), (9, (.own 9 [] [])), (10, (.own 10 [] [])), (11, (.own 11 [] [])), (12, (.own 12 [] [])), (13, (.int .i64 x241))], [(7, some ⟨(.row 64 (x242.map eA64u8)), false⟩), (8, some ⟨(.row 64 (x243.map eA64u8)), false⟩), (9, some ⟨(eA64u8 x244), false⟩), (10, some ⟨(eA64u8 x245), false⟩), (11, some ⟨(eA64u8 x246), false⟩), (12, some ⟨(eA64u8 x247), false⟩)]⟩) (by kernel_rfl) ?_
    refine a_seq ?_
    refine a_seq ?_
    refine a_region ?_
    refine a_val (v := (.int .i64 x241)) (u := []) rfl trivial rfl ?_
    refine a_val (v := (eSA64u8 a1)) (u := []) rfl trivial rfl ?_
    refine a_val (v := (.int .i64 (a1.length : Int))) (u := []) (len_run rfl rfl) trivial rfl ?_
    refine a_val (v := (.bool ((decide (x241 < (a1.length : Int)))))) (u := []) rfl trivial rfl ?_
    refine a_nil ?_
    refine a_next (σ' := ⟨[(0, (.int .i64 a0)), (1, (eSA64u8 a1)), (7, (.osl 7)), (8, (.osl 8)), (9, (.own 9 [] [])), (10, (.own 10 [] [])), (11, (.own 11 [] [])), (12, (.own 12 [] [])), (13, (.int .i64 x241)), (27, (.bool ((decide (x241 < (a1.length : Int))))))], [(7, some ⟨(.row 64 (x242.map eA64u8)), false⟩), (8, some ⟨(.row 64 (x243.map eA64u8)), false⟩), (9, some ⟨(eA64u8 x244), false⟩), (10, some ⟨(eA64u8 x245), false⟩), (11, some ⟨(eA64u8 x246), false⟩), (12, some ⟨(eA64u8 x247), false⟩)]⟩) (by kernel_rfl) ?_
    cases hb305 : (decide (x241 < (a1.length : Int)))
    · have h := ite_f hb305 h
      refine a_cond_f rfl ?_
      refine a_exit ?_
      refine t_exit ?_
      cases h
      have h := hX304
      refine t_exit ?_
      refine b_exit ?_
      exact j_leaf (x242, x243) (Option.some.inj h) (by kernel_rfl)
    · have h := ite_t hb305 h
      refine a_cond_t rfl ?_
      refine a_skip ?_
      refine a_next (σ' := ⟨[(0, (.int .i64 a0)), (1, (eSA64u8 a1)), (7, (.osl 7)), (8, (.osl 8)), (9, (.own 9 [] [])), (10, (.own 10 [] [])), (11, (.own 11 [] [])), (12, (.own 12 [] [])), (13, (.int .i64 x241))], [(7, some ⟨(.row 64 (x242.map eA64u8)), false⟩), (8, some ⟨(.row 64 (x243.map eA64u8)), false⟩), (9, some ⟨(eA64u8 x244), false⟩), (10, some ⟨(eA64u8 x245), false⟩), (11, some ⟨(eA64u8 x246), false⟩), (12, some ⟨(eA64u8 x247), false⟩)]⟩) (by kernel_rfl) ?_
      refine a_seq ?_
      refine a_block ?_
      refine a_seq ?_
      refine a_draw [⟨[], [], [], []⟩, ⟨[], [], [], []⟩, ⟨[], [], [], []⟩, ⟨[], [], [], [1, 2]⟩, ⟨[], [], [], [1, 2, 3]⟩, ⟨[9], [], [], []⟩, ⟨[], [], [], [0, 1, 2, 3, 4, 5]⟩, ⟨[], [], [], [0, 1, 2, 3, 4, 5, 6]⟩, ⟨[], [], [], [0, 1, 2, 3, 4, 5, 6, 7]⟩, ⟨[], [], [], [0, 1, 2, 3, 4, 5, 6, 7]⟩, ⟨[2400], [2400], [2400], []⟩, ⟨[2400], [2400], [], [0, 1, 2, 3, 4, 5, 6, 7, 8, 10]⟩, ⟨[], [], [], [0, 1, 2, 3, 4, 5, 6, 7, 8, 9, 10, 11]⟩] (by kernel_rfl) ?_
      refine d_cons ?_
      refine a_val (v := (.int .i64 a0)) (u := []) rfl trivial rfl ?_
      refine d_next (by kernel_rfl) ?_
      refine d_cons ?_
      refine a_val (v := (eSA64u8 a1)) (u := []) rfl trivial rfl ?_
      refine d_next (by kernel_rfl) ?_
      refine d_cons ?_
      refine a_val (v := (.int .i64 x241)) (u := []) rfl trivial rfl ?_
      refine d_next (by kernel_rfl) ?_
      refine d_cons ?_
      obtain ⟨hc312, h⟩ := ifp_some h
      refine a_val (v := (.ref (.row 64 (a1.map eA64u8)) [x241.toNat] [x241.toNat * 64])) (u := []) rfl (lmap hc312) rfl ?_
      refine d_next (by kernel_rfl) ?_
      refine d_cons ?_
      have hl313 : LdOk [x241.toNat] (.row 64 (a1.map eA64u8)) [x241.toNat * 64] 64 true (eA64u8 (rd a1 x241.toNat)) := (.row (llt hc312) rfl (.nil rfl rfl rfl))
      refine a_val (v := (eA64u8 (rd a1 x241.toNat))) (u := []) (ld_ref (i := ⟨.arr 64 5, 64, 64, (eA64u8 (vrep 64 (0 : Int)))⟩) rfl rfl hl313) hl313.c rfl ?_
      refine d_next (by kernel_rfl) ?_
      refine d_cons ?_
      have hl314 : LdOk [] (eA64u8 x244) [] 64 true (eA64u8 x244) := (.nil rfl rfl rfl)
      refine a_val (v := (eA64u8 x244)) (u := []) (ld_own (i := ⟨.arr 64 5, 64, 64, (eA64u8 (vrep 64 (0 : Int)))⟩) rfl rfl rfl hl314) hl314.c rfl ?_
      refine d_next (by kernel_rfl) ?_
      refine d_cons ?_
      obtain ⟨r315, hr316, h⟩ := bind_some h
      refine a_call (args := [(.int .i64 a0), (eA64u8 (rd a1 x241.toNat)), (eA64u8 x244)]) (u := []) (r := (.tuple [(eA64u8 r315.1), (.bool r315.2)])) rfl rfl (spec_l01Times_ok a0 (rd a1 x241.toNat) x244 r315 hr316) rfl ?_
      refine d_next (by kernel_rfl) ?_
      refine d_cons ?_
      refine a_val (v := (.tuple [(eA64u8 r315.1), (.bool r315.2)])) (u := []) rfl trivial rfl ?_
      refine d_next (by kernel_rfl) ?_
      refine d_cons ?_
      refine a_val (v := (eA64u8 r315.1)) (u := []) rfl (Nat.le_of_ble_eq_true rfl) rfl ?_
      refine d_next (by kernel_rfl) ?_
      refine d_cons ?_
      refine a_val (v := (.bool r315.2)) (u := []) rfl (Nat.le_of_ble_eq_true rfl) rfl ?_
      refine d_next (by kernel_rfl) ?_
      refine d_cons ?_
      refine a_val (v := (.own 2400 [] [])) (u := [(2400, some ⟨(eA64u8 ((vrep 64 (0 : Int)))), false⟩)]) rfl trivial rfl ?_
      refine d_next (by kernel_rfl) ?_
      refine d_cons ?_
      have hs317 : StOk [] (eA64u8 ((vrep 64 (0 : Int)))) [] 64 (eA64u8 r315.1) (eA64u8 r315.1) := (.nil rfl rfl rfl rfl)
      refine a_val (v := .top) (u := [(2400, some ⟨(eA64u8 r315.1), false⟩)]) (st_own (i := ⟨.arr 64 5, 64, 64, (eA64u8 (vrep 64 (0 : Int)))⟩) rfl rfl (fun _ => rfl) rfl hs317) (hs317.c rfl) rfl ?_
      refine d_next (by kernel_rfl) ?_
      refine d_cons ?_
      refine a_val (v := (.bool r315.2)) (u := []) rfl trivial rfl ?_
      refine d_next (by kernel_rfl) ?_
      refine d_nil ?_
      refine a_next (σ' := ⟨[(0, (.int .i64 a0)), (1, (eSA64u8 a1)), (7, (.osl 7)), (8, (.osl 8)), (9, (.own 9 [] [])), (10, (.own 10 [] [])), (11, (.own 11 [] [])), (12, (.own 12 [] [])), (13, (.int .i64 x241)), (14, (.own 14 [] [])), (15, (.bool r315.2))], [(7, some ⟨(.row 64 (x242.map eA64u8)), false⟩), (8, some ⟨(.row 64 (x243.map eA64u8)), false⟩), (9, some ⟨(eA64u8 x244), false⟩), (10, some ⟨(eA64u8 x245), false⟩), (11, some ⟨(eA64u8 x246), false⟩), (12, some ⟨(eA64u8 x247), false⟩), (14, some ⟨(eA64u8 r315.1), false⟩)]⟩) (by kernel_rfl) ?_
      refine a_seq ?_
      refine a_draw [⟨[], [], [], []⟩, ⟨[], [], [], []⟩, ⟨[], [], [], []⟩, ⟨[], [], [], [1, 2]⟩, ⟨[], [], [], [1, 2, 3]⟩, ⟨[11], [], [], []⟩, ⟨[], [], [], [0, 1, 2, 3, 4, 5]⟩, ⟨[], [], [], [0, 1, 2, 3, 4, 5, 6]⟩, ⟨[], [], [], [0, 1, 2, 3, 4, 5, 6, 7]⟩, ⟨[], [], [], [0, 1, 2, 3, 4, 5, 6, 7]⟩, ⟨[2600], [2600], [2600], []⟩, ⟨[2600], [2600], [], [0, 1, 2, 3, 4, 5, 6, 7, 8, 10]⟩, ⟨[], [], [], [0, 1, 2, 3, 4, 5, 6, 7, 8, 9, 10, 11]⟩] (by kernel_rfl) ?_
      refine d_cons ?_
      refine a_val (v := (.int .i64 a0)) (u := []) rfl trivial rfl ?_
      refine d_next (by kernel_rfl) ?_
      refine d_cons ?_
      refine a_val (v := (eSA64u8 a1)) (u := []) rfl trivial rfl ?_
      refine d_next (by kernel_rfl) ?_
      refine d_cons ?_
      refine a_val (v := (.int .i64 x241)) (u := []) rfl trivial rfl ?_
      refine d_next (by kernel_rfl) ?_
      refine d_cons ?_
      obtain ⟨hc324, h⟩ := ifp_some h
      refine a_val (v := (.ref (.row 64 (a1.map eA64u8)) [x241.toNat] [x241.toNat * 64])) (u := []) rfl (lmap hc324) rfl ?_
      refine d_next (by kernel_rfl) ?_
      refine d_cons ?_
      have hl325 : LdOk [x241.toNat] (.row 64 (a1.map eA64u8)) [x241.toNat * 64] 64 true (eA64u8 (rd a1 x241.toNat)) := (.row (llt hc324) rfl (.nil rfl rfl rfl))
      refine a_val (v := (eA64u8 (rd a1 x241.toNat))) (u := []) (ld_ref (i := ⟨.arr 64 5, 64, 64, (eA64u8 (vrep 64 (0 : Int)))⟩) rfl rfl hl325) hl325.c rfl ?_
      refine d_next (by kernel_rfl) ?_
      refine d_cons ?_
      have hl326 : LdOk [] (eA64u8 x246) [] 64 true (eA64u8 x246) := (.nil rfl rfl rfl)
      refine a_val (v := (eA64u8 x246)) (u := []) (ld_own (i := ⟨.arr 64 5, 64, 64, (eA64u8 (vrep 64 (0 : Int)))⟩) rfl rfl rfl hl326) hl326.c rfl ?_
      refine d_next (by kernel_rfl) ?_
      refine d_cons ?_
      obtain ⟨r327, hr328, h⟩ := bind_some h
      refine a_call (args := [(.int .i64 a0), (eA64u8 (rd a1 x241.toNat)), (eA64u8 x246)]) (u := []) (r := (.tuple [(eA64u8 r327.1), (.bool r327.2)])) rfl rfl (spec_l01Times_ok a0 (rd a1 x241.toNat) x246 r327 hr328) rfl ?_
      refine d_next (by kernel_rfl) ?_
      refine d_cons ?_
      refine a_val (v := (.tuple [(eA64u8 r327.1), (.bool r327.2)])) (u := []) rfl trivial rfl ?_
      refine d_next (by kernel_rfl) ?_
      refine d_cons ?_
      refine a_val (v := (eA64u8 r327.1)) (u := []) rfl (Nat.le_of_ble_eq_true rfl) rfl ?_
      refine d_next (by kernel_rfl) ?_
      refine d_cons ?_
      refine a_val (v := (.bool r327.2)) (u := []) rfl (Nat.le_of_ble_eq_true rfl) rfl ?_
      refine d_next (by kernel_rfl) ?_
      refine d_cons ?_
      refine a_val (v := (.own 2600 [] [])) (u := [(2600, some ⟨(eA64u8 ((vrep 64 (0 : Int)))), false⟩)]) rfl trivial rfl ?_
      refine d_next (by kernel_rfl) ?_
      refine d_cons ?_
      have hs329 : StOk [] (eA64u8 ((vrep 64 (0 : Int)))) [] 64 (eA64u8 r327.1) (eA64u8 r327.1) := (.nil rfl rfl rfl rfl)
      refine a_val (v := .top) (u := [(2600, some ⟨(eA64u8 r327.1), false⟩)]) (st_own (i := ⟨.arr 64 5, 64, 64, (eA64u8 (vrep 64 (0 : Int)))⟩) rfl rfl (fun _ => rfl) rfl hs329) (hs329.c rfl) rfl ?_
      refine d_next (by kernel_rfl) ?_
      refine d_cons ?_
      refine a_val (v := (.bool r327.2)) (u := []) rfl trivial rfl ?_
      refine d_next (by kernel_rfl) ?_
      refine d_nil ?_
      refine a_next (σ' := ⟨[(0, (.int .i64 a0)), (1, (eSA64u8 a1)), (7, (.osl 7)), (8, (.osl 8)), (9, (.own 9 [] [])), (10, (.own 10 [] [])), (11, (.own 11 [] [])), (12, (.own 12 [] [])), (13, (.int .i64 x241)), (14, (.own 14 [] [])), (15, (.bool r315.2)), (16, (.own 16 [] [])), (17, (.bool r327.2))], [(7, some ⟨(.row 64 (x242.map eA64u8)), false⟩), (8, some ⟨(.row 64 (x243.map eA64u8)), false⟩), (9, some ⟨(eA64u8 x244), false⟩), (10, some ⟨(eA64u8 x245), false⟩), (11, some ⟨(eA64u8 x246), false⟩), (12, some ⟨(eA64u8 x247), false⟩), (14, some ⟨(eA64u8 r315.1), false⟩), (16, some ⟨(eA64u8 r327.1), false⟩)]⟩) (by kernel_rfl) ?_
      refine a_seq ?_
      obtain ⟨y332, hy333, hk334⟩ := bind_some h
      clear h
      refine a_join (emb := fun (s : Bool) => ⟨[(0, (.int .i64 a0)), (1, (eSA64u8 a1)), (7, (.osl 7)), (8, (.osl 8)), (9, (.own 9 [] [])), (10, (.own 10 [] [])), (11, (.own 11 [] [])), (12, (.own 12 [] [])), (13, (.int .i64 x241)), (14, (.own 14 [] [])), (16, (.own 16 [] [])), (55, (.bool s))], [(7, some ⟨(.row 64 (x242.map eA64u8)), false⟩), (8, some ⟨(.row 64 (x243.map eA64u8)), false⟩), (9, some ⟨(eA64u8 x244), false⟩), (10, some ⟨(eA64u8 x245), false⟩), (11, some ⟨(eA64u8 x246), false⟩), (12, some ⟨(eA64u8 x247), false⟩), (14, some ⟨(eA64u8 r315.1), false⟩), (16, some ⟨(eA64u8 r327.1), false⟩)]⟩) (pre := fun s => s = y332) ?_ ?_
      · rintro x331 rfl
        have h := hk334
        refine a_st (σ' := ⟨[(0, (.int .i64 a0)), (1, (eSA64u8 a1)), (7, (.osl 7)), (8, (.osl 8)), (9, (.own 9 [] [])), (10, (.own 10 [] [])), (11, (.own 11 [] [])), (12, (.own 12 [] [])), (13, (.int .i64 x241)), (14, (.own 14 [] [])), (16, (.own 16 [] [])), (55, (.bool x331))], [(7, some ⟨(.row 64 (x242.map eA64u8)), false⟩), (8, some ⟨(.row 64 (x243.map eA64u8)), false⟩), (9, some ⟨(eA64u8 x244), false⟩), (10, some ⟨(eA64u8 x245), false⟩), (11, some ⟨(eA64u8 x246), false⟩), (12, some ⟨(eA64u8 x247), false⟩), (14, some ⟨(eA64u8 r315.1), false⟩), (16, some ⟨(eA64u8 r327.1), false⟩)]⟩) (by kernel_rfl) ?_
        cases hb336 : x331
        · have h := ite_f hb336 h
          refine a_cond_f rfl ?_
          refine a_skip ?_
          refine a_next (σ' := ⟨[(0, (.int .i64 a0)), (1, (eSA64u8 a1)), (7, (.osl 7)), (8, (.osl 8)), (9, (.own 9 [] [])), (10, (.own 10 [] [])), (11, (.own 11 [] [])), (12, (.own 12 [] [])), (13, (.int .i64 x241)), (14, (.own 14 [] [])), (16, (.own 16 [] []))], [(7, some ⟨(.row 64 (x242.map eA64u8)), false⟩), (8, some ⟨(.row 64 (x243.map eA64u8)), false⟩), (9, some ⟨(eA64u8 x244), false⟩), (10, some ⟨(eA64u8 x245), false⟩), (11, some ⟨(eA64u8 x246), false⟩), (12, some ⟨(eA64u8 x247), false⟩), (14, some ⟨(eA64u8 r315.1), false⟩), (16, some ⟨(eA64u8 r327.1), false⟩)]⟩) (by kernel_rfl) ?_
          refine a_seq ?_
          refine a_region ?_
          refine a_val (v := (.int .i64 a0)) (u := []) rfl trivial rfl ?_
          have hl337 : LdOk [] (eA64u8 r315.1) [] 64 true (eA64u8 r315.1) := (.nil rfl rfl rfl)
          refine a_val (v := (eA64u8 r315.1)) (u := []) (ld_own (i := ⟨.arr 64 5, 64, 64, (eA64u8 (vrep 64 (0 : Int)))⟩) rfl rfl rfl hl337) hl337.c rfl ?_
          have hl338 : LdOk [] (eA64u8 x245) [] 64 true (eA64u8 x245) := (.nil rfl rfl rfl)
          refine a_val (v := (eA64u8 x245)) (u := []) (ld_own (i := ⟨.arr 64 5, 64, 64, (eA64u8 (vrep 64 (0 : Int)))⟩) rfl rfl rfl hl338) hl338.c rfl ?_
          obtain ⟨r339, hr340, h⟩ := bind_some h
          refine a_call (args := [(.int .i64 a0), (eA64u8 r315.1), (eA64u8 x245), (.int .i64 1)]) (u := []) (r := (eA64u8 r339)) rfl rfl (spec_l01Add_ok a0 r315.1 x245 1 r339 hr340) rfl ?_
          have hs341 : StOk [] (eA64u8 r315.1) [] 64 (eA64u8 r339) (eA64u8 r339) := (.nil rfl rfl rfl rfl)
          refine a_val (v := .top) (u := [(14, some ⟨(eA64u8 r339), false⟩)]) (st_own (i := ⟨.arr 64 5, 64, 64, (eA64u8 (vrep 64 (0 : Int)))⟩) rfl rfl (fun _ => rfl) rfl hs341) (hs341.c rfl) rfl ?_
          refine a_nil ?_
          refine a_next (σ' := ⟨[(0, (.int .i64 a0)), (1, (eSA64u8 a1)), (7, (.osl 7)), (8, (.osl 8)), (9, (.own 9 [] [])), (10, (.own 10 [] [])), (11, (.own 11 [] [])), (12, (.own 12 [] [])), (13, (.int .i64 x241)), (14, (.own 14 [] [])), (16, (.own 16 [] []))], [(7, some ⟨(.row 64 (x242.map eA64u8)), false⟩), (8, some ⟨(.row 64 (x243.map eA64u8)), false⟩), (9, some ⟨(eA64u8 x244), false⟩), (10, some ⟨(eA64u8 x245), false⟩), (11, some ⟨(eA64u8 x246), false⟩), (12, some ⟨(eA64u8 x247), false⟩), (14, some ⟨(eA64u8 r339), false⟩), (16, some ⟨(eA64u8 r327.1), false⟩)]⟩) (by kernel_rfl) ?_
          refine a_seq ?_
          refine a_region ?_
          refine a_val (v := (.int .i64 a0)) (u := []) rfl trivial rfl ?_
          have hl342 : LdOk [] (eA64u8 r327.1) [] 64 true (eA64u8 r327.1) := (.nil rfl rfl rfl)
          refine a_val (v := (eA64u8 r327.1)) (u := []) (ld_own (i := ⟨.arr 64 5, 64, 64, (eA64u8 (vrep 64 (0 : Int)))⟩) rfl rfl rfl hl342) hl342.c rfl ?_
          have hl343 : LdOk [] (eA64u8 x247) [] 64 true (eA64u8 x247) := (.nil rfl rfl rfl)
          refine a_val (v := (eA64u8 x247)) (u := []) (ld_own (i := ⟨.arr 64 5, 64, 64, (eA64u8 (vrep 64 (0 : Int)))⟩) rfl rfl rfl hl343) hl343.c rfl ?_
          obtain ⟨r344, hr345, h⟩ := bind_some h
          refine a_call (args := [(.int .i64 a0), (eA64u8 r327.1), (eA64u8 x247), (.int .i64 1)]) (u := []) (r := (eA64u8 r344)) rfl rfl (spec_l01Add_ok a0 r327.1 x247 1 r344 hr345) rfl ?_
          have hs346 : StOk [] (eA64u8 r327.1) [] 64 (eA64u8 r344) (eA64u8 r344) := (.nil rfl rfl rfl rfl)
          refine a_val (v := .top) (u := [(16, some ⟨(eA64u8 r344), false⟩)]) (st_own (i := ⟨.arr 64 5, 64, 64, (eA64u8 (vrep 64 (0 : Int)))⟩) rfl rfl (fun _ => rfl) rfl hs346) (hs346.c rfl) rfl ?_
          refine a_nil ?_
          refine a_next (σ' := ⟨[(0, (.int .i64 a0)), (1, (eSA64u8 a1)), (7, (.osl 7)), (8, (.osl 8)), (9, (.own 9 [] [])), (10, (.own 10 [] [])), (11, (.own 11 [] [])), (12, (.own 12 [] [])), (13, (.int .i64 x241)), (14, (.own 14 [] [])), (16, (.own 16 [] []))], [(7, some ⟨(.row 64 (x242.map eA64u8)), false⟩), (8, some ⟨(.row 64 (x243.map eA64u8)), false⟩), (9, some ⟨(eA64u8 x244), false⟩), (10, some ⟨(eA64u8 x245), false⟩), (11, some ⟨(eA64u8 x246), false⟩), (12, some ⟨(eA64u8 x247), false⟩), (14, some ⟨(eA64u8 r339), false⟩), (16, some ⟨(eA64u8 r344), false⟩)]⟩) (by kernel_rfl) ?_
          refine a_seq ?_
          refine a_region ?_
          have hl347 : LdOk [] (eA64u8 x244) [] 64 true (eA64u8 x244) := (.nil rfl rfl rfl)
          refine a_val (v := (eA64u8 x244)) (u := []) (ld_own (i := ⟨.arr 64 5, 64, 64, (eA64u8 (vrep 64 (0 : Int)))⟩) rfl rfl rfl hl347) hl347.c rfl ?_
          have hs348 : StOk [] (eA64u8 x245) [] 64 (eA64u8 x244) (eA64u8 x244) := (.nil rfl rfl rfl rfl)
          refine a_val (v := .top) (u := [(10, some ⟨(eA64u8 x244), false⟩)]) (st_own (i := ⟨.arr 64 5, 64, 64, (eA64u8 (vrep 64 (0 : Int)))⟩) rfl rfl (fun _ => rfl) rfl hs348) (hs348.c rfl) rfl ?_
          refine a_nil ?_
          refine a_next (σ' := ⟨[(0, (.int .i64 a0)), (1, (eSA64u8 a1)), (7, (.osl 7)), (8, (.osl 8)), (9, (.own 9 [] [])), (10, (.own 10 [] [])), (11, (.own 11 [] [])), (12, (.own 12 [] [])), (13, (.int .i64 x241)), (14, (.own 14 [] [])), (16, (.own 16 [] []))], [(7, some ⟨(.row 64 (x242.map eA64u8)), false⟩), (8, some ⟨(.row 64 (x243.map eA64u8)), false⟩), (9, some ⟨(eA64u8 x244), false⟩), (10, some ⟨(eA64u8 x244), false⟩), (11, some ⟨(eA64u8 x246), false⟩), (12, some ⟨(eA64u8 x247), false⟩), (14, some ⟨(eA64u8 r339), false⟩), (16, some ⟨(eA64u8 r344), false⟩)]⟩) (by kernel_rfl) ?_
          refine a_seq ?_
          refine a_region ?_
          have hl349 : LdOk [] (eA64u8 x246) [] 64 true (eA64u8 x246) := (.nil rfl rfl rfl)
          refine a_val (v := (eA64u8 x246)) (u := []) (ld_own (i := ⟨.arr 64 5, 64, 64, (eA64u8 (vrep 64 (0 : Int)))⟩) rfl rfl rfl hl349) hl349.c rfl ?_
          have hs350 : StOk [] (eA64u8 x247) [] 64 (eA64u8 x246) (eA64u8 x246) := (.nil rfl rfl rfl rfl)
          refine a_val (v := .top) (u := [(12, some ⟨(eA64u8 x246), false⟩)]) (st_own (i := ⟨.arr 64 5, 64, 64, (eA64u8 (vrep 64 (0 : Int)))⟩) rfl rfl (fun _ => rfl) rfl hs350) (hs350.c rfl) rfl ?_
          refine a_nil ?_
          refine a_next (σ' := ⟨[(0, (.int .i64 a0)), (1, (eSA64u8 a1)), (7, (.osl 7)), (8, (.osl 8)), (9, (.own 9 [] [])), (10, (.own 10 [] [])), (11, (.own 11 [] [])), (12, (.own 12 [] [])), (13, (.int .i64 x241)), (14, (.own 14 [] [])), (16, (.own 16 [] []))], [(7, some ⟨(.row 64 (x242.map eA64u8)), false⟩), (8, some ⟨(.row 64 (x243.map eA64u8)), false⟩), (9, some ⟨(eA64u8 x244), false⟩), (10, some ⟨(eA64u8 x244), false⟩), (11, some ⟨(eA64u8 x246), false⟩), (12, some ⟨(eA64u8 x246), false⟩), (14, some ⟨(eA64u8 r339), false⟩), (16, some ⟨(eA64u8 r344), false⟩)]⟩) (by kernel_rfl) ?_
          refine a_seq ?_
          refine a_region ?_
          have hl351 : LdOk [] (eA64u8 r339) [] 64 true (eA64u8 r339) := (.nil rfl rfl rfl)
          refine a_val (v := (eA64u8 r339)) (u := []) (ld_own (i := ⟨.arr 64 5, 64, 64, (eA64u8 (vrep 64 (0 : Int)))⟩) rfl rfl rfl hl351) hl351.c rfl ?_
          have hs352 : StOk [] (eA64u8 x244) [] 64 (eA64u8 r339) (eA64u8 r339) := (.nil rfl rfl rfl rfl)
          refine a_val (v := .top) (u := [(9, some ⟨(eA64u8 r339), false⟩)]) (st_own (i := ⟨.arr 64 5, 64, 64, (eA64u8 (vrep 64 (0 : Int)))⟩) rfl rfl (fun _ => rfl) rfl hs352) (hs352.c rfl) rfl ?_
          refine a_nil ?_
          refine a_next (σ' := ⟨[(0, (.int .i64 a0)), (1, (eSA64u8 a1)), (7, (.osl 7)), (8, (.osl 8)), (9, (.own 9 [] [])), (10, (.own 10 [] [])), (11, (.own 11 [] [])), (12, (.own 12 [] [])), (13, (.int .i64 x241)), (16, (.own 16 [] []))], [(7, some ⟨(.row 64 (x242.map eA64u8)), false⟩), (8, some ⟨(.row 64 (x243.map eA64u8)), false⟩), (9, some ⟨(eA64u8 r339), false⟩), (10, some ⟨(eA64u8 x244), false⟩), (11, some ⟨(eA64u8 x246), false⟩), (12, some ⟨(eA64u8 x246), false⟩), (16, some ⟨(eA64u8 r344), false⟩)]⟩) (by kernel_rfl) ?_
          refine a_seq ?_
          refine a_region ?_
          have hl353 : LdOk [] (eA64u8 r344) [] 64 true (eA64u8 r344) := (.nil rfl rfl rfl)
          refine a_val (v := (eA64u8 r344)) (u := []) (ld_own (i := ⟨.arr 64 5, 64, 64, (eA64u8 (vrep 64 (0 : Int)))⟩) rfl rfl rfl hl353) hl353.c rfl ?_
          have hs354 : StOk [] (eA64u8 x246) [] 64 (eA64u8 r344) (eA64u8 r344) := (.nil rfl rfl rfl rfl)
          refine a_val (v := .top) (u := [(11, some ⟨(eA64u8 r344), false⟩)]) (st_own (i := ⟨.arr 64 5, 64, 64, (eA64u8 (vrep 64 (0 : Int)))⟩) rfl rfl (fun _ => rfl) rfl hs354) (hs354.c rfl) rfl ?_
          refine a_nil ?_
          refine a_next (σ' := ⟨[(0, (.int .i64 a0)), (1, (eSA64u8 a1)), (7, (.osl 7)), (8, (.osl 8)), (9, (.own 9 [] [])), (10, (.own 10 [] [])), (11, (.own 11 [] [])), (12, (.own 12 [] [])), (13, (.int .i64 x241))], [(7, some ⟨(.row 64 (x242.map eA64u8)), false⟩), (8, some ⟨(.row 64 (x243.map eA64u8)), false⟩), (9, some ⟨(eA64u8 r339), false⟩), (10, some ⟨(eA64u8 x244), false⟩), (11, some ⟨(eA64u8 r344), false⟩), (12, some ⟨(eA64u8 x246), false⟩)]⟩) (by kernel_rfl) ?_
          refine a_seq ?_
          refine a_region ?_
          refine a_val (v := (.osl 7)) (u := []) rfl trivial rfl ?_
          have hl355 : LdOk [] (eA64u8 r339) [] 64 true (eA64u8 r339) := (.nil rfl rfl rfl)
          refine a_val (v := (eA64u8 r339)) (u := []) (ld_own (i := ⟨.arr 64 5, 64, 64, (eA64u8 (vrep 64 (0 : Int)))⟩) rfl rfl rfl hl355) hl355.c rfl ?_
          refine a_val (v := (.sl 64 true (([r339]).map eA64u8))) (u := []) rfl ⟨(Nat.le_of_ble_eq_true rfl), (Nat.le_of_ble_eq_true rfl), (all_cons ⟨(Nat.le_of_ble_eq_true rfl), rfl⟩ all_nil)⟩ rfl ?_
          obtain ⟨hc356, h⟩ := ifp_some h
          refine a_val (v := (.osl 8100)) (u := [(8100, some ⟨(.row 64 (((x242 ++ ([r339]))).map eA64u8)), false⟩), (7, none)]) (app_run (i := ⟨.arr 64 5, 64, 64, (eA64u8 (vrep 64 (0 : Int)))⟩) (f := eA64u8) (l := x242) (l2 := [r339]) rfl rfl rfl rfl (fun _ => rfl) rfl rfl) (app_c (f := eA64u8) (s := 64) (sz := 64) (by' := 64) (u := []) (id := 7) hc356 (.inr rfl) rfl rfl rfl) rfl ?_
          refine a_val (v := (.osl 8100)) (u := []) rfl trivial rfl ?_
          refine a_nil ?_
          refine a_next (σ' := ⟨[(0, (.int .i64 a0)), (1, (eSA64u8 a1)), (7, (.osl 7)), (8, (.osl 8)), (9, (.own 9 [] [])), (10, (.own 10 [] [])), (11, (.own 11 [] [])), (12, (.own 12 [] [])), (13, (.int .i64 x241))], [(7, some ⟨(.row 64 (((x242 ++ ([r339]))).map eA64u8)), false⟩), (8, some ⟨(.row 64 (x243.map eA64u8)), false⟩), (9, some ⟨(eA64u8 r339), false⟩), (10, some ⟨(eA64u8 x244), false⟩), (11, some ⟨(eA64u8 r344), false⟩), (12, some ⟨(eA64u8 x246), false⟩)]⟩) (by kernel_rfl) ?_
          refine a_region ?_
          refine a_val (v := (.osl 8)) (u := []) rfl trivial rfl ?_
          have hl357 : LdOk [] (eA64u8 r344) [] 64 true (eA64u8 r344) := (.nil rfl rfl rfl)
          refine a_val (v := (eA64u8 r344)) (u := []) (ld_own (i := ⟨.arr 64 5, 64, 64, (eA64u8 (vrep 64 (0 : Int)))⟩) rfl rfl rfl hl357) hl357.c rfl ?_
          refine a_val (v := (.sl 64 true (([r344]).map eA64u8))) (u := []) rfl ⟨(Nat.le_of_ble_eq_true rfl), (Nat.le_of_ble_eq_true rfl), (all_cons ⟨(Nat.le_of_ble_eq_true rfl), rfl⟩ all_nil)⟩ rfl ?_
          obtain ⟨hc358, h⟩ := ifp_some h
          refine a_val (v := (.osl 8500)) (u := [(8500, some ⟨(.row 64 (((x243 ++ ([r344]))).map eA64u8)), false⟩), (8, none)]) (app_run (i := ⟨.arr 64 5, 64, 64, (eA64u8 (vrep 64 (0 : Int)))⟩) (f := eA64u8) (l := x243) (l2 := [r344]) rfl rfl rfl rfl (fun _ => rfl) rfl rfl) (app_c (f := eA64u8) (s := 64) (sz := 64) (by' := 64) (u := []) (id := 8) hc358 (.inr rfl) rfl rfl rfl) rfl ?_
          refine a_val (v := (.osl 8500)) (u := []) rfl trivial rfl ?_
          refine a_nil ?_
          refine b_norm ?_
          refine a_next (σ' := ⟨[(0, (.int .i64 a0)), (1, (eSA64u8 a1)), (7, (.osl 7)), (8, (.osl 8)), (9, (.own 9 [] [])), (10, (.own 10 [] [])), (11, (.own 11 [] [])), (12, (.own 12 [] [])), (13, (.int .i64 x241))], [(7, some ⟨(.row 64 (((x242 ++ ([r339]))).map eA64u8)), false⟩), (8, some ⟨(.row 64 (((x243 ++ ([r344]))).map eA64u8)), false⟩), (9, some ⟨(eA64u8 r339), false⟩), (10, some ⟨(eA64u8 x244), false⟩), (11, some ⟨(eA64u8 r344), false⟩), (12, some ⟨(eA64u8 x246), false⟩)]⟩) (by kernel_rfl) ?_
          refine a_region ?_
          refine a_val (v := (.int .i64 x241)) (u := []) rfl trivial rfl ?_
          refine a_val (v := (.int .i64 (IntKind.i64.wrap (x241 + 1)))) (u := []) rfl trivial rfl ?_
          refine a_val (v := (.int .i64 (IntKind.i64.wrap (x241 + 1)))) (u := []) rfl trivial rfl ?_
          refine a_nil ?_
          cases h
          exact a_again (by kernel_rfl) hX304
        · have h := ite_t hb336 h
          refine a_cond_t rfl ?_
          refine a_seq ?_
          refine a_region ?_
          refine a_val (v := (eSA64u8 ([]))) (u := []) rfl trivial rfl ?_
          refine a_val (v := (eSA64u8 ([]))) (u := []) rfl trivial rfl ?_
          refine a_val (v := (.bool false)) (u := []) rfl trivial rfl ?_
          refine a_nil ?_
          refine a_next rfl ?_
          refine a_ret ?_
          refine t_ret ?_
          refine b_ret ?_
          refine t_ret ?_
          cases h
          have h := hX304
          refine t_ret ?_
          refine b_ret ?_
          refine t_ret ?_
          cases h
          have h := hk186
          refine ⟨.inr rfl, ?_⟩
          rw [Try.results79]
          cases h
          exact ⟨_, _, _, _, _, rfl, trivial, .inl ⟨rfl, .inl rfl⟩, rfl, ⟨_, _, _, _, _, rfl, trivial, .inl ⟨rfl, .inl rfl⟩, rfl, ⟨_, _, _, _, _, rfl, trivial, .inl ⟨rfl, .inl rfl⟩, rfl, rfl⟩⟩⟩
      · have h := hy333
        refine a_region ?_
        refine a_val (v := (.bool r315.2)) (u := []) rfl trivial rfl ?_
        refine a_val (v := (.bool (!r315.2))) (u := []) rfl trivial rfl ?_
        refine a_val (v := (.bool (!r315.2))) (u := []) rfl trivial rfl ?_
        cases hb335 : (!r315.2)
        · have h := ite_f hb335 h
          refine a_gval rfl (v := (.bool r327.2)) (u := []) rfl trivial rfl ?_
          refine a_gval rfl (v := (.bool (!r327.2))) (u := []) rfl trivial rfl ?_
          refine a_val (v := (.bool (!r327.2))) (u := []) rfl trivial rfl ?_
          refine a_nil ?_
          exact j_leaf (!r327.2) (Option.some.inj h) (by kernel_rfl)
        · have h := ite_t hb335 h
          refine a_gskip rfl ?_
          refine a_gskip rfl ?_
          refine a_val (v := (.bool true)) (u := []) rfl trivial rfl ?_
          refine a_nil ?_
          exact j_leaf true (Option.some.inj h) (by kernel_rfl)
def spec_BestApproximation_c : ACode := (.seq (.region 0 [⟨some 5, .box 23 (.tmp 1), none, []⟩, ⟨some 6, .box 23 (.tmp 2), none, []⟩, ⟨some 8, .alloc 23, none, []⟩, ⟨some 9, .alloc 23, none, []⟩, ⟨some 10, .asg 0 (.const (.int .i64 0)) 2, none, []⟩] false) (.seq (.region 1 [⟨some 17, .mov (.tmp 0), none, []⟩, ⟨some 18, .load 23 (.tmp 5), none, []⟩, ⟨some 19, .load 23 (.tmp 6), none, []⟩, ⟨some 20, .call 0 (.func 67) [(.tmp 17), (.tmp 18), (.tmp 19)], none, []⟩, ⟨some 11, .asg 0 (.tmp 20) 2, none, []⟩] false) (.seq (.seq (.region 2 [⟨some 21, .mov (.tmp 11), none, []⟩, ⟨some 22, .bin .neq 2 (.tmp 21) (.const (.int .i64 1)), none, []⟩, ⟨some 23, .mov (.tmp 22), none, []⟩, ⟨some 24, .mov (.tmp 3), some (23, true), []⟩, ⟨some 25, .call 0 (.func 84) [(.tmp 24), (.const (.int .i64 0)), (.const (.int .i64 63))], some (23, true), []⟩, ⟨some 26, .un .not (.tmp 25), some (23, true), []⟩, ⟨some 27, .pick (.tmp 23) (.tmp 26) (.const (.bool false)), none, []⟩] false) (.cond (.tmp 27) (.region 3 [⟨some 11, .asg 0 (.const (.int .i64 2)) 2, none, []⟩] false) .skip)) (.seq (.seq (.region 4 [⟨some 28, .mov (.tmp 11), none, []⟩, ⟨some 29, .bin .neq 2 (.tmp 28) (.const (.int .i64 0)), none, []⟩] false) (.cond (.tmp 29) (.seq (.region 5 [⟨some 30, .build 23 [], none, []⟩, ⟨some 31, .build 23 [], none, []⟩, ⟨some 32, .mov (.tmp 11), none, []⟩, ⟨none, .store 23 (.tmp 8) (.tmp 30), none, []⟩, ⟨none, .store 23 (.tmp 9) (.tmp 31), none, []⟩, ⟨some 10, .asg 0 (.tmp 32) 2, none, []⟩] false) .ret) .skip)) (.seq (.region 6 [⟨some 34, .mov (.tmp 0), none, []⟩, ⟨some 35, .mov (.tmp 0), none, []⟩, ⟨some 36, .load 23 (.tmp 5), none, []⟩, ⟨some 37, .load 23 (.tmp 6), none, []⟩, ⟨some 38, .call 0 (.func 68) [(.tmp 35), (.tmp 36), (.tmp 37)], none, []⟩, ⟨some 39, .call 0 (.func 79) [(.tmp 34), (.tmp 38)], none, []⟩, ⟨some 33, .mov (.tmp 39), none, []⟩, ⟨some 40, .extract (.tmp 33) 0, none, []⟩, ⟨some 41, .extract (.tmp 33) 1, none, []⟩, ⟨some 42, .extract (.tmp 33) 2, none, []⟩, ⟨some 12, .asg 1 (.tmp 40) 30, none, []⟩, ⟨some 13, .asg 1 (.tmp 41) 30, none, []⟩, ⟨some 14, .asg 0 (.tmp 42) 4, none, []⟩] false) (.seq (.region 7 [⟨some 15, .asg 0 (.const (.int .i64 0)) 3, none, []⟩] false) (.seq (.seq (.region 8 [⟨some 16, .asg 0 (.const (.int .i64 1)) 3, none, []⟩] false) (.block 0 (.loop (.seq (.seq (.region 9 [⟨some 43, .mov (.tmp 16), none, []⟩, ⟨some 44, .mov (.tmp 12), none, []⟩, ⟨some 45, .blt 0 .len [(.tmp 44)] [30], none, []⟩, ⟨some 46, .bin .lss 3 (.tmp 43) (.tmp 45), none, []⟩] false) (.cond (.tmp 46) .skip (.exit 0))) (.seq (.block 1 (.seq (.region 11 [⟨some 49, .mov (.tmp 13), none, []⟩, ⟨some 50, .mov (.tmp 16), none, []⟩, ⟨some 51, .indexAddr 30 (.tmp 49) (.tmp 50), none, []⟩, ⟨some 52, .load 23 (.tmp 51), none, []⟩, ⟨some 53, .call 0 (.func 83) [(.tmp 52)], none, []⟩, ⟨some 54, .mov (.tmp 3), none, []⟩, ⟨some 55, .bin .leq 2 (.tmp 53) (.tmp 54), none, []⟩] false) (.cond (.tmp 55) (.region 12 [⟨some 56, .mov (.tmp 16), none, []⟩, ⟨some 15, .asg 0 (.tmp 56) 3, none, []⟩] false) .skip))) (.region 10 [⟨some 47, .mov (.tmp 16), none, []⟩, ⟨some 48, .bin .add 3 (.tmp 47) (.const (.int .i64 1)), none, []⟩, ⟨some 16, .asg 0 (.tmp 48) 3, none, []⟩] false)))))) (.seq (.region 13 [⟨some 57, .mov (.tmp 12), none, []⟩, ⟨some 58, .mov (.tmp 15), none, []⟩, ⟨some 59, .indexAddr 30 (.tmp 57) (.tmp 58), none, [0, 1]⟩, ⟨some 60, .load 23 (.tmp 59), none, [2]⟩, ⟨some 61, .mov (.tmp 13), none, []⟩, ⟨some 62, .mov (.tmp 15), none, []⟩, ⟨some 63, .indexAddr 30 (.tmp 61) (.tmp 62), none, [4, 5]⟩, ⟨some 64, .load 23 (.tmp 63), none, [6]⟩, ⟨none, .store 23 (.tmp 8) (.tmp 60), none, [3, 0, 1, 2, 3]⟩, ⟨none, .store 23 (.tmp 9) (.tmp 64), none, [7, 8, 0, 1, 2, 3, 4, 5, 6, 7, 8]⟩, ⟨some 10, .asg 0 (.const (.int .i64 0)) 2, none, [9, 0, 1, 2, 3, 4, 5, 6, 7, 8, 9]⟩] true) .ret))))))))
def spec_BestApproximation_L : Live := [(0, [0, 1, 2, 3]), (1, [0, 3, 5, 6, 8, 9]), (2, [0, 3, 5, 6, 8, 9, 11]), (3, [0, 3, 5, 6, 8, 9]), (4, [0, 3, 5, 6, 8, 9, 11]), (5, [8, 9, 11]), (6, [0, 3, 5, 6, 8, 9]), (7, [3, 8, 9, 12, 13]), (8, [3, 8, 9, 12, 13, 15]), (9, [3, 8, 9, 12, 13, 15, 16]), (10, [3, 8, 9, 12, 13, 15, 16]), (11, [3, 8, 9, 12, 13, 15, 16]), (12, [3, 8, 9, 12, 13, 16]), (13, [8, 9, 12, 13, 15]), (100027, [0, 3, 5, 6, 8, 9, 11, 27]), (100029, [0, 3, 5, 6, 8, 9, 11, 29]), (100046, [3, 8, 9, 12, 13, 15, 16, 46]), (100055, [3, 8, 9, 12, 13, 15, 16, 55])]
theorem spec_BestApproximation_body : Try.f41.body = some (Try.f41.body.getD .skip) := by kernel_rfl
theorem spec_BestApproximation_strip : strip [(12, 1), (13, 1)] (Try.f41.body.getD .skip) = spec_BestApproximation_c := by kernel_rfl
noncomputable def spec_BestApproximation_l1 (r36 : ((List (Vec Int 64)) × (List (Vec Int 64)) × Bool)) (a3 : Int) (x108 : Int) (x109 : Int) : Option ((Int × Int) ⊕ Int) :=
  (if (decide (x109 < (r36.1.length : Int))) then (Option.bind (α := Int) ((ifp (0 ≤ x109 ∧ x109 < ((r36.2.1.length : Nat) : Int)) ((Option.bind (spec_l01Deg (rd r36.2.1 x109.toNat)) fun r140 => (if (decide (r140 ≤ a3)) then (some x109) else (some x108)))))) fun x134 => (some (.inl ((x134, IntKind.i64.wrap (x109 + 1)))))) else (some (.inr x108)))
noncomputable def spec_BestApproximation (a0 : Int) (a1 : (Vec Int 64)) (a2 : (Vec Int 64)) (a3 : Int) : Option ((Vec Int 64) × (Vec Int 64) × Int) :=
  (Option.bind (spec_l10Code a0 a1 a2) fun r3 => (Option.bind (α := Int) ((Option.bind (α := Bool) ((if (r3 != 1) then (Option.bind (spec_l01In a3 0 63) fun r28 => (some (!r28))) else (some false))) fun x23 => (if x23 then (some 2) else (some r3)))) fun x16 => (if (x16 != 0) then (some (((vrep 64 (0 : Int)), (vrep 64 (0 : Int)), x16))) else (Option.bind (spec_l10Continued a0 a1 a2) fun r34 => (Option.bind (spec_l10Convergents a0 r34) fun r36 => (Option.bind (α := Int) ((loopM (fun s : (Int × Int) => spec_BestApproximation_l1 r36 a3 s.1 s.2) (0, 1))) fun x89 => (ifp (0 ≤ x89 ∧ x89 < ((r36.1.length : Nat) : Int)) ((ifp (0 ≤ x89 ∧ x89 < ((r36.2.1.length : Nat) : Int)) ((some (((rd r36.1 x89.toNat), (rd r36.2.1 x89.toNat), 0)))))))))))))
set_option maxHeartbeats 16000000 in
theorem spec_BestApproximation_ok (a0 : Int) (a1 : (Vec Int 64)) (a2 : (Vec Int 64)) (a3 : Int) (r : ((Vec Int 64) × (Vec Int 64) × Int)) (h : spec_BestApproximation a0 a1 a2 a3 = some r) : Den Try.prog 41 [(.int .i64 a0), (eA64u8 a1), (eA64u8 a2), (.int .i64 a3)] { r := (.tuple [(eA64u8 r.1), (eA64u8 r.2.1), (.int .i64 r.2.2)]) } := by
  refine den_of (rs := [(eA64u8 r.1), (eA64u8 r.2.1), (.int .i64 r.2.2)]) (ac := spec_BestApproximation_c) (L := spec_BestApproximation_L) (n := 65) (m := [(12, 1), (13, 1)]) good Try.func41 spec_BestApproximation_body (by kernel_rfl) Try.ntmps41 rfl rfl spec_BestApproximation_strip rfl rfl ?_
  refine a_st (σ' := ⟨[(0, (.int .i64 a0)), (1, (eA64u8 a1)), (2, (eA64u8 a2)), (3, (.int .i64 a3))], []⟩) (by kernel_rfl) ?_
  unfold spec_BestApproximation_c
  refine a_seq ?_
  refine a_region ?_
  refine a_val (v := (.own 1500 [] [])) (u := [(1500, some ⟨(eA64u8 a1), false⟩)]) rfl trivial rfl ?_
  refine a_val (v := (.own 1600 [] [])) (u := [(1600, some ⟨(eA64u8 a2), false⟩)]) rfl trivial rfl ?_
  refine a_val (v := (.own 1800 [] [])) (u := [(1800, some ⟨(eA64u8 ((vrep 64 (0 : Int)))), false⟩)]) rfl trivial rfl ?_
  refine a_val (v := (.own 1900 [] [])) (u := [(1900, some ⟨(eA64u8 ((vrep 64 (0 : Int)))), false⟩)]) rfl trivial rfl ?_
  refine a_val (v := (.int .i64 0)) (u := []) rfl trivial rfl ?_
  refine a_nil ?_
  refine a_next (σ' := ⟨[(0, (.int .i64 a0)), (3, (.int .i64 a3)), (5, (.own 5 [] [])), (6, (.own 6 [] [])), (8, (.own 8 [] [])), (9, (.own 9 [] []))], [(5, some ⟨(eA64u8 a1), false⟩), (6, some ⟨(eA64u8 a2), false⟩), (8, some ⟨(eA64u8 ((vrep 64 (0 : Int)))), false⟩), (9, some ⟨(eA64u8 ((vrep 64 (0 : Int)))), false⟩)]⟩) (by kernel_rfl) ?_
  refine a_seq ?_
  refine a_region ?_
  refine a_val (v := (.int .i64 a0)) (u := []) rfl trivial rfl ?_
  have hl1 : LdOk [] (eA64u8 a1) [] 64 true (eA64u8 a1) := (.nil rfl rfl rfl)
  refine a_val (v := (eA64u8 a1)) (u := []) (ld_own (i := ⟨.arr 64 5, 64, 64, (eA64u8 (vrep 64 (0 : Int)))⟩) rfl rfl rfl hl1) hl1.c rfl ?_
  have hl2 : LdOk [] (eA64u8 a2) [] 64 true (eA64u8 a2) := (.nil rfl rfl rfl)
  refine a_val (v := (eA64u8 a2)) (u := []) (ld_own (i := ⟨.arr 64 5, 64, 64, (eA64u8 (vrep 64 (0 : Int)))⟩) rfl rfl rfl hl2) hl2.c rfl ?_
  obtain ⟨r3, hr4, h⟩ := bind_some h
  refine a_call (args := [(.int .i64 a0), (eA64u8 a1), (eA64u8 a2)]) (u := []) (r := (.int .i64 r3)) rfl rfl (spec_l10Code_ok a0 a1 a2 r3 hr4) rfl ?_
  refine a_val (v := (.int .i64 r3)) (u := []) rfl trivial rfl ?_
  refine a_nil ?_
  refine a_next (σ' := ⟨[(0, (.int .i64 a0)), (3, (.int .i64 a3)), (5, (.own 5 [] [])), (6, (.own 6 [] [])), (8, (.own 8 [] [])), (9, (.own 9 [] [])), (11, (.int .i64 r3))], [(5, some ⟨(eA64u8 a1), false⟩), (6, some ⟨(eA64u8 a2), false⟩), (8, some ⟨(eA64u8 ((vrep 64 (0 : Int)))), false⟩), (9, some ⟨(eA64u8 ((vrep 64 (0 : Int)))), false⟩)]⟩) (by kernel_rfl) ?_
  obtain ⟨y17, hy18, hk19⟩ := bind_some h
  clear h
  refine a_join (emb := fun (s : Int) => ⟨[(0, (.int .i64 a0)), (3, (.int .i64 a3)), (5, (.own 5 [] [])), (6, (.own 6 [] [])), (8, (.own 8 [] [])), (9, (.own 9 [] [])), (11, (.int .i64 s))], [(5, some ⟨(eA64u8 a1), false⟩), (6, some ⟨(eA64u8 a2), false⟩), (8, some ⟨(eA64u8 ((vrep 64 (0 : Int)))), false⟩), (9, some ⟨(eA64u8 ((vrep 64 (0 : Int)))), false⟩)]⟩) (pre := fun s => s = y17) ?_ ?_
  · rintro x16 rfl
    have h := hk19
    refine a_st (σ' := ⟨[(0, (.int .i64 a0)), (3, (.int .i64 a3)), (5, (.own 5 [] [])), (6, (.own 6 [] [])), (8, (.own 8 [] [])), (9, (.own 9 [] [])), (11, (.int .i64 x16))], [(5, some ⟨(eA64u8 a1), false⟩), (6, some ⟨(eA64u8 a2), false⟩), (8, some ⟨(eA64u8 ((vrep 64 (0 : Int)))), false⟩), (9, some ⟨(eA64u8 ((vrep 64 (0 : Int)))), false⟩)]⟩) (by kernel_rfl) ?_
    refine a_seq ?_
    refine a_seq ?_
    refine a_region ?_
    refine a_val (v := (.int .i64 x16)) (u := []) rfl trivial rfl ?_
    refine a_val (v := (.bool (x16 != 0))) (u := []) rfl trivial rfl ?_
    refine a_nil ?_
    refine a_next (σ' := ⟨[(0, (.int .i64 a0)), (3, (.int .i64 a3)), (5, (.own 5 [] [])), (6, (.own 6 [] [])), (8, (.own 8 [] [])), (9, (.own 9 [] [])), (11, (.int .i64 x16)), (29, (.bool (x16 != 0)))], [(5, some ⟨(eA64u8 a1), false⟩), (6, some ⟨(eA64u8 a2), false⟩), (8, some ⟨(eA64u8 ((vrep 64 (0 : Int)))), false⟩), (9, some ⟨(eA64u8 ((vrep 64 (0 : Int)))), false⟩)]⟩) (by kernel_rfl) ?_
    cases hb31 : (x16 != 0)
    · have h := ite_f hb31 h
      refine a_cond_f rfl ?_
      refine a_skip ?_
      refine a_next (σ' := ⟨[(0, (.int .i64 a0)), (3, (.int .i64 a3)), (5, (.own 5 [] [])), (6, (.own 6 [] [])), (8, (.own 8 [] [])), (9, (.own 9 [] []))], [(5, some ⟨(eA64u8 a1), false⟩), (6, some ⟨(eA64u8 a2), false⟩), (8, some ⟨(eA64u8 ((vrep 64 (0 : Int)))), false⟩), (9, some ⟨(eA64u8 ((vrep 64 (0 : Int)))), false⟩)]⟩) (by kernel_rfl) ?_
      refine a_seq ?_
      refine a_region ?_
      refine a_val (v := (.int .i64 a0)) (u := []) rfl trivial rfl ?_
      refine a_val (v := (.int .i64 a0)) (u := []) rfl trivial rfl ?_
      have hl32 : LdOk [] (eA64u8 a1) [] 64 true (eA64u8 a1) := (.nil rfl rfl rfl)
      refine a_val (v := (eA64u8 a1)) (u := []) (ld_own (i := ⟨.arr 64 5, 64, 64, (eA64u8 (vrep 64 (0 : Int)))⟩) rfl rfl rfl hl32) hl32.c rfl ?_
      have hl33 : LdOk [] (eA64u8 a2) [] 64 true (eA64u8 a2) := (.nil rfl rfl rfl)
      refine a_val (v := (eA64u8 a2)) (u := []) (ld_own (i := ⟨.arr 64 5, 64, 64, (eA64u8 (vrep 64 (0 : Int)))⟩) rfl rfl rfl hl33) hl33.c rfl ?_
      obtain ⟨r34, hr35, h⟩ := bind_some h
      refine a_call (args := [(.int .i64 a0), (eA64u8 a1), (eA64u8 a2)]) (u := []) (r := (eSA64u8 r34)) rfl rfl (spec_l10Continued_ok a0 a1 a2 r34 hr35) rfl ?_
      obtain ⟨r36, hr37, h⟩ := bind_some h
      refine a_call (args := [(.int .i64 a0), (eSA64u8 r34)]) (u := []) (r := (.tuple [(eSA64u8 r36.1), (eSA64u8 r36.2.1), (.bool r36.2.2)])) rfl rfl (spec_l10Convergents_ok a0 r34 r36 hr37) rfl ?_
      refine a_val (v := (.tuple [(eSA64u8 r36.1), (eSA64u8 r36.2.1), (.bool r36.2.2)])) (u := []) rfl trivial rfl ?_
      refine a_val (v := (eSA64u8 r36.1)) (u := []) rfl (Nat.le_of_ble_eq_true rfl) rfl ?_
      refine a_val (v := (eSA64u8 r36.2.1)) (u := []) rfl (Nat.le_of_ble_eq_true rfl) rfl ?_
      refine a_val (v := (.bool r36.2.2)) (u := []) rfl (Nat.le_of_ble_eq_true rfl) rfl ?_
      refine a_val (v := (eSA64u8 r36.1)) (u := []) rfl trivial rfl ?_
      refine a_val (v := (eSA64u8 r36.2.1)) (u := []) rfl trivial rfl ?_
      refine a_val (v := (.bool r36.2.2)) (u := []) rfl trivial rfl ?_
      refine a_nil ?_
      refine a_next (σ' := ⟨[(3, (.int .i64 a3)), (8, (.own 8 [] [])), (9, (.own 9 [] [])), (12, (eSA64u8 r36.1)), (13, (eSA64u8 r36.2.1))], [(8, some ⟨(eA64u8 ((vrep 64 (0 : Int)))), false⟩), (9, some ⟨(eA64u8 ((vrep 64 (0 : Int)))), false⟩)]⟩) (by kernel_rfl) ?_
      refine a_seq ?_
      refine a_region ?_
      refine a_val (v := (.int .i64 0)) (u := []) rfl trivial rfl ?_
      refine a_nil ?_
      refine a_next (σ' := ⟨[(3, (.int .i64 a3)), (8, (.own 8 [] [])), (9, (.own 9 [] [])), (12, (eSA64u8 r36.1)), (13, (eSA64u8 r36.2.1)), (15, (.int .i64 0))], [(8, some ⟨(eA64u8 ((vrep 64 (0 : Int)))), false⟩), (9, some ⟨(eA64u8 ((vrep 64 (0 : Int)))), false⟩)]⟩) (by kernel_rfl) ?_
      obtain ⟨y90, hy91, hk92⟩ := bind_some h
      clear h
      refine a_join (emb := fun (s : Int) => ⟨[(8, (.own 8 [] [])), (9, (.own 9 [] [])), (12, (eSA64u8 r36.1)), (13, (eSA64u8 r36.2.1)), (15, (.int .i64 s))], [(8, some ⟨(eA64u8 ((vrep 64 (0 : Int)))), false⟩), (9, some ⟨(eA64u8 ((vrep 64 (0 : Int)))), false⟩)]⟩) (pre := fun s => s = y90) ?_ ?_
      · rintro x89 rfl
        have h := hk92
        refine a_st (σ' := ⟨[(8, (.own 8 [] [])), (9, (.own 9 [] [])), (12, (eSA64u8 r36.1)), (13, (eSA64u8 r36.2.1)), (15, (.int .i64 x89))], [(8, some ⟨(eA64u8 ((vrep 64 (0 : Int)))), false⟩), (9, some ⟨(eA64u8 ((vrep 64 (0 : Int)))), false⟩)]⟩) (by kernel_rfl) ?_
        refine a_seq ?_
        refine a_draw [⟨[], [], [], []⟩, ⟨[], [], [], []⟩, ⟨[], [], [], [0, 1]⟩, ⟨[], [], [], [0, 1, 2]⟩, ⟨[], [], [], []⟩, ⟨[], [], [], []⟩, ⟨[], [], [], [4, 5]⟩, ⟨[], [], [], [4, 5, 6]⟩, ⟨[8], [8], [], [0, 1, 2, 3]⟩, ⟨[9], [9], [], [0, 1, 2, 3, 4, 5, 6, 7, 8]⟩, ⟨[], [], [], [0, 1, 2, 3, 4, 5, 6, 7, 8, 9]⟩] (by kernel_rfl) ?_
        refine d_cons ?_
        refine a_val (v := (eSA64u8 r36.1)) (u := []) rfl trivial rfl ?_
        refine d_next (by kernel_rfl) ?_
        refine d_cons ?_
        refine a_val (v := (.int .i64 x89)) (u := []) rfl trivial rfl ?_
        refine d_next (by kernel_rfl) ?_
        refine d_cons ?_
        obtain ⟨hc150, h⟩ := ifp_some h
        refine a_val (v := (.ref (.row 64 (r36.1.map eA64u8)) [x89.toNat] [x89.toNat * 64])) (u := []) rfl (lmap hc150) rfl ?_
        refine d_next (by kernel_rfl) ?_
        refine d_cons ?_
        have hl151 : LdOk [x89.toNat] (.row 64 (r36.1.map eA64u8)) [x89.toNat * 64] 64 true (eA64u8 (rd r36.1 x89.toNat)) := (.row (llt hc150) rfl (.nil rfl rfl rfl))
        refine a_val (v := (eA64u8 (rd r36.1 x89.toNat))) (u := []) (ld_ref (i := ⟨.arr 64 5, 64, 64, (eA64u8 (vrep 64 (0 : Int)))⟩) rfl rfl hl151) hl151.c rfl ?_
        refine d_next (by kernel_rfl) ?_
        refine d_cons ?_
        refine a_val (v := (eSA64u8 r36.2.1)) (u := []) rfl trivial rfl ?_
        refine d_next (by kernel_rfl) ?_
        refine d_cons ?_
        refine a_val (v := (.int .i64 x89)) (u := []) rfl trivial rfl ?_
        refine d_next (by kernel_rfl) ?_
        refine d_cons ?_
        obtain ⟨hc152, h⟩ := ifp_some h
        refine a_val (v := (.ref (.row 64 (r36.2.1.map eA64u8)) [x89.toNat] [x89.toNat * 64])) (u := []) rfl (lmap hc152) rfl ?_
        refine d_next (by kernel_rfl) ?_
        refine d_cons ?_
        have hl153 : LdOk [x89.toNat] (.row 64 (r36.2.1.map eA64u8)) [x89.toNat * 64] 64 true (eA64u8 (rd r36.2.1 x89.toNat)) := (.row (llt hc152) rfl (.nil rfl rfl rfl))
        refine a_val (v := (eA64u8 (rd r36.2.1 x89.toNat))) (u := []) (ld_ref (i := ⟨.arr 64 5, 64, 64, (eA64u8 (vrep 64 (0 : Int)))⟩) rfl rfl hl153) hl153.c rfl ?_
        refine d_next (by kernel_rfl) ?_
        refine d_cons ?_
        have hs154 : StOk [] (eA64u8 ((vrep 64 (0 : Int)))) [] 64 (eA64u8 (rd r36.1 x89.toNat)) (eA64u8 (rd r36.1 x89.toNat)) := (.nil rfl rfl rfl rfl)
        refine a_val (v := .top) (u := [(8, some ⟨(eA64u8 (rd r36.1 x89.toNat)), false⟩)]) (st_own (i := ⟨.arr 64 5, 64, 64, (eA64u8 (vrep 64 (0 : Int)))⟩) rfl rfl (fun _ => rfl) rfl hs154) (hs154.c rfl) rfl ?_
        refine d_next (by kernel_rfl) ?_
        refine d_cons ?_
        have hs155 : StOk [] (eA64u8 ((vrep 64 (0 : Int)))) [] 64 (eA64u8 (rd r36.2.1 x89.toNat)) (eA64u8 (rd r36.2.1 x89.toNat)) := (.nil rfl rfl rfl rfl)
        refine a_val (v := .top) (u := [(9, some ⟨(eA64u8 (rd r36.2.1 x89.toNat)), false⟩)]) (st_own (i := ⟨.arr 64 5, 64, 64, (eA64u8 (vrep 64 (0 : Int)))⟩) rfl rfl (fun _ => rfl) rfl hs155) (hs155.c rfl) rfl ?_
        refine d_next (by kernel_rfl) ?_
        refine d_cons ?_
        refine a_val (v := (.int .i64 0)) (u := []) rfl trivial rfl ?_
        refine d_next (by kernel_rfl) ?_
        refine d_nil ?_
        refine a_next rfl ?_
        refine a_ret ?_
        have hl156 : LdOk [] (eA64u8 (rd r36.1 x89.toNat)) [] 64 true (eA64u8 (rd r36.1 x89.toNat)) := (.nil rfl rfl rfl)
        have hl157 : LdOk [] (eA64u8 (rd r36.2.1 x89.toNat)) [] 64 true (eA64u8 (rd r36.2.1 x89.toNat)) := (.nil rfl rfl rfl)
        refine ⟨.inr rfl, ?_⟩
        rw [Try.results41]
        cases h
        exact ⟨_, _, _, _, _, ld_own (i := ⟨.arr 64 5, 64, 64, (eA64u8 (vrep 64 (0 : Int)))⟩) rfl rfl rfl hl156, hl156.c, .inl ⟨rfl, .inl rfl⟩, rfl, ⟨_, _, _, _, _, ld_own (i := ⟨.arr 64 5, 64, 64, (eA64u8 (vrep 64 (0 : Int)))⟩) rfl rfl rfl hl157, hl157.c, .inl ⟨rfl, .inl rfl⟩, rfl, ⟨_, _, _, _, _, rfl, trivial, .inl ⟨rfl, .inl rfl⟩, rfl, rfl⟩⟩⟩
      · have h := hy91
        refine a_seq ?_
        refine a_region ?_
        refine a_val (v := (.int .i64 1)) (u := []) rfl trivial rfl ?_
        refine a_nil ?_
        refine a_next (σ' := ⟨[(3, (.int .i64 a3)), (8, (.own 8 [] [])), (9, (.own 9 [] [])), (12, (eSA64u8 r36.1)), (13, (eSA64u8 r36.2.1)), (15, (.int .i64 0)), (16, (.int .i64 1))], [(8, some ⟨(eA64u8 ((vrep 64 (0 : Int)))), false⟩), (9, some ⟨(eA64u8 ((vrep 64 (0 : Int)))), false⟩)]⟩) (by kernel_rfl) ?_
        refine a_block ?_
        refine a_loop (emb := fun (s : (Int × Int)) => ⟨[(3, (.int .i64 a3)), (8, (.own 8 [] [])), (9, (.own 9 [] [])), (12, (eSA64u8 r36.1)), (13, (eSA64u8 r36.2.1)), (15, (.int .i64 s.1)), (16, (.int .i64 s.2))], [(8, some ⟨(eA64u8 ((vrep 64 (0 : Int)))), false⟩), (9, some ⟨(eA64u8 ((vrep 64 (0 : Int)))), false⟩)]⟩) (body := (fun s : (Int × Int) => spec_BestApproximation_l1 r36 a3 s.1 s.2)) (G := fun q => some q = some y90) h rfl ?_ (by kernel_rfl)
        rintro X125 ⟨x108, x109⟩ x126 h hX127
        have h : spec_BestApproximation_l1 r36 a3 x108 x109 = some x126 := h
        refine a_st (σ' := ⟨[(3, (.int .i64 a3)), (8, (.own 8 [] [])), (9, (.own 9 [] [])), (12, (eSA64u8 r36.1)), (13, (eSA64u8 r36.2.1)), (15, (.int .i64 x108)), (16, (.int .i64 x109))], [(8, some ⟨(eA64u8 ((vrep 64 (0 : Int)))), false⟩), (9, some ⟨(eA64u8 ((vrep 64 (0 : Int)))), false⟩)]⟩) (by kernel_rfl) ?_
        refine a_seq ?_
        refine a_seq ?_
        refine a_region ?_
        refine a_val (v := (.int .i64 x109)) (u := []) rfl trivial rfl ?_
        refine a_val (v := (eSA64u8 r36.1)) (u := []) rfl trivial rfl ?_
        refine a_val (v := (.int .i64 (r36.1.length : Int))) (u := []) (len_run rfl rfl) trivial rfl ?_
        refine a_val (v := (.bool ((decide (x109 < (r36.1.length : Int)))))) (u := []) rfl trivial rfl ?_
        refine a_nil ?_
        refine a_next (σ' := ⟨[(3, (.int .i64 a3)), (8, (.own 8 [] [])), (9, (.own 9 [] [])), (12, (eSA64u8 r36.1)), (13, (eSA64u8 r36.2.1)), (15, (.int .i64 x108)), (16, (.int .i64 x109)), (46, (.bool ((decide (x109 < (r36.1.length : Int))))))], [(8, some ⟨(eA64u8 ((vrep 64 (0 : Int)))), false⟩), (9, some ⟨(eA64u8 ((vrep 64 (0 : Int)))), false⟩)]⟩) (by kernel_rfl) ?_
        cases hb128 : (decide (x109 < (r36.1.length : Int)))
        · have h := ite_f hb128 h
          refine a_cond_f rfl ?_
          refine a_exit ?_
          refine t_exit ?_
          cases h
          have h := hX127
          refine t_exit ?_
          refine b_exit ?_
          exact j_leaf x108 (Option.some.inj h) (by kernel_rfl)
        · have h := ite_t hb128 h
          refine a_cond_t rfl ?_
          refine a_skip ?_
          refine a_next (σ' := ⟨[(3, (.int .i64 a3)), (8, (.own 8 [] [])), (9, (.own 9 [] [])), (12, (eSA64u8 r36.1)), (13, (eSA64u8 r36.2.1)), (15, (.int .i64 x108)), (16, (.int .i64 x109))], [(8, some ⟨(eA64u8 ((vrep 64 (0 : Int)))), false⟩), (9, some ⟨(eA64u8 ((vrep 64 (0 : Int)))), false⟩)]⟩) (by kernel_rfl) ?_
          obtain ⟨y135, hy136, hk137⟩ := bind_some h
          clear h
          refine a_join (emb := fun (s : Int) => ⟨[(3, (.int .i64 a3)), (8, (.own 8 [] [])), (9, (.own 9 [] [])), (12, (eSA64u8 r36.1)), (13, (eSA64u8 r36.2.1)), (15, (.int .i64 s)), (16, (.int .i64 x109))], [(8, some ⟨(eA64u8 ((vrep 64 (0 : Int)))), false⟩), (9, some ⟨(eA64u8 ((vrep 64 (0 : Int)))), false⟩)]⟩) (pre := fun s => s = y135) ?_ ?_
          · rintro x134 rfl
            have h := hk137
            refine a_st (σ' := ⟨[(3, (.int .i64 a3)), (8, (.own 8 [] [])), (9, (.own 9 [] [])), (12, (eSA64u8 r36.1)), (13, (eSA64u8 r36.2.1)), (15, (.int .i64 x134)), (16, (.int .i64 x109))], [(8, some ⟨(eA64u8 ((vrep 64 (0 : Int)))), false⟩), (9, some ⟨(eA64u8 ((vrep 64 (0 : Int)))), false⟩)]⟩) (by kernel_rfl) ?_
            refine a_region ?_
            refine a_val (v := (.int .i64 x109)) (u := []) rfl trivial rfl ?_
            refine a_val (v := (.int .i64 (IntKind.i64.wrap (x109 + 1)))) (u := []) rfl trivial rfl ?_
            refine a_val (v := (.int .i64 (IntKind.i64.wrap (x109 + 1)))) (u := []) rfl trivial rfl ?_
            refine a_nil ?_
            cases h
            exact a_again (by kernel_rfl) hX127
          · have h := hy136
            refine a_block ?_
            refine a_seq ?_
            refine a_region ?_
            refine a_val (v := (eSA64u8 r36.2.1)) (u := []) rfl trivial rfl ?_
            refine a_val (v := (.int .i64 x109)) (u := []) rfl trivial rfl ?_
            obtain ⟨hc138, h⟩ := ifp_some h
            refine a_val (v := (.ref (.row 64 (r36.2.1.map eA64u8)) [x109.toNat] [x109.toNat * 64])) (u := []) rfl (lmap hc138) rfl ?_
            have hl139 : LdOk [x109.toNat] (.row 64 (r36.2.1.map eA64u8)) [x109.toNat * 64] 64 true (eA64u8 (rd r36.2.1 x109.toNat)) := (.row (llt hc138) rfl (.nil rfl rfl rfl))
            refine a_val (v := (eA64u8 (rd r36.2.1 x109.toNat))) (u := []) (ld_ref (i := ⟨.arr 64 5, 64, 64, (eA64u8 (vrep 64 (0 : Int)))⟩) rfl rfl hl139) hl139.c rfl ?_
            obtain ⟨r140, hr141, h⟩ := bind_some h
            refine a_call (args := [(eA64u8 (rd r36.2.1 x109.toNat))]) (u := []) (r := (.int .i64 r140)) rfl rfl (spec_l01Deg_ok (rd r36.2.1 x109.toNat) r140 hr141) rfl ?_
            refine a_val (v := (.int .i64 a3)) (u := []) rfl trivial rfl ?_
            refine a_val (v := (.bool ((decide (r140 ≤ a3))))) (u := []) rfl trivial rfl ?_
            refine a_nil ?_
            refine a_next (σ' := ⟨[(3, (.int .i64 a3)), (8, (.own 8 [] [])), (9, (.own 9 [] [])), (12, (eSA64u8 r36.1)), (13, (eSA64u8 r36.2.1)), (15, (.int .i64 x108)), (16, (.int .i64 x109)), (55, (.bool ((decide (r140 ≤ a3)))))], [(8, some ⟨(eA64u8 ((vrep 64 (0 : Int)))), false⟩), (9, some ⟨(eA64u8 ((vrep 64 (0 : Int)))), false⟩)]⟩) (by kernel_rfl) ?_
            cases hb142 : (decide (r140 ≤ a3))
            · have h := ite_f hb142 h
              refine a_cond_f rfl ?_
              refine a_skip ?_
              refine b_norm ?_
              exact j_leaf x108 (Option.some.inj h) (by kernel_rfl)
            · have h := ite_t hb142 h
              refine a_cond_t rfl ?_
              refine a_region ?_
              refine a_val (v := (.int .i64 x109)) (u := []) rfl trivial rfl ?_
              refine a_val (v := (.int .i64 x109)) (u := []) rfl trivial rfl ?_
              refine a_nil ?_
              refine b_norm ?_
              exact j_leaf x109 (Option.some.inj h) (by kernel_rfl)
    · have h := ite_t hb31 h
      refine a_cond_t rfl ?_
      refine a_seq ?_
      refine a_region ?_
      refine a_val (v := (eA64u8 ((vrep 64 (0 : Int))))) (u := []) rfl ⟨⟨_, rfl, rfl⟩, all_nil⟩ rfl ?_
      refine a_val (v := (eA64u8 ((vrep 64 (0 : Int))))) (u := []) rfl ⟨⟨_, rfl, rfl⟩, all_nil⟩ rfl ?_
      refine a_val (v := (.int .i64 x16)) (u := []) rfl trivial rfl ?_
      have hs158 : StOk [] (eA64u8 ((vrep 64 (0 : Int)))) [] 64 (eA64u8 ((vrep 64 (0 : Int)))) (eA64u8 ((vrep 64 (0 : Int)))) := (.nil rfl rfl rfl rfl)
      refine a_val (v := .top) (u := [(8, some ⟨(eA64u8 ((vrep 64 (0 : Int)))), false⟩)]) (st_own (i := ⟨.arr 64 5, 64, 64, (eA64u8 (vrep 64 (0 : Int)))⟩) rfl rfl (fun _ => rfl) rfl hs158) (hs158.c rfl) rfl ?_
      have hs159 : StOk [] (eA64u8 ((vrep 64 (0 : Int)))) [] 64 (eA64u8 ((vrep 64 (0 : Int)))) (eA64u8 ((vrep 64 (0 : Int)))) := (.nil rfl rfl rfl rfl)
      refine a_val (v := .top) (u := [(9, some ⟨(eA64u8 ((vrep 64 (0 : Int)))), false⟩)]) (st_own (i := ⟨.arr 64 5, 64, 64, (eA64u8 (vrep 64 (0 : Int)))⟩) rfl rfl (fun _ => rfl) rfl hs159) (hs159.c rfl) rfl ?_
      refine a_val (v := (.int .i64 x16)) (u := []) rfl trivial rfl ?_
      refine a_nil ?_
      refine a_next rfl ?_
      refine a_ret ?_
      refine t_ret ?_
      have hl160 : LdOk [] (eA64u8 ((vrep 64 (0 : Int)))) [] 64 true (eA64u8 ((vrep 64 (0 : Int)))) := (.nil rfl rfl rfl)
      have hl161 : LdOk [] (eA64u8 ((vrep 64 (0 : Int)))) [] 64 true (eA64u8 ((vrep 64 (0 : Int)))) := (.nil rfl rfl rfl)
      refine ⟨.inr rfl, ?_⟩
      rw [Try.results41]
      cases h
      exact ⟨_, _, _, _, _, ld_own (i := ⟨.arr 64 5, 64, 64, (eA64u8 (vrep 64 (0 : Int)))⟩) rfl rfl rfl hl160, hl160.c, .inl ⟨rfl, .inl rfl⟩, rfl, ⟨_, _, _, _, _, ld_own (i := ⟨.arr 64 5, 64, 64, (eA64u8 (vrep 64 (0 : Int)))⟩) rfl rfl rfl hl161, hl161.c, .inl ⟨rfl, .inl rfl⟩, rfl, ⟨_, _, _, _, _, rfl, trivial, .inl ⟨rfl, .inl rfl⟩, rfl, rfl⟩⟩⟩
  · have h := hy18
    obtain ⟨y24, hy25, hk26⟩ := bind_some h
    clear h
    refine a_join (emb := fun (s : Bool) => ⟨[(0, (.int .i64 a0)), (3, (.int .i64 a3)), (5, (.own 5 [] [])), (6, (.own 6 [] [])), (8, (.own 8 [] [])), (9, (.own 9 [] [])), (11, (.int .i64 r3)), (27, (.bool s))], [(5, some ⟨(eA64u8 a1), false⟩), (6, some ⟨(eA64u8 a2), false⟩), (8, some ⟨(eA64u8 ((vrep 64 (0 : Int)))), false⟩), (9, some ⟨(eA64u8 ((vrep 64 (0 : Int)))), false⟩)]⟩) (pre := fun s => s = y24) ?_ ?_
    · rintro x23 rfl
      have h := hk26
      refine a_st (σ' := ⟨[(0, (.int .i64 a0)), (3, (.int .i64 a3)), (5, (.own 5 [] [])), (6, (.own 6 [] [])), (8, (.own 8 [] [])), (9, (.own 9 [] [])), (11, (.int .i64 r3)), (27, (.bool x23))], [(5, some ⟨(eA64u8 a1), false⟩), (6, some ⟨(eA64u8 a2), false⟩), (8, some ⟨(eA64u8 ((vrep 64 (0 : Int)))), false⟩), (9, some ⟨(eA64u8 ((vrep 64 (0 : Int)))), false⟩)]⟩) (by kernel_rfl) ?_
      cases hb30 : x23
      · have h := ite_f hb30 h
        refine a_cond_f rfl ?_
        refine a_skip ?_
        exact j_leaf r3 (Option.some.inj h) (by kernel_rfl)
      · have h := ite_t hb30 h
        refine a_cond_t rfl ?_
        refine a_region ?_
        refine a_val (v := (.int .i64 2)) (u := []) rfl trivial rfl ?_
        refine a_nil ?_
        exact j_leaf 2 (Option.some.inj h) (by kernel_rfl)
    · have h := hy25
      refine a_region ?_
      refine a_val (v := (.int .i64 r3)) (u := []) rfl trivial rfl ?_
      refine a_val (v := (.bool (r3 != 1))) (u := []) rfl trivial rfl ?_
      refine a_val (v := (.bool (r3 != 1))) (u := []) rfl trivial rfl ?_
      cases hb27 : (r3 != 1)
      · have h := ite_f hb27 h
        refine a_gskip rfl ?_
        refine a_gskip rfl ?_
        refine a_gskip rfl ?_
        refine a_val (v := (.bool false)) (u := []) rfl trivial rfl ?_
        refine a_nil ?_
        exact j_leaf false (Option.some.inj h) (by kernel_rfl)
      · have h := ite_t hb27 h
        refine a_gval rfl (v := (.int .i64 a3)) (u := []) rfl trivial rfl ?_
        obtain ⟨r28, hr29, h⟩ := bind_some h
        refine a_gcall rfl (args := [(.int .i64 a3), (.int .i64 0), (.int .i64 63)]) (u := []) (r := (.bool r28)) rfl rfl (spec_l01In_ok a3 0 63 r28 hr29) rfl ?_
        refine a_gval rfl (v := (.bool (!r28))) (u := []) rfl trivial rfl ?_
        refine a_val (v := (.bool (!r28))) (u := []) rfl trivial rfl ?_
        refine a_nil ?_
        exact j_leaf (!r28) (Option.some.inj h) (by kernel_rfl)
def impl_within_c : ACode := (.seq (.region 0 [⟨some 6, .asg 0 (.const (.bool false)) 4, none, []⟩] false) (.seq (.region 1 [⟨some 7, .mov (.tmp 1), none, []⟩, ⟨some 8, .mov (.tmp 0), none, []⟩, ⟨some 9, .bin .leq 2 (.tmp 7) (.tmp 8), none, []⟩, ⟨some 10, .mov (.tmp 9), none, []⟩, ⟨some 11, .mov (.tmp 0), some (10, true), []⟩, ⟨some 12, .mov (.tmp 2), some (10, true), []⟩, ⟨some 13, .bin .leq 2 (.tmp 11) (.tmp 12), some (10, true), []⟩, ⟨some 14, .pick (.tmp 10) (.tmp 13) (.const (.bool false)), none, []⟩, ⟨some 6, .asg 0 (.tmp 14) 4, none, []⟩] false) .ret))
def impl_within_L : Live := [(0, [0, 1, 2]), (1, [0, 1, 2])]
theorem impl_within_body : Try.f100.body = some (Try.f100.body.getD .skip) := by kernel_rfl
theorem impl_within_strip : strip [] (Try.f100.body.getD .skip) = impl_within_c := by kernel_rfl
noncomputable def impl_within (a0 : Int) (a1 : Int) (a2 : Int) : Option Bool :=
  (if (decide (a1 ≤ a0)) then (some ((decide (a0 ≤ a2)))) else (some false))
set_option maxHeartbeats 16000000 in
theorem impl_within_ok (a0 : Int) (a1 : Int) (a2 : Int) (r : Bool) (h : impl_within a0 a1 a2 = some r) : Den Try.prog 100 [(.int .i64 a0), (.int .i64 a1), (.int .i64 a2)] { r := (.bool r) } := by
  refine den_of (rs := [(.bool r)]) (ac := impl_within_c) (L := impl_within_L) (n := 15) (m := []) good Try.func100 impl_within_body (by kernel_rfl) Try.ntmps100 rfl rfl impl_within_strip rfl rfl ?_
  refine a_st (σ' := ⟨[(0, (.int .i64 a0)), (1, (.int .i64 a1)), (2, (.int .i64 a2))], []⟩) (by kernel_rfl) ?_
  unfold impl_within_c
  refine a_seq ?_
  refine a_region ?_
  refine a_val (v := (.bool false)) (u := []) rfl trivial rfl ?_
  refine a_nil ?_
  refine a_next (σ' := ⟨[(0, (.int .i64 a0)), (1, (.int .i64 a1)), (2, (.int .i64 a2))], []⟩) (by kernel_rfl) ?_
  refine a_seq ?_
  refine a_region ?_
  refine a_val (v := (.int .i64 a1)) (u := []) rfl trivial rfl ?_
  refine a_val (v := (.int .i64 a0)) (u := []) rfl trivial rfl ?_
  refine a_val (v := (.bool ((decide (a1 ≤ a0))))) (u := []) rfl trivial rfl ?_
  refine a_val (v := (.bool ((decide (a1 ≤ a0))))) (u := []) rfl trivial rfl ?_
  cases hb1 : (decide (a1 ≤ a0))
  · have h := ite_f hb1 h
    refine a_gskip rfl ?_
    refine a_gskip rfl ?_
    refine a_gskip rfl ?_
    refine a_val (v := (.bool false)) (u := []) rfl trivial rfl ?_
    refine a_val (v := (.bool false)) (u := []) rfl trivial rfl ?_
    refine a_nil ?_
    refine a_next rfl ?_
    refine a_ret ?_
    refine ⟨.inr rfl, ?_⟩
    rw [Try.results100]
    cases h
    exact ⟨_, _, _, _, _, rfl, trivial, .inl ⟨rfl, .inl rfl⟩, rfl, rfl⟩
  · have h := ite_t hb1 h
    refine a_gval rfl (v := (.int .i64 a0)) (u := []) rfl trivial rfl ?_
    refine a_gval rfl (v := (.int .i64 a2)) (u := []) rfl trivial rfl ?_
    refine a_gval rfl (v := (.bool ((decide (a0 ≤ a2))))) (u := []) rfl trivial rfl ?_
    refine a_val (v := (.bool ((decide (a0 ≤ a2))))) (u := []) rfl trivial rfl ?_
    refine a_val (v := (.bool ((decide (a0 ≤ a2))))) (u := []) rfl trivial rfl ?_
    refine a_nil ?_
    refine a_next rfl ?_
    refine a_ret ?_
    refine ⟨.inr rfl, ?_⟩
    rw [Try.results100]
    cases h
    exact ⟨_, _, _, _, _, rfl, trivial, .inl ⟨rfl, .inl rfl⟩, rfl, rfl⟩
def impl_isPrime_c : ACode := (.seq (.region 0 [⟨some 2, .asg 0 (.const (.bool false)) 4, none, []⟩] false) (.seq (.region 1 [⟨some 3, .mov (.tmp 0), none, []⟩, ⟨some 4, .bin .eql 2 (.tmp 3) (.const (.int .i64 2)), none, []⟩, ⟨some 5, .mov (.tmp 4), none, []⟩, ⟨some 6, .mov (.tmp 0), some (5, false), []⟩, ⟨some 7, .bin .eql 2 (.tmp 6) (.const (.int .i64 3)), some (5, false), []⟩, ⟨some 8, .pick (.tmp 5) (.const (.bool true)) (.tmp 7), none, []⟩, ⟨some 9, .mov (.tmp 8), none, []⟩, ⟨some 10, .mov (.tmp 0), some (9, false), []⟩, ⟨some 11, .bin .eql 2 (.tmp 10) (.const (.int .i64 5)), some (9, false), []⟩, ⟨some 12, .pick (.tmp 9) (.const (.bool true)) (.tmp 11), none, []⟩, ⟨some 13, .mov (.tmp 12), none, []⟩, ⟨some 14, .mov (.tmp 0), some (13, false), []⟩, ⟨some 15, .bin .eql 2 (.tmp 14) (.const (.int .i64 7)), some (13, false), []⟩, ⟨some 16, .pick (.tmp 13) (.const (.bool true)) (.tmp 15), none, []⟩, ⟨some 2, .asg 0 (.tmp 16) 4, none, []⟩] false) .ret))
def impl_isPrime_L : Live := [(0, [0]), (1, [0])]
theorem impl_isPrime_body : Try.f53.body = some (Try.f53.body.getD .skip) := by kernel_rfl
theorem impl_isPrime_strip : strip [] (Try.f53.body.getD .skip) = impl_isPrime_c := by kernel_rfl
noncomputable def impl_isPrime (a0 : Int) : Option Bool :=
  (if (a0 == 2) then (some true) else (if (a0 == 3) then (some true) else (if (a0 == 5) then (some true) else (some (a0 == 7)))))
set_option maxHeartbeats 16000000 in
theorem impl_isPrime_ok (a0 : Int) (r : Bool) (h : impl_isPrime a0 = some r) : Den Try.prog 53 [(.int .i64 a0)] { r := (.bool r) } := by
  refine den_of (rs := [(.bool r)]) (ac := impl_isPrime_c) (L := impl_isPrime_L) (n := 17) (m := []) good Try.func53 impl_isPrime_body (by kernel_rfl) Try.ntmps53 rfl rfl impl_isPrime_strip rfl rfl ?_
  refine a_st (σ' := ⟨[(0, (.int .i64 a0))], []⟩) (by kernel_rfl) ?_
  unfold impl_isPrime_c
  refine a_seq ?_
  refine a_region ?_
  refine a_val (v := (.bool false)) (u := []) rfl trivial rfl ?_
  refine a_nil ?_
  refine a_next (σ' := ⟨[(0, (.int .i64 a0))], []⟩) (by kernel_rfl) ?_
  refine a_seq ?_
  refine a_region ?_
  refine a_val (v := (.int .i64 a0)) (u := []) rfl trivial rfl ?_
  refine a_val (v := (.bool (a0 == 2))) (u := []) rfl trivial rfl ?_
  refine a_val (v := (.bool (a0 == 2))) (u := []) rfl trivial rfl ?_
  cases hb1 : (a0 == 2)
  · have h := ite_f hb1 h
    refine a_gval rfl (v := (.int .i64 a0)) (u := []) rfl trivial rfl ?_
    refine a_gval rfl (v := (.bool (a0 == 3))) (u := []) rfl trivial rfl ?_
    refine a_val (v := (.bool (a0 == 3))) (u := []) rfl trivial rfl ?_
    refine a_val (v := (.bool (a0 == 3))) (u := []) rfl trivial rfl ?_
    cases hb2 : (a0 == 3)
    · have h := ite_f hb2 h
      refine a_gval rfl (v := (.int .i64 a0)) (u := []) rfl trivial rfl ?_
      refine a_gval rfl (v := (.bool (a0 == 5))) (u := []) rfl trivial rfl ?_
      refine a_val (v := (.bool (a0 == 5))) (u := []) rfl trivial rfl ?_
      refine a_val (v := (.bool (a0 == 5))) (u := []) rfl trivial rfl ?_
      cases hb3 : (a0 == 5)
      · have h := ite_f hb3 h
        refine a_gval rfl (v := (.int .i64 a0)) (u := []) rfl trivial rfl ?_
        refine a_gval rfl (v := (.bool (a0 == 7))) (u := []) rfl trivial rfl ?_
        refine a_val (v := (.bool (a0 == 7))) (u := []) rfl trivial rfl ?_
        refine a_val (v := (.bool (a0 == 7))) (u := []) rfl trivial rfl ?_
        refine a_nil ?_
        refine a_next rfl ?_
        refine a_ret ?_
        refine ⟨.inr rfl, ?_⟩
        rw [Try.results53]
        cases h
        exact ⟨_, _, _, _, _, rfl, trivial, .inl ⟨rfl, .inl rfl⟩, rfl, rfl⟩
      · have h := ite_t hb3 h
        refine a_gskip rfl ?_
        refine a_gskip rfl ?_
        refine a_val (v := (.bool true)) (u := []) rfl trivial rfl ?_
        refine a_val (v := (.bool true)) (u := []) rfl trivial rfl ?_
        refine a_nil ?_
        refine a_next rfl ?_
        refine a_ret ?_
        refine ⟨.inr rfl, ?_⟩
        rw [Try.results53]
        cases h
        exact ⟨_, _, _, _, _, rfl, trivial, .inl ⟨rfl, .inl rfl⟩, rfl, rfl⟩
    · have h := ite_t hb2 h
      refine a_gskip rfl ?_
      refine a_gskip rfl ?_
      refine a_val (v := (.bool true)) (u := []) rfl trivial rfl ?_
      refine a_val (v := (.bool true)) (u := []) rfl trivial rfl ?_
      refine a_gskip rfl ?_
      refine a_gskip rfl ?_
      refine a_val (v := (.bool true)) (u := []) rfl trivial rfl ?_
      refine a_val (v := (.bool true)) (u := []) rfl trivial rfl ?_
      refine a_nil ?_
      refine a_next rfl ?_
      refine a_ret ?_
      refine ⟨.inr rfl, ?_⟩
      rw [Try.results53]
      cases h
      exact ⟨_, _, _, _, _, rfl, trivial, .inl ⟨rfl, .inl rfl⟩, rfl, rfl⟩
  · have h := ite_t hb1 h
    refine a_gskip rfl ?_
    refine a_gskip rfl ?_
    refine a_val (v := (.bool true)) (u := []) rfl trivial rfl ?_
    refine a_val (v := (.bool true)) (u := []) rfl trivial rfl ?_
    refine a_gskip rfl ?_
    refine a_gskip rfl ?_
    refine a_val (v := (.bool true)) (u := []) rfl trivial rfl ?_
    refine a_val (v := (.bool true)) (u := []) rfl trivial rfl ?_
    refine a_gskip rfl ?_
    refine a_gskip rfl ?_
    refine a_val (v := (.bool true)) (u := []) rfl trivial rfl ?_
    refine a_val (v := (.bool true)) (u := []) rfl trivial rfl ?_
    refine a_nil ?_
    refine a_next rfl ?_
    refine a_ret ?_
    refine ⟨.inr rfl, ?_⟩
    rw [Try.results53]
    cases h
    exact ⟨_, _, _, _, _, rfl, trivial, .inl ⟨rfl, .inl rfl⟩, rfl, rfl⟩
def impl_isPoly_c1_of_p_c : ACode := (.seq (.region 0 [⟨some 3, .asg 0 (.const (.bool false)) 4, none, []⟩] false) (.seq (.region 1 [⟨some 4, .mov (.tmp 0), none, []⟩, ⟨some 5, .conv 5 2 (.tmp 4), none, []⟩, ⟨some 6, .load 2 (.tmp 1), none, []⟩, ⟨some 7, .bin .lss 2 (.tmp 5) (.tmp 6), none, []⟩, ⟨some 3, .asg 0 (.tmp 7) 4, none, []⟩] false) .ret))
def impl_isPoly_c1_of_p_L : Live := [(0, [0, 1]), (1, [0, 1])]
theorem impl_isPoly_c1_of_p_body : Try.f143.body = some (Try.f143.body.getD .skip) := by kernel_rfl
theorem impl_isPoly_c1_of_p_strip : strip [] (Try.f143.body.getD .skip) = impl_isPoly_c1_of_p_c := by kernel_rfl
noncomputable def impl_isPoly_c1_of_p (a0 : Int) (a1 : Int) : Option Bool :=
  (some ((decide ((IntKind.i64.wrap a0) < a1))))
set_option maxHeartbeats 16000000 in
theorem impl_isPoly_c1_of_p_ok (a0 : Int) (a1 : Int) (r : Bool) (h : impl_isPoly_c1_of_p a0 a1 = some r) : Den Try.prog 143 [(.int .u8 a0), (.ref (.int .i64 a1) [] [])] { r := (.bool r) } := by
  refine den_of (rs := [(.bool r)]) (ac := impl_isPoly_c1_of_p_c) (L := impl_isPoly_c1_of_p_L) (n := 8) (m := []) good Try.func143 impl_isPoly_c1_of_p_body (by kernel_rfl) Try.ntmps143 rfl rfl impl_isPoly_c1_of_p_strip rfl rfl ?_
  refine a_st (σ' := ⟨[(0, (.int .u8 a0)), (1, (.ref (.int .i64 a1) [] []))], []⟩) (by kernel_rfl) ?_
  unfold impl_isPoly_c1_of_p_c
  refine a_seq ?_
  refine a_region ?_
  refine a_val (v := (.bool false)) (u := []) rfl trivial rfl ?_
  refine a_nil ?_
  refine a_next (σ' := ⟨[(0, (.int .u8 a0)), (1, (.ref (.int .i64 a1) [] []))], []⟩) (by kernel_rfl) ?_
  refine a_seq ?_
  refine a_region ?_
  refine a_val (v := (.int .u8 a0)) (u := []) rfl trivial rfl ?_
  refine a_val (v := (.int .i64 (IntKind.i64.wrap a0))) (u := []) rfl trivial rfl ?_
  have hl1 : LdOk [] (.int .i64 a1) [] 1 false (.int .i64 a1) := (.nil rfl rfl rfl)
  refine a_val (v := (.int .i64 a1)) (u := []) (ld_ref (i := ⟨.int .i64, 1, 8, (.int .i64 0)⟩) rfl rfl hl1) hl1.c rfl ?_
  refine a_val (v := (.bool ((decide ((IntKind.i64.wrap a0) < a1))))) (u := []) rfl trivial rfl ?_
  refine a_val (v := (.bool ((decide ((IntKind.i64.wrap a0) < a1))))) (u := []) rfl trivial rfl ?_
  refine a_nil ?_
  refine a_next rfl ?_
  refine a_ret ?_
  refine ⟨.inr rfl, ?_⟩
  rw [Try.results143]
  cases h
  exact ⟨_, _, _, _, _, rfl, trivial, .inl ⟨rfl, .inl rfl⟩, rfl, rfl⟩
def impl_areAll_byte__c1_of_p_c : ACode := (.seq (.region 0 [⟨some 3, .asg 0 (.const (.bool false)) 4, none, []⟩] false) (.seq (.region 1 [⟨some 4, .load 141 (.tmp 1), none, []⟩, ⟨some 5, .mov (.tmp 0), none, []⟩, ⟨some 6, .call 0 (.tmp 4) [(.tmp 5)], none, []⟩, ⟨some 7, .un .not (.tmp 6), none, []⟩, ⟨some 3, .asg 0 (.tmp 7) 4, none, []⟩] false) .ret))
def impl_areAll_byte__c1_of_p_L : Live := [(0, [0, 1]), (1, [0, 1])]
theorem impl_areAll_byte__c1_of_p_body : Try.f159.body = some (Try.f159.body.getD .skip) := by kernel_rfl
theorem impl_areAll_byte__c1_of_p_strip : strip [] (Try.f159.body.getD .skip) = impl_areAll_byte__c1_of_p_c := by kernel_rfl
noncomputable def impl_areAll_byte__c1_of_p (a0 : Int) (a1c0 : Int) : Option Bool :=
  (Option.bind (impl_isPoly_c1_of_p a0 a1c0) fun r2 => (some (!r2)))
set_option maxHeartbeats 16000000 in
theorem impl_areAll_byte__c1_of_p_ok (a0 : Int) (a1c0 : Int) (r : Bool) (h : impl_areAll_byte__c1_of_p a0 a1c0 = some r) : Den Try.prog 159 [(.int .u8 a0), (.ref (.clo 143 [] [(.ref (.int .i64 a1c0) [] [])]) [] [])] { r := (.bool r) } := by
  refine den_of (rs := [(.bool r)]) (ac := impl_areAll_byte__c1_of_p_c) (L := impl_areAll_byte__c1_of_p_L) (n := 8) (m := []) good Try.func159 impl_areAll_byte__c1_of_p_body (by kernel_rfl) Try.ntmps159 rfl rfl impl_areAll_byte__c1_of_p_strip rfl rfl ?_
  refine a_st (σ' := ⟨[(0, (.int .u8 a0)), (1, (.ref (.clo 143 [] [(.ref (.int .i64 a1c0) [] [])]) [] []))], []⟩) (by kernel_rfl) ?_
  unfold impl_areAll_byte__c1_of_p_c
  refine a_seq ?_
  refine a_region ?_
  refine a_val (v := (.bool false)) (u := []) rfl trivial rfl ?_
  refine a_nil ?_
  refine a_next (σ' := ⟨[(0, (.int .u8 a0)), (1, (.ref (.clo 143 [] [(.ref (.int .i64 a1c0) [] [])]) [] []))], []⟩) (by kernel_rfl) ?_
  refine a_seq ?_
  refine a_region ?_
  have hl1 : LdOk [] (.clo 143 [] [(.ref (.int .i64 a1c0) [] [])]) [] 1 false (.clo 143 [] [(.ref (.int .i64 a1c0) [] [])]) := (.nil rfl rfl rfl)
  refine a_val (v := (.clo 143 [] [(.ref (.int .i64 a1c0) [] [])])) (u := []) (ld_ref (i := ⟨.other, 1, 8, (.raw .nilFunc)⟩) rfl rfl hl1) hl1.c rfl ?_
  refine a_val (v := (.int .u8 a0)) (u := []) rfl trivial rfl ?_
  obtain ⟨r2, hr3, h⟩ := bind_some h
  refine a_call (args := [(.int .u8 a0), (.ref (.int .i64 a1c0) [] [])]) (u := []) (r := (.bool r2)) rfl rfl (impl_isPoly_c1_of_p_ok a0 a1c0 r2 hr3) rfl ?_
  refine a_val (v := (.bool (!r2))) (u := []) rfl trivial rfl ?_
  refine a_val (v := (.bool (!r2))) (u := []) rfl trivial rfl ?_
  refine a_nil ?_
  refine a_next rfl ?_
  refine a_ret ?_
  refine ⟨.inr rfl, ?_⟩
  rw [Try.results159]
  cases h
  exact ⟨_, _, _, _, _, rfl, trivial, .inl ⟨rfl, .inl rfl⟩, rfl, rfl⟩
def slices_IndexFunc_byte_byte_of_impl_areAll_byte__c1_p_c : ACode := (.seq (.region 0 [⟨some 4, .asg 0 (.const (.int .i64 0)) 3, none, []⟩] false) (.seq (.seq (.region 1 [⟨some 6, .mov (.tmp 0), none, []⟩, ⟨some 7, .blt 0 .len [(.tmp 6)] [140], none, []⟩, ⟨some 8, .mov (.const (.int .i64 0)), none, []⟩] false) (.block 0 (.loop (.seq (.region 2 [⟨some 9, .bin .lss 3 (.tmp 8) (.tmp 7), none, []⟩] false) (.seq (.cond (.tmp 9) .skip (.exit 0)) (.seq (.block 1 (.seq (.region 3 [⟨some 10, .mov (.tmp 8), none, []⟩, ⟨some 5, .asg 0 (.tmp 10) 3, none, []⟩] false) (.seq (.region 4 [⟨some 11, .mov (.tmp 1), none, []⟩, ⟨some 12, .mov (.tmp 0), none, []⟩, ⟨some 13, .mov (.tmp 5), none, []⟩, ⟨some 14, .indexAddr 140 (.tmp 12) (.tmp 13), none, []⟩, ⟨some 15, .load 5 (.tmp 14), none, []⟩, ⟨some 16, .call 0 (.tmp 11) [(.tmp 15)], none, []⟩] false) (.cond (.tmp 16) (.seq (.region 5 [⟨some 17, .mov (.tmp 5), none, []⟩, ⟨some 4, .asg 0 (.tmp 17) 3, none, []⟩] false) .ret) .skip)))) (.region 6 [⟨some 18, .bin .add 3 (.tmp 8) (.const (.int .i64 1)), none, []⟩, ⟨some 8, .mov (.tmp 18), none, []⟩] false))))))) (.seq (.region 7 [⟨some 4, .asg 0 (.const (.int .i64 (-1))) 3, none, []⟩] false) .ret)))
def slices_IndexFunc_byte_byte_of_impl_areAll_byte__c1_p_L : Live := [(0, [0, 1]), (1, [0, 1]), (2, [0, 1, 7, 8]), (3, [0, 1, 7, 8]), (4, [0, 1, 5, 7, 8]), (5, [5]), (6, [0, 1, 7, 8]), (7, []), (100009, [0, 1, 7, 8, 9]), (100016, [0, 1, 5, 7, 8, 16])]
theorem slices_IndexFunc_byte_byte_of_impl_areAll_byte__c1_p_body : Try.f165.body = some (Try.f165.body.getD .skip) := by kernel_rfl
theorem slices_IndexFunc_byte_byte_of_impl_areAll_byte__c1_p_strip : strip [] (Try.f165.body.getD .skip) = slices_IndexFunc_byte_byte_of_impl_areAll_byte__c1_p_c := by kernel_rfl
noncomputable def slices_IndexFunc_byte_byte_of_impl_areAll_byte__c1_p_l1 (a0 : (List Int)) (a1c0c0 : Int) (x33 : Int) : Option (Int ⊕ (Unit ⊕ Int)) :=
  (if (decide (x33 < (a0.length : Int))) then (ifp (0 ≤ x33 ∧ x33 < ((a0.length : Nat) : Int)) ((Option.bind (impl_areAll_byte__c1_of_p (rd a0 x33.toNat) a1c0c0) fun r46 => (if r46 then (some (.inr (.inr x33))) else (some (.inl (IntKind.i64.wrap (x33 + 1)))))))) else (some (.inr (((.inl ()))))))
noncomputable def slices_IndexFunc_byte_byte_of_impl_areAll_byte__c1_p (a0 : (List Int)) (a1c0c0 : Int) : Option Int :=
  (Option.bind (α := (Unit ⊕ Int)) ((loopM (fun s : Int => slices_IndexFunc_byte_byte_of_impl_areAll_byte__c1_p_l1 a0 a1c0c0 s) 0)) fun z => match z with | .inl _ => (some (-1)) | .inr r50 => (some r50))
set_option maxHeartbeats 16000000 in
theorem slices_IndexFunc_byte_byte_of_impl_areAll_byte__c1_p_ok (a0 : (List Int)) (a1c0c0 : Int) (r : Int) (h : slices_IndexFunc_byte_byte_of_impl_areAll_byte__c1_p a0 a1c0c0 = some r) : Den Try.prog 165 [(eSu8 a0), (.clo 159 [] [(.ref (.clo 143 [] [(.ref (.int .i64 a1c0c0) [] [])]) [] [])])] { r := (.int .i64 r) } := by
  refine den_of (rs := [(.int .i64 r)]) (ac := slices_IndexFunc_byte_byte_of_impl_areAll_byte__c1_p_c) (L := slices_IndexFunc_byte_byte_of_impl_areAll_byte__c1_p_L) (n := 19) (m := []) good Try.func165 slices_IndexFunc_byte_byte_of_impl_areAll_byte__c1_p_body (by kernel_rfl) Try.ntmps165 rfl rfl slices_IndexFunc_byte_byte_of_impl_areAll_byte__c1_p_strip rfl rfl ?_
  refine a_st (σ' := ⟨[(0, (eSu8 a0)), (1, (.clo 159 [] [(.ref (.clo 143 [] [(.ref (.int .i64 a1c0c0) [] [])]) [] [])]))], []⟩) (by kernel_rfl) ?_
  unfold slices_IndexFunc_byte_byte_of_impl_areAll_byte__c1_p_c
  refine a_seq ?_
  refine a_region ?_
  refine a_val (v := (.int .i64 0)) (u := []) rfl trivial rfl ?_
  refine a_nil ?_
  refine a_next (σ' := ⟨[(0, (eSu8 a0)), (1, (.clo 159 [] [(.ref (.clo 143 [] [(.ref (.int .i64 a1c0c0) [] [])]) [] [])]))], []⟩) (by kernel_rfl) ?_
  obtain ⟨y24, hy25, hk26⟩ := bind_some h
  clear h
  refine a_join (emb := fun (s : Unit) => ⟨[], []⟩) (pre := fun s => (.inl s) = y24) ?_ ?_
  · rintro _ rfl
    have h := hk26
    refine a_st (σ' := ⟨[], []⟩) (by kernel_rfl) ?_
    refine a_seq ?_
    refine a_region ?_
    refine a_val (v := (.int .i64 (-1))) (u := []) rfl trivial rfl ?_
    refine a_nil ?_
    refine a_next rfl ?_
    refine a_ret ?_
    refine ⟨.inr rfl, ?_⟩
    rw [Try.results165]
    cases h
    exact ⟨_, _, _, _, _, rfl, trivial, .inl ⟨rfl, .inl rfl⟩, rfl, rfl⟩
  · have h := hy25
    refine a_seq ?_
    refine a_region ?_
    refine a_val (v := (eSu8 a0)) (u := []) rfl trivial rfl ?_
    refine a_val (v := (.int .i64 (a0.length : Int))) (u := []) (len_run rfl rfl) trivial rfl ?_
    refine a_val (v := (.int .i64 0)) (u := []) rfl trivial rfl ?_
    refine a_nil ?_
    refine a_next (σ' := ⟨[(0, (eSu8 a0)), (1, (.clo 159 [] [(.ref (.clo 143 [] [(.ref (.int .i64 a1c0c0) [] [])]) [] [])])), (7, (.int .i64 (a0.length : Int))), (8, (.int .i64 0))], []⟩) (by kernel_rfl) ?_
    refine a_block ?_
    refine a_loop (emb := fun (s : Int) => ⟨[(0, (eSu8 a0)), (1, (.clo 159 [] [(.ref (.clo 143 [] [(.ref (.int .i64 a1c0c0) [] [])]) [] [])])), (7, (.int .i64 (a0.length : Int))), (8, (.int .i64 s))], []⟩) (body := (fun s : Int => slices_IndexFunc_byte_byte_of_impl_areAll_byte__c1_p_l1 a0 a1c0c0 s)) (G := fun q => some q = some y24) h rfl ?_ (by kernel_rfl)
    rintro X40 x33 x41 h hX42
    have h : slices_IndexFunc_byte_byte_of_impl_areAll_byte__c1_p_l1 a0 a1c0c0 x33 = some x41 := h
    refine a_st (σ' := ⟨[(0, (eSu8 a0)), (1, (.clo 159 [] [(.ref (.clo 143 [] [(.ref (.int .i64 a1c0c0) [] [])]) [] [])])), (7, (.int .i64 (a0.length : Int))), (8, (.int .i64 x33))], []⟩) (by kernel_rfl) ?_
    refine a_seq ?_
    refine a_region ?_
    refine a_val (v := (.bool ((decide (x33 < (a0.length : Int)))))) (u := []) rfl trivial rfl ?_
    refine a_nil ?_
    refine a_next (σ' := ⟨[(0, (eSu8 a0)), (1, (.clo 159 [] [(.ref (.clo 143 [] [(.ref (.int .i64 a1c0c0) [] [])]) [] [])])), (7, (.int .i64 (a0.length : Int))), (8, (.int .i64 x33)), (9, (.bool ((decide (x33 < (a0.length : Int))))))], []⟩) (by kernel_rfl) ?_
    refine a_seq ?_
    cases hb43 : (decide (x33 < (a0.length : Int)))
    · have h := ite_f hb43 h
      refine a_cond_f rfl ?_
      refine a_exit ?_
      refine t_exit ?_
      cases h
      have h := hX42
      refine t_exit ?_
      refine b_exit ?_
      exact j_leaf () (Option.some.inj h) (by kernel_rfl)
    · have h := ite_t hb43 h
      refine a_cond_t rfl ?_
      refine a_skip ?_
      refine a_next (σ' := ⟨[(0, (eSu8 a0)), (1, (.clo 159 [] [(.ref (.clo 143 [] [(.ref (.int .i64 a1c0c0) [] [])]) [] [])])), (7, (.int .i64 (a0.length : Int))), (8, (.int .i64 x33))], []⟩) (by kernel_rfl) ?_
      refine a_seq ?_
      refine a_block ?_
      refine a_seq ?_
      refine a_region ?_
      refine a_val (v := (.int .i64 x33)) (u := []) rfl trivial rfl ?_
      refine a_val (v := (.int .i64 x33)) (u := []) rfl trivial rfl ?_
      refine a_nil ?_
      refine a_next (σ' := ⟨[(0, (eSu8 a0)), (1, (.clo 159 [] [(.ref (.clo 143 [] [(.ref (.int .i64 a1c0c0) [] [])]) [] [])])), (5, (.int .i64 x33)), (7, (.int .i64 (a0.length : Int))), (8, (.int .i64 x33))], []⟩) (by kernel_rfl) ?_
      refine a_seq ?_
      refine a_region ?_
      refine a_val (v := (.clo 159 [] [(.ref (.clo 143 [] [(.ref (.int .i64 a1c0c0) [] [])]) [] [])])) (u := []) rfl trivial rfl ?_
      refine a_val (v := (eSu8 a0)) (u := []) rfl trivial rfl ?_
      refine a_val (v := (.int .i64 x33)) (u := []) rfl trivial rfl ?_
      obtain ⟨hc44, h⟩ := ifp_some h
      refine a_val (v := (.ref (.row 1 (a0.map (AV.int .u8))) [x33.toNat] [x33.toNat * 1])) (u := []) rfl (lmap hc44) rfl ?_
      have hl45 : LdOk [x33.toNat] (.row 1 (a0.map (AV.int .u8))) [x33.toNat * 1] 1 false (.int .u8 (rd a0 x33.toNat)) := (.row (llt hc44) rfl (.nil rfl rfl rfl))
      refine a_val (v := (.int .u8 (rd a0 x33.toNat))) (u := []) (ld_ref (i := ⟨.int .u8, 1, 1, (.int .u8 0)⟩) rfl rfl hl45) hl45.c rfl ?_
      obtain ⟨r46, hr47, h⟩ := bind_some h
      refine a_call (args := [(.int .u8 (rd a0 x33.toNat)), (.ref (.clo 143 [] [(.ref (.int .i64 a1c0c0) [] [])]) [] [])]) (u := []) (r := (.bool r46)) rfl rfl (impl_areAll_byte__c1_of_p_ok (rd a0 x33.toNat) a1c0c0 r46 hr47) rfl ?_
      refine a_nil ?_
      refine a_next (σ' := ⟨[(0, (eSu8 a0)), (1, (.clo 159 [] [(.ref (.clo 143 [] [(.ref (.int .i64 a1c0c0) [] [])]) [] [])])), (5, (.int .i64 x33)), (7, (.int .i64 (a0.length : Int))), (8, (.int .i64 x33)), (16, (.bool r46))], []⟩) (by kernel_rfl) ?_
      cases hb48 : r46
      · have h := ite_f hb48 h
        refine a_cond_f rfl ?_
        refine a_skip ?_
        refine b_norm ?_
        refine a_next (σ' := ⟨[(0, (eSu8 a0)), (1, (.clo 159 [] [(.ref (.clo 143 [] [(.ref (.int .i64 a1c0c0) [] [])]) [] [])])), (7, (.int .i64 (a0.length : Int))), (8, (.int .i64 x33))], []⟩) (by kernel_rfl) ?_
        refine a_region ?_
        refine a_val (v := (.int .i64 (IntKind.i64.wrap (x33 + 1)))) (u := []) rfl trivial rfl ?_
        refine a_val (v := (.int .i64 (IntKind.i64.wrap (x33 + 1)))) (u := []) rfl trivial rfl ?_
        refine a_nil ?_
        cases h
        exact a_again (by kernel_rfl) hX42
      · have h := ite_t hb48 h
        refine a_cond_t rfl ?_
        refine a_seq ?_
        refine a_region ?_
        refine a_val (v := (.int .i64 x33)) (u := []) rfl trivial rfl ?_
        refine a_val (v := (.int .i64 x33)) (u := []) rfl trivial rfl ?_
        refine a_nil ?_
        refine a_next rfl ?_
        refine a_ret ?_
        refine b_ret ?_
        refine t_ret ?_
        cases h
        have h := hX42
        refine t_ret ?_
        refine b_ret ?_
        refine t_ret ?_
        cases h
        have h := hk26
        refine ⟨.inr rfl, ?_⟩
        rw [Try.results165]
        cases h
        exact ⟨_, _, _, _, _, rfl, trivial, .inl ⟨rfl, .inl rfl⟩, rfl, rfl⟩
def slices_ContainsFunc_byte_byte_of_impl_areAll_byte__c1_p_c : ACode := (.seq (.region 0 [⟨some 4, .asg 0 (.const (.bool false)) 4, none, []⟩] false) (.seq (.region 1 [⟨some 5, .mov (.tmp 0), none, []⟩, ⟨some 6, .mov (.tmp 1), none, []⟩, ⟨some 7, .call 0 (.func 165) [(.tmp 5), (.tmp 6)], none, []⟩, ⟨some 8, .bin .geq 3 (.tmp 7) (.const (.int .i64 0)), none, []⟩, ⟨some 4, .asg 0 (.tmp 8) 4, none, []⟩] false) .ret))
def slices_ContainsFunc_byte_byte_of_impl_areAll_byte__c1_p_L : Live := [(0, [0, 1]), (1, [0, 1])]
theorem slices_ContainsFunc_byte_byte_of_impl_areAll_byte__c1_p_body : Try.f158.body = some (Try.f158.body.getD .skip) := by kernel_rfl
theorem slices_ContainsFunc_byte_byte_of_impl_areAll_byte__c1_p_strip : strip [] (Try.f158.body.getD .skip) = slices_ContainsFunc_byte_byte_of_impl_areAll_byte__c1_p_c := by kernel_rfl
noncomputable def slices_ContainsFunc_byte_byte_of_impl_areAll_byte__c1_p (a0 : (List Int)) (a1c0c0 : Int) : Option Bool :=
  (Option.bind (slices_IndexFunc_byte_byte_of_impl_areAll_byte__c1_p a0 a1c0c0) fun r1 => (some ((decide (r1 ≥ 0)))))
set_option maxHeartbeats 16000000 in
theorem slices_ContainsFunc_byte_byte_of_impl_areAll_byte__c1_p_ok (a0 : (List Int)) (a1c0c0 : Int) (r : Bool) (h : slices_ContainsFunc_byte_byte_of_impl_areAll_byte__c1_p a0 a1c0c0 = some r) : Den Try.prog 158 [(eSu8 a0), (.clo 159 [] [(.ref (.clo 143 [] [(.ref (.int .i64 a1c0c0) [] [])]) [] [])])] { r := (.bool r) } := by
  refine den_of (rs := [(.bool r)]) (ac := slices_ContainsFunc_byte_byte_of_impl_areAll_byte__c1_p_c) (L := slices_ContainsFunc_byte_byte_of_impl_areAll_byte__c1_p_L) (n := 9) (m := []) good Try.func158 slices_ContainsFunc_byte_byte_of_impl_areAll_byte__c1_p_body (by kernel_rfl) Try.ntmps158 rfl rfl slices_ContainsFunc_byte_byte_of_impl_areAll_byte__c1_p_strip rfl rfl ?_
  refine a_st (σ' := ⟨[(0, (eSu8 a0)), (1, (.clo 159 [] [(.ref (.clo 143 [] [(.ref (.int .i64 a1c0c0) [] [])]) [] [])]))], []⟩) (by kernel_rfl) ?_
  unfold slices_ContainsFunc_byte_byte_of_impl_areAll_byte__c1_p_c
  refine a_seq ?_
  refine a_region ?_
  refine a_val (v := (.bool false)) (u := []) rfl trivial rfl ?_
  refine a_nil ?_
  refine a_next (σ' := ⟨[(0, (eSu8 a0)), (1, (.clo 159 [] [(.ref (.clo 143 [] [(.ref (.int .i64 a1c0c0) [] [])]) [] [])]))], []⟩) (by kernel_rfl) ?_
  refine a_seq ?_
  refine a_region ?_
  refine a_val (v := (eSu8 a0)) (u := []) rfl trivial rfl ?_
  refine a_val (v := (.clo 159 [] [(.ref (.clo 143 [] [(.ref (.int .i64 a1c0c0) [] [])]) [] [])])) (u := []) rfl trivial rfl ?_
  obtain ⟨r1, hr2, h⟩ := bind_some h
  refine a_call (args := [(eSu8 a0), (.clo 159 [] [(.ref (.clo 143 [] [(.ref (.int .i64 a1c0c0) [] [])]) [] [])])]) (u := []) (r := (.int .i64 r1)) rfl rfl (slices_IndexFunc_byte_byte_of_impl_areAll_byte__c1_p_ok a0 a1c0c0 r1 hr2) rfl ?_
  refine a_val (v := (.bool ((decide (r1 ≥ 0))))) (u := []) rfl trivial rfl ?_
  refine a_val (v := (.bool ((decide (r1 ≥ 0))))) (u := []) rfl trivial rfl ?_
  refine a_nil ?_
  refine a_next rfl ?_
  refine a_ret ?_
  refine ⟨.inr rfl, ?_⟩
  rw [Try.results158]
  cases h
  exact ⟨_, _, _, _, _, rfl, trivial, .inl ⟨rfl, .inl rfl⟩, rfl, rfl⟩
def impl_areAll_byte_of_impl_isPoly_c1_p_c : ACode := (.seq (.region 0 [⟨some 3, .box 141 (.tmp 1), none, []⟩, ⟨some 4, .asg 0 (.const (.bool false)) 4, none, []⟩] false) (.seq (.region 1 [⟨some 5, .mov (.tmp 0), none, []⟩, ⟨some 6, .mkfn 159 [] [(.tmp 3)], none, []⟩, ⟨some 7, .call 0 (.func 158) [(.tmp 5), (.tmp 6)], none, []⟩, ⟨some 8, .un .not (.tmp 7), none, []⟩, ⟨some 4, .asg 0 (.tmp 8) 4, none, []⟩] false) .ret))
def impl_areAll_byte_of_impl_isPoly_c1_p_L : Live := [(0, [0, 1]), (1, [0, 3])]
theorem impl_areAll_byte_of_impl_isPoly_c1_p_body : Try.f142.body = some (Try.f142.body.getD .skip) := by kernel_rfl
theorem impl_areAll_byte_of_impl_isPoly_c1_p_strip : strip [] (Try.f142.body.getD .skip) = impl_areAll_byte_of_impl_isPoly_c1_p_c := by kernel_rfl
noncomputable def impl_areAll_byte_of_impl_isPoly_c1_p (a0 : (List Int)) (a1c0 : Int) : Option Bool :=
  (Option.bind (slices_ContainsFunc_byte_byte_of_impl_areAll_byte__c1_p a0 a1c0) fun r1 => (some (!r1)))
set_option maxHeartbeats 16000000 in
theorem impl_areAll_byte_of_impl_isPoly_c1_p_ok (a0 : (List Int)) (a1c0 : Int) (r : Bool) (h : impl_areAll_byte_of_impl_isPoly_c1_p a0 a1c0 = some r) : Den Try.prog 142 [(eSu8 a0), (.clo 143 [] [(.ref (.int .i64 a1c0) [] [])])] { r := (.bool r) } := by
  refine den_of (rs := [(.bool r)]) (ac := impl_areAll_byte_of_impl_isPoly_c1_p_c) (L := impl_areAll_byte_of_impl_isPoly_c1_p_L) (n := 9) (m := []) good Try.func142 impl_areAll_byte_of_impl_isPoly_c1_p_body (by kernel_rfl) Try.ntmps142 rfl rfl impl_areAll_byte_of_impl_isPoly_c1_p_strip rfl rfl ?_
  refine a_st (σ' := ⟨[(0, (eSu8 a0)), (1, (.clo 143 [] [(.ref (.int .i64 a1c0) [] [])]))], []⟩) (by kernel_rfl) ?_
  unfold impl_areAll_byte_of_impl_isPoly_c1_p_c
  refine a_seq ?_
  refine a_region ?_
  refine a_val (v := (.own 1300 [] [])) (u := [(1300, some ⟨(.clo 143 [] [(.ref (.int .i64 a1c0) [] [])]), false⟩)]) rfl trivial rfl ?_
  refine a_val (v := (.bool false)) (u := []) rfl trivial rfl ?_
  refine a_nil ?_
  refine a_next (σ' := ⟨[(0, (eSu8 a0)), (3, (.own 3 [] []))], [(3, some ⟨(.clo 143 [] [(.ref (.int .i64 a1c0) [] [])]), false⟩)]⟩) (by kernel_rfl) ?_
  refine a_seq ?_
  refine a_region ?_
  refine a_val (v := (eSu8 a0)) (u := []) rfl trivial rfl ?_
  refine a_val (v := (.clo 159 [] [(.ref (.clo 143 [] [(.ref (.int .i64 a1c0) [] [])]) [] [])])) (u := [(3, some ⟨(.clo 143 [] [(.ref (.int .i64 a1c0) [] [])]), true⟩)]) rfl ⟨all_nil, (all_cons ⟨rfl, rfl⟩ all_nil)⟩ rfl ?_
  obtain ⟨r1, hr2, h⟩ := bind_some h
  refine a_call (args := [(eSu8 a0), (.clo 159 [] [(.ref (.clo 143 [] [(.ref (.int .i64 a1c0) [] [])]) [] [])])]) (u := []) (r := (.bool r1)) rfl rfl (slices_ContainsFunc_byte_byte_of_impl_areAll_byte__c1_p_ok a0 a1c0 r1 hr2) rfl ?_
  refine a_val (v := (.bool (!r1))) (u := []) rfl trivial rfl ?_
  refine a_val (v := (.bool (!r1))) (u := []) rfl trivial rfl ?_
  refine a_nil ?_
  refine a_next rfl ?_
  refine a_ret ?_
  refine ⟨.inr rfl, ?_⟩
  rw [Try.results142]
  cases h
  exact ⟨_, _, _, _, _, rfl, trivial, .inl ⟨rfl, .inl rfl⟩, rfl, rfl⟩
def impl_isPoly_c : ACode := (.seq (.region 0 [⟨some 2, .box 2 (.tmp 0), none, []⟩, ⟨some 3, .box 23 (.tmp 1), none, []⟩, ⟨some 4, .asg 0 (.const (.bool false)) 4, none, []⟩] false) (.seq (.region 1 [⟨some 5, .slice 23 (.tmp 3) none none none, none, []⟩, ⟨some 6, .mkfn 143 [] [(.tmp 2)], none, []⟩, ⟨some 7, .call 0 (.func 142) [(.tmp 5), (.tmp 6)], none, []⟩, ⟨some 4, .asg 0 (.tmp 7) 4, none, []⟩] false) .ret))
def impl_isPoly_L : Live := [(0, [0, 1]), (1, [2, 3])]
theorem impl_isPoly_body : Try.f119.body = some (Try.f119.body.getD .skip) := by kernel_rfl
theorem impl_isPoly_strip : strip [] (Try.f119.body.getD .skip) = impl_isPoly_c := by kernel_rfl
noncomputable def impl_isPoly (a0 : Int) (a1 : (Vec Int 64)) : Option Bool :=
  (Option.bind (impl_areAll_byte_of_impl_isPoly_c1_p a1.1 a0) fun r1 => (some r1))
set_option maxHeartbeats 16000000 in
theorem impl_isPoly_ok (a0 : Int) (a1 : (Vec Int 64)) (r : Bool) (h : impl_isPoly a0 a1 = some r) : Den Try.prog 119 [(.int .i64 a0), (eA64u8 a1)] { r := (.bool r) } := by
  refine den_of (rs := [(.bool r)]) (ac := impl_isPoly_c) (L := impl_isPoly_L) (n := 8) (m := []) good Try.func119 impl_isPoly_body (by kernel_rfl) Try.ntmps119 rfl rfl impl_isPoly_strip rfl rfl ?_
  refine a_st (σ' := ⟨[(0, (.int .i64 a0)), (1, (eA64u8 a1))], []⟩) (by kernel_rfl) ?_
  unfold impl_isPoly_c
  refine a_seq ?_
  refine a_region ?_
  refine a_val (v := (.own 1200 [] [])) (u := [(1200, some ⟨(.int .i64 a0), false⟩)]) rfl trivial rfl ?_
  refine a_val (v := (.own 1300 [] [])) (u := [(1300, some ⟨(eA64u8 a1), false⟩)]) rfl trivial rfl ?_
  refine a_val (v := (.bool false)) (u := []) rfl trivial rfl ?_
  refine a_nil ?_
  refine a_next (σ' := ⟨[(2, (.own 2 [] [])), (3, (.own 3 [] []))], [(2, some ⟨(.int .i64 a0), false⟩), (3, some ⟨(eA64u8 a1), false⟩)]⟩) (by kernel_rfl) ?_
  refine a_seq ?_
  refine a_region ?_
  refine a_val (v := (.sl 1 true (a1.1.map (AV.int .u8)))) (u := [(3, some ⟨(eA64u8 a1), true⟩)]) rfl ⟨rfl, trivial, rfl, rfl⟩ rfl ?_
  refine a_val (v := (.clo 143 [] [(.ref (.int .i64 a0) [] [])])) (u := [(2, some ⟨(.int .i64 a0), true⟩)]) rfl ⟨all_nil, (all_cons ⟨rfl, rfl⟩ all_nil)⟩ rfl ?_
  obtain ⟨r1, hr2, h⟩ := bind_some h
  refine a_call (args := [(.sl 1 true (a1.1.map (AV.int .u8))), (.clo 143 [] [(.ref (.int .i64 a0) [] [])])]) (u := []) (r := (.bool r1)) rfl rfl (Den.args (impl_areAll_byte_of_impl_isPoly_c1_p_ok a1.1 a0 r1 hr2) rfl rfl (.cons (.loose _) (.cons (.refl _) .nil))) rfl ?_
  refine a_val (v := (.bool r1)) (u := []) rfl trivial rfl ?_
  refine a_nil ?_
  refine a_next rfl ?_
  refine a_ret ?_
  refine ⟨.inr rfl, ?_⟩
  rw [Try.results119]
  cases h
  exact ⟨_, _, _, _, _, rfl, trivial, .inl ⟨rfl, .inl rfl⟩, rfl, rfl⟩
def impl_polysCode_c1_of_p_c : ACode := (.seq (.region 0 [⟨some 2, .box 23 (.tmp 0), none, []⟩, ⟨some 3, .asg 0 (.const (.bool false)) 4, none, []⟩] false) (.seq (.region 1 [⟨some 4, .load 2 (.tmp 1), none, []⟩, ⟨some 5, .load 23 (.tmp 2), none, []⟩, ⟨some 6, .call 0 (.func 119) [(.tmp 4), (.tmp 5)], none, []⟩, ⟨some 3, .asg 0 (.tmp 6) 4, none, []⟩] false) .ret))
def impl_polysCode_c1_of_p_L : Live := [(0, [0, 1]), (1, [1, 2])]
theorem impl_polysCode_c1_of_p_body : Try.f118.body = some (Try.f118.body.getD .skip) := by kernel_rfl
theorem impl_polysCode_c1_of_p_strip : strip [] (Try.f118.body.getD .skip) = impl_polysCode_c1_of_p_c := by kernel_rfl
noncomputable def impl_polysCode_c1_of_p (a0 : (Vec Int 64)) (a1 : Int) : Option Bool :=
  (Option.bind (impl_isPoly a1 a0) fun r3 => (some r3))
set_option maxHeartbeats 16000000 in
theorem impl_polysCode_c1_of_p_ok (a0 : (Vec Int 64)) (a1 : Int) (r : Bool) (h : impl_polysCode_c1_of_p a0 a1 = some r) : Den Try.prog 118 [(eA64u8 a0), (.ref (.int .i64 a1) [] [])] { r := (.bool r) } := by
  refine den_of (rs := [(.bool r)]) (ac := impl_polysCode_c1_of_p_c) (L := impl_polysCode_c1_of_p_L) (n := 7) (m := []) good Try.func118 impl_polysCode_c1_of_p_body (by kernel_rfl) Try.ntmps118 rfl rfl impl_polysCode_c1_of_p_strip rfl rfl ?_
  refine a_st (σ' := ⟨[(0, (eA64u8 a0)), (1, (.ref (.int .i64 a1) [] []))], []⟩) (by kernel_rfl) ?_
  unfold impl_polysCode_c1_of_p_c
  refine a_seq ?_
  refine a_region ?_
  refine a_val (v := (.own 1200 [] [])) (u := [(1200, some ⟨(eA64u8 a0), false⟩)]) rfl trivial rfl ?_
  refine a_val (v := (.bool false)) (u := []) rfl trivial rfl ?_
  refine a_nil ?_
  refine a_next (σ' := ⟨[(1, (.ref (.int .i64 a1) [] [])), (2, (.own 2 [] []))], [(2, some ⟨(eA64u8 a0), false⟩)]⟩) (by kernel_rfl) ?_
  refine a_seq ?_
  refine a_region ?_
  have hl1 : LdOk [] (.int .i64 a1) [] 1 false (.int .i64 a1) := (.nil rfl rfl rfl)
  refine a_val (v := (.int .i64 a1)) (u := []) (ld_ref (i := ⟨.int .i64, 1, 8, (.int .i64 0)⟩) rfl rfl hl1) hl1.c rfl ?_
  have hl2 : LdOk [] (eA64u8 a0) [] 64 true (eA64u8 a0) := (.nil rfl rfl rfl)
  refine a_val (v := (eA64u8 a0)) (u := []) (ld_own (i := ⟨.arr 64 5, 64, 64, (eA64u8 (vrep 64 (0 : Int)))⟩) rfl rfl rfl hl2) hl2.c rfl ?_
  obtain ⟨r3, hr4, h⟩ := bind_some h
  refine a_call (args := [(.int .i64 a1), (eA64u8 a0)]) (u := []) (r := (.bool r3)) rfl rfl (impl_isPoly_ok a1 a0 r3 hr4) rfl ?_
  refine a_val (v := (.bool r3)) (u := []) rfl trivial rfl ?_
  refine a_nil ?_
  refine a_next rfl ?_
  refine a_ret ?_
  refine ⟨.inr rfl, ?_⟩
  rw [Try.results118]
  cases h
  exact ⟨_, _, _, _, _, rfl, trivial, .inl ⟨rfl, .inl rfl⟩, rfl, rfl⟩
end Go.Proofs.Ytgodhgbnjlflmaa
