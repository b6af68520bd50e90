/- Functions of the program: plain Lean functions, and that the program computes them. Printed by gen.py. -/
import Derived.Test.YtgodhgbnjlflmaaFnT
import Derived.Test.YtgodhgbnjlflmaaFn1
namespace Go.Proofs.Ytgodhgbnjlflmaa
open Go.Abs Go.Proofs
set_option linter.unusedSimpArgs false
set_option linter.unusedVariables false

def spec_l01Times_c : ACode := (.seq (.region 0 [⟨some 4, .box 23 (.tmp 1), none, []⟩, ⟨some 5, .box 23 (.tmp 2), none, []⟩, ⟨some 6, .alloc 23, none, []⟩, ⟨some 7, .asg 0 (.const (.bool false)) 4, none, []⟩] false) (.seq (.region 1 [⟨some 13, .load 23 (.tmp 4), none, []⟩, ⟨some 14, .call 0 (.func 83) [(.tmp 13)], none, [0]⟩, ⟨some 15, .load 23 (.tmp 5), none, []⟩, ⟨some 16, .call 0 (.func 83) [(.tmp 15)], none, [2, 1]⟩, ⟨some 17, .build 23 [], none, []⟩, ⟨some 10, .alloc 23, none, []⟩, ⟨some 8, .asg 0 (.tmp 14) 2, none, [1, 3, 0, 1, 5]⟩, ⟨some 9, .asg 0 (.tmp 16) 2, none, [3, 6, 0, 1, 2, 3, 5, 6]⟩, ⟨none, .store 23 (.tmp 10) (.tmp 17), none, [5, 4, 7, 0, 1, 2, 3, 4, 5, 6, 7]⟩] true) (.seq (.seq (.region 2 [⟨some 18, .mov (.tmp 8), none, []⟩, ⟨some 19, .bin .lss 2 (.tmp 18) (.const (.int .i64 0)), none, []⟩, ⟨some 20, .mov (.tmp 19), none, []⟩, ⟨some 21, .mov (.tmp 9), some (20, false), []⟩, ⟨some 22, .bin .lss 2 (.tmp 21) (.const (.int .i64 0)), some (20, false), []⟩, ⟨some 23, .pick (.tmp 20) (.const (.bool true)) (.tmp 22), none, []⟩] false) (.cond (.tmp 23) (.seq (.region 3 [⟨some 24, .load 23 (.tmp 10), none, []⟩, ⟨none, .store 23 (.tmp 6) (.tmp 24), none, []⟩, ⟨some 7, .asg 0 (.const (.bool true)) 4, none, []⟩] false) .ret) .skip)) (.seq (.seq (.region 4 [⟨some 25, .mov (.tmp 8), none, []⟩, ⟨some 26, .mov (.tmp 9), none, []⟩, ⟨some 27, .bin .add 2 (.tmp 25) (.tmp 26), none, []⟩, ⟨some 28, .bin .gtr 2 (.tmp 27) (.const (.int .i64 63)), none, []⟩] false) (.cond (.tmp 28) (.seq (.region 5 [⟨some 29, .load 23 (.tmp 10), none, []⟩, ⟨none, .store 23 (.tmp 6) (.tmp 29), none, []⟩, ⟨some 7, .asg 0 (.const (.bool false)) 4, none, []⟩] false) .ret) .skip)) (.seq (.seq (.region 6 [⟨some 11, .asg 0 (.const (.int .i64 0)) 2, none, []⟩] false) (.block 0 (.loop (.seq (.seq (.region 7 [⟨some 30, .mov (.tmp 11), none, []⟩, ⟨some 31, .mov (.tmp 8), none, []⟩, ⟨some 32, .bin .leq 2 (.tmp 30) (.tmp 31), none, []⟩] false) (.cond (.tmp 32) .skip (.exit 0))) (.seq (.block 1 (.seq (.region 9 [⟨some 12, .asg 0 (.const (.int .i64 0)) 2, none, []⟩] false) (.block 2 (.loop (.seq (.seq (.region 10 [⟨some 35, .mov (.tmp 12), none, []⟩, ⟨some 36, .mov (.tmp 9), none, []⟩, ⟨some 37, .bin .leq 2 (.tmp 35) (.tmp 36), none, []⟩, ⟨some 38, .mov (.tmp 37), none, []⟩, ⟨some 39, .mov (.tmp 11), some (38, true), []⟩, ⟨some 40, .indexAddr 23 (.tmp 4) (.tmp 39), some (38, true), []⟩, ⟨some 41, .load 5 (.tmp 40), some (38, true), []⟩, ⟨some 42, .bin .neq 5 (.tmp 41) (.const (.int .u8 0)), some (38, true), []⟩, ⟨some 43, .pick (.tmp 38) (.tmp 42) (.const (.bool false)), none, []⟩] false) (.cond (.tmp 43) .skip (.exit 2))) (.seq (.block 3 (.region 12 [⟨some 46, .mov (.tmp 11), none, []⟩, ⟨some 47, .mov (.tmp 12), none, []⟩, ⟨some 48, .bin .add 2 (.tmp 46) (.tmp 47), none, [0, 1]⟩, ⟨some 49, .mov (.tmp 11), none, []⟩, ⟨some 50, .mov (.tmp 12), none, []⟩, ⟨some 51, .bin .add 2 (.tmp 49) (.tmp 50), none, [3, 4]⟩, ⟨some 52, .indexAddr 23 (.tmp 10) (.tmp 51), none, [5]⟩, ⟨some 53, .load 5 (.tmp 52), none, [6]⟩, ⟨some 54, .conv 5 2 (.tmp 53), none, [7]⟩, ⟨some 55, .mov (.tmp 11), none, []⟩, ⟨some 56, .indexAddr 23 (.tmp 4) (.tmp 55), none, [9]⟩, ⟨some 57, .load 5 (.tmp 56), none, [10]⟩, ⟨some 58, .conv 5 2 (.tmp 57), none, [11]⟩, ⟨some 59, .mov (.tmp 12), none, []⟩, ⟨some 60, .indexAddr 23 (.tmp 5) (.tmp 59), none, [13]⟩, ⟨some 61, .load 5 (.tmp 60), none, [14]⟩, ⟨some 62, .conv 5 2 (.tmp 61), none, [15]⟩, ⟨some 63, .bin .mul 2 (.tmp 58) (.tmp 62), none, [12, 16]⟩, ⟨some 64, .bin .add 2 (.tmp 54) (.tmp 63), none, [8, 17]⟩, ⟨some 65, .mov (.tmp 0), none, []⟩, ⟨some 66, .bin .rem 2 (.tmp 64) (.tmp 65), none, [18, 19]⟩, ⟨some 67, .conv 2 5 (.tmp 66), none, [20]⟩, ⟨some 68, .indexAddr 23 (.tmp 10) (.tmp 48), none, [2, 0, 1, 2, 3, 4, 5, 6, 7, 8, 9, 10, 11, 12, 13, 14, 15, 16, 17, 18, 19, 20, 21]⟩, ⟨none, .store 5 (.tmp 68) (.tmp 67), none, [22, 21, 0, 1, 2, 3, 4, 5, 6, 7, 8, 9, 10, 11, 12, 13, 14, 15, 16, 17, 18, 19, 20, 21]⟩] true)) (.region 11 [⟨some 44, .mov (.tmp 12), none, []⟩, ⟨some 45, .bin .add 2 (.tmp 44) (.const (.int .i64 1)), none, []⟩, ⟨some 12, .asg 0 (.tmp 45) 2, none, []⟩] false))))))) (.region 8 [⟨some 33, .mov (.tmp 11), none, []⟩, ⟨some 34, .bin .add 2 (.tmp 33) (.const (.int .i64 1)), none, []⟩, ⟨some 11, .asg 0 (.tmp 34) 2, none, []⟩] false)))))) (.seq (.region 13 [⟨some 69, .load 23 (.tmp 10), none, []⟩, ⟨none, .store 23 (.tmp 6) (.tmp 69), none, []⟩, ⟨some 7, .asg 0 (.const (.bool true)) 4, none, []⟩] false) .ret))))))
def spec_l01Times_L : Live := [(0, [0, 1, 2]), (1, [0, 4, 5, 6]), (2, [0, 4, 5, 6, 8, 9, 10]), (3, [6, 10]), (4, [0, 4, 5, 6, 8, 9, 10]), (5, [6, 10]), (6, [0, 4, 5, 6, 8, 9, 10]), (7, [0, 4, 5, 6, 8, 9, 10, 11]), (8, [0, 4, 5, 6, 8, 9, 10, 11]), (9, [0, 4, 5, 6, 8, 9, 10, 11]), (10, [0, 4, 5, 6, 8, 9, 10, 11, 12]), (11, [0, 4, 5, 6, 8, 9, 10, 11, 12]), (12, [0, 4, 5, 6, 8, 9, 10, 11, 12]), (13, [6, 10]), (100023, [0, 4, 5, 6, 8, 9, 10, 23]), (100028, [0, 4, 5, 6, 8, 9, 10, 28]), (100032, [0, 4, 5, 6, 8, 9, 10, 11, 32]), (100043, [0, 4, 5, 6, 8, 9, 10, 11, 12, 43])]
theorem spec_l01Times_body : Try.f52.body = some (Try.f52.body.getD .skip) := by kernel_rfl
theorem spec_l01Times_strip : strip [] (Try.f52.body.getD .skip) = spec_l01Times_c := by kernel_rfl
noncomputable def spec_l01Times_l2 (r12 : Int) (x1081 : Int) (a1 : (Vec Int 64)) (a2 : (Vec Int 64)) (a0 : Int) (x1524 : Int) (x1525 : (Vec Int 64)) : Option ((Int × (Vec Int 64)) ⊕ (Vec Int 64)) :=
  (Option.bind (α := Bool) ((if (decide (x1524 ≤ r12)) then (ifp (0 ≤ x1081 ∧ x1081 < ((64 : Nat) : Int)) ((some (((rd a1.1 x1081.toNat) != 0))))) else (some false))) fun x1573 => (if x1573 then (ifp (0 ≤ IntKind.i64.wrap (x1081 + x1524) ∧ IntKind.i64.wrap (x1081 + x1524) < ((64 : Nat) : Int)) ((letp (IntKind.i64.wrap ((rd x1525.1 (IntKind.i64.wrap (x1081 + x1524)).toNat))) fun x1598 => (ifp (0 ≤ x1081 ∧ x1081 < ((64 : Nat) : Int)) ((ifp (0 ≤ x1524 ∧ x1524 < ((64 : Nat) : Int)) ((letp (IntKind.i64.wrap ((IntKind.i64.wrap (rd a1.1 x1081.toNat)) * (IntKind.i64.wrap (rd a2.1 x1524.toNat)))) fun x1604 => (ifp (a0 ≠ 0) ((letp (IntKind.u8.wrap (Int.tmod (IntKind.i64.wrap (x1598 + x1604)) a0)) fun x1607 => (ifp (0 ≤ IntKind.i64.wrap (x1081 + x1524) ∧ IntKind.i64.wrap (x1081 + x1524) < ((64 : Nat) : Int)) ((some (.inl ((IntKind.i64.wrap (x1524 + 1), (vset x1525 (IntKind.i64.wrap (x1081 + x1524)).toNat x1607)))))))))))))))))) else (some (.inr x1525))))
noncomputable def spec_l01Times_l1 (r9 : Int) (r12 : Int) (a1 : (Vec Int 64)) (a2 : (Vec Int 64)) (a0 : Int) (x1081 : Int) (x1082 : (Vec Int 64)) : Option ((Int × (Vec Int 64)) ⊕ (Vec Int 64)) :=
  (if (decide (x1081 ≤ r9)) then (Option.bind (α := (Vec Int 64)) ((loopM (fun s : (Int × (Vec Int 64)) => spec_l01Times_l2 r12 x1081 a1 a2 a0 s.1 s.2) (0, x1082))) fun x1479 => (some (.inl ((IntKind.i64.wrap (x1081 + 1), x1479))))) else (some (.inr x1082)))
noncomputable def spec_l01Times (a0 : Int) (a1 : (Vec Int 64)) (a2 : (Vec Int 64)) : Option ((Vec Int 64) × Bool) :=
  (Option.bind (spec_l01Deg a1) fun r9 => (Option.bind (spec_l01Deg a2) fun r12 => (Option.bind (α := Bool) ((if (decide (r9 < 0)) then (some true) else (some ((decide (r12 < 0)))))) fun x16 => (if x16 then (some (((vrep 64 (0 : Int)), true))) else (if (decide ((IntKind.i64.wrap (r9 + r12)) > 63)) then (some (((vrep 64 (0 : Int)), false))) else (Option.bind (α := (Vec Int 64)) ((loopM (fun s : (Int × (Vec Int 64)) => spec_l01Times_l1 r9 r12 a1 a2 a0 s.1 s.2) (0, (vrep 64 (0 : Int))))) fun x814 => (some (x814, true))))))))
set_option maxHeartbeats 16000000 in
theorem spec_l01Times_ok (a0 : Int) (a1 : (Vec Int 64)) (a2 : (Vec Int 64)) (r : ((Vec Int 64) × Bool)) (h : spec_l01Times a0 a1 a2 = some r) : Den Try.prog 52 [(.int .i64 a0), (eA64u8 a1), (eA64u8 a2)] { r := (.tuple [(eA64u8 r.1), (.bool r.2)]) } := by
  refine den_of (rs := [(eA64u8 r.1), (.bool r.2)]) (ac := spec_l01Times_c) (L := spec_l01Times_L) (n := 70) (m := []) good Try.func52 spec_l01Times_body (by kernel_rfl) Try.ntmps52 rfl rfl spec_l01Times_strip rfl rfl ?_
  refine a_st (σ' := ⟨[(0, (.int .i64 a0)), (1, (eA64u8 a1)), (2, (eA64u8 a2))], []⟩) (by kernel_rfl) ?_
  unfold spec_l01Times_c
  refine a_seq ?_
  refine a_region ?_
  refine a_val (v := (.own 1400 [] [])) (u := [(1400, some ⟨(eA64u8 a1), false⟩)]) rfl trivial rfl ?_
  refine a_val (v := (.own 1500 [] [])) (u := [(1500, some ⟨(eA64u8 a2), false⟩)]) rfl trivial rfl ?_
  refine a_val (v := (.own 1600 [] [])) (u := [(1600, some ⟨(eA64u8 ((vrep 64 (0 : Int)))), false⟩)]) rfl trivial rfl ?_
  refine a_val (v := (.bool false)) (u := []) rfl trivial rfl ?_
  refine a_nil ?_
  refine a_next (σ' := ⟨[(0, (.int .i64 a0)), (4, (.own 4 [] [])), (5, (.own 5 [] [])), (6, (.own 6 [] []))], [(4, some ⟨(eA64u8 a1), false⟩), (5, some ⟨(eA64u8 a2), false⟩), (6, some ⟨(eA64u8 ((vrep 64 (0 : Int)))), false⟩)]⟩) (by kernel_rfl) ?_
  refine a_seq ?_
  refine a_draw [⟨[4], [], [], []⟩, ⟨[], [], [], [0]⟩, ⟨[5], [], [], []⟩, ⟨[], [], [], [0, 1, 2]⟩, ⟨[], [], [], []⟩, ⟨[2000], [2000], [2000], []⟩, ⟨[], [], [], [0, 1, 2, 3, 5]⟩, ⟨[], [], [], [0, 1, 2, 3, 5, 6]⟩, ⟨[2000], [2000], [], [0, 1, 2, 3, 4, 5, 6, 7]⟩] (by kernel_rfl) ?_
  refine d_cons ?_
  have hl8 : LdOk [] (eA64u8 a1) [] 64 true (eA64u8 a1) := (.nil rfl rfl rfl)
  refine a_val (v := (eA64u8 a1)) (u := []) (ld_own (i := ⟨.arr 64 5, 64, 64, (eA64u8 (vrep 64 (0 : Int)))⟩) rfl rfl rfl hl8) hl8.c rfl ?_
  refine d_next (by kernel_rfl) ?_
  refine d_cons ?_
  obtain ⟨r9, hr10, h⟩ := bind_some h
  refine a_call (args := [(eA64u8 a1)]) (u := []) (r := (.int .i64 r9)) rfl rfl (spec_l01Deg_ok a1 r9 hr10) rfl ?_
  refine d_next (by kernel_rfl) ?_
  refine d_cons ?_
  have hl11 : LdOk [] (eA64u8 a2) [] 64 true (eA64u8 a2) := (.nil rfl rfl rfl)
  refine a_val (v := (eA64u8 a2)) (u := []) (ld_own (i := ⟨.arr 64 5, 64, 64, (eA64u8 (vrep 64 (0 : Int)))⟩) rfl rfl rfl hl11) hl11.c rfl ?_
  refine d_next (by kernel_rfl) ?_
  refine d_cons ?_
  obtain ⟨r12, hr13, h⟩ := bind_some h
  refine a_call (args := [(eA64u8 a2)]) (u := []) (r := (.int .i64 r12)) rfl rfl (spec_l01Deg_ok a2 r12 hr13) rfl ?_
  refine d_next (by kernel_rfl) ?_
  refine d_cons ?_
  refine a_val (v := (eA64u8 ((vrep 64 (0 : Int))))) (u := []) rfl ⟨⟨_, rfl, rfl⟩, all_nil⟩ rfl ?_
  refine d_next (by kernel_rfl) ?_
  refine d_cons ?_
  refine a_val (v := (.own 2000 [] [])) (u := [(2000, some ⟨(eA64u8 ((vrep 64 (0 : Int)))), false⟩)]) rfl trivial rfl ?_
  refine d_next (by kernel_rfl) ?_
  refine d_cons ?_
  refine a_val (v := (.int .i64 r9)) (u := []) rfl trivial rfl ?_
  refine d_next (by kernel_rfl) ?_
  refine d_cons ?_
  refine a_val (v := (.int .i64 r12)) (u := []) rfl trivial rfl ?_
  refine d_next (by kernel_rfl) ?_
  refine d_cons ?_
  have hs14 : StOk [] (eA64u8 ((vrep 64 (0 : Int)))) [] 64 (eA64u8 ((vrep 64 (0 : Int)))) (eA64u8 ((vrep 64 (0 : Int)))) := (.nil rfl rfl rfl rfl)
  refine a_val (v := .top) (u := [(2000, some ⟨(eA64u8 ((vrep 64 (0 : Int)))), false⟩)]) (st_own (i := ⟨.arr 64 5, 64, 64, (eA64u8 (vrep 64 (0 : Int)))⟩) rfl rfl (fun _ => rfl) rfl hs14) (hs14.c rfl) rfl ?_
  refine d_next (by kernel_rfl) ?_
  refine d_nil ?_
  refine a_next (σ' := ⟨[(0, (.int .i64 a0)), (4, (.own 4 [] [])), (5, (.own 5 [] [])), (6, (.own 6 [] [])), (8, (.int .i64 r9)), (9, (.int .i64 r12)), (10, (.own 10 [] []))], [(4, some ⟨(eA64u8 a1), false⟩), (5, some ⟨(eA64u8 a2), false⟩), (6, some ⟨(eA64u8 ((vrep 64 (0 : Int)))), false⟩), (10, some ⟨(eA64u8 ((vrep 64 (0 : Int)))), false⟩)]⟩) (by kernel_rfl) ?_
  refine a_seq ?_
  obtain ⟨y17, hy18, hk19⟩ := bind_some h
  clear h
  refine a_join (emb := fun (s : Bool) => ⟨[(0, (.int .i64 a0)), (4, (.own 4 [] [])), (5, (.own 5 [] [])), (6, (.own 6 [] [])), (8, (.int .i64 r9)), (9, (.int .i64 r12)), (10, (.own 10 [] [])), (23, (.bool s))], [(4, some ⟨(eA64u8 a1), false⟩), (5, some ⟨(eA64u8 a2), false⟩), (6, some ⟨(eA64u8 ((vrep 64 (0 : Int)))), false⟩), (10, some ⟨(eA64u8 ((vrep 64 (0 : Int)))), false⟩)]⟩) (pre := fun s => s = y17) ?_ ?_
  · rintro x16 rfl
    have h := hk19
    refine a_st (σ' := ⟨[(0, (.int .i64 a0)), (4, (.own 4 [] [])), (5, (.own 5 [] [])), (6, (.own 6 [] [])), (8, (.int .i64 r9)), (9, (.int .i64 r12)), (10, (.own 10 [] [])), (23, (.bool x16))], [(4, some ⟨(eA64u8 a1), false⟩), (5, some ⟨(eA64u8 a2), false⟩), (6, some ⟨(eA64u8 ((vrep 64 (0 : Int)))), false⟩), (10, some ⟨(eA64u8 ((vrep 64 (0 : Int)))), false⟩)]⟩) (by kernel_rfl) ?_
    cases hb21 : x16
    · have h := ite_f hb21 h
      refine a_cond_f rfl ?_
      refine a_skip ?_
      refine a_next (σ' := ⟨[(0, (.int .i64 a0)), (4, (.own 4 [] [])), (5, (.own 5 [] [])), (6, (.own 6 [] [])), (8, (.int .i64 r9)), (9, (.int .i64 r12)), (10, (.own 10 [] []))], [(4, some ⟨(eA64u8 a1), false⟩), (5, some ⟨(eA64u8 a2), false⟩), (6, some ⟨(eA64u8 ((vrep 64 (0 : Int)))), false⟩), (10, some ⟨(eA64u8 ((vrep 64 (0 : Int)))), false⟩)]⟩) (by kernel_rfl) ?_
      refine a_seq ?_
      refine a_seq ?_
      refine a_region ?_
      refine a_val (v := (.int .i64 r9)) (u := []) rfl trivial rfl ?_
      refine a_val (v := (.int .i64 r12)) (u := []) rfl trivial rfl ?_
      refine a_val (v := (.int .i64 (IntKind.i64.wrap (r9 + r12)))) (u := []) rfl trivial rfl ?_
      refine a_val (v := (.bool ((decide ((IntKind.i64.wrap (r9 + r12)) > 63))))) (u := []) rfl trivial rfl ?_
      refine a_nil ?_
      refine a_next (σ' := ⟨[(0, (.int .i64 a0)), (4, (.own 4 [] [])), (5, (.own 5 [] [])), (6, (.own 6 [] [])), (8, (.int .i64 r9)), (9, (.int .i64 r12)), (10, (.own 10 [] [])), (28, (.bool ((decide ((IntKind.i64.wrap (r9 + r12)) > 63)))))], [(4, some ⟨(eA64u8 a1), false⟩), (5, some ⟨(eA64u8 a2), false⟩), (6, some ⟨(eA64u8 ((vrep 64 (0 : Int)))), false⟩), (10, some ⟨(eA64u8 ((vrep 64 (0 : Int)))), false⟩)]⟩) (by kernel_rfl) ?_
      cases hb22 : (decide ((IntKind.i64.wrap (r9 + r12)) > 63))
      · have h := ite_f hb22 h
        refine a_cond_f rfl ?_
        refine a_skip ?_
        refine a_next (σ' := ⟨[(0, (.int .i64 a0)), (4, (.own 4 [] [])), (5, (.own 5 [] [])), (6, (.own 6 [] [])), (8, (.int .i64 r9)), (9, (.int .i64 r12)), (10, (.own 10 [] []))], [(4, some ⟨(eA64u8 a1), false⟩), (5, some ⟨(eA64u8 a2), false⟩), (6, some ⟨(eA64u8 ((vrep 64 (0 : Int)))), false⟩), (10, some ⟨(eA64u8 ((vrep 64 (0 : Int)))), false⟩)]⟩) (by kernel_rfl) ?_
        obtain ⟨y815, hy816, hk817⟩ := bind_some h
        clear h
        refine a_join (emb := fun (s : (Vec Int 64)) => ⟨[(6, (.own 6 [] [])), (10, (.own 10 [] []))], [(6, some ⟨(eA64u8 ((vrep 64 (0 : Int)))), false⟩), (10, some ⟨(eA64u8 s), false⟩)]⟩) (pre := fun s => s = y815) ?_ ?_
        · rintro x814 rfl
          have h := hk817
          refine a_st (σ' := ⟨[(6, (.own 6 [] [])), (10, (.own 10 [] []))], [(6, some ⟨(eA64u8 ((vrep 64 (0 : Int)))), false⟩), (10, some ⟨(eA64u8 x814), false⟩)]⟩) (by kernel_rfl) ?_
          refine a_seq ?_
          refine a_region ?_
          have hl1613 : LdOk [] (eA64u8 x814) [] 64 true (eA64u8 x814) := (.nil rfl rfl rfl)
          refine a_val (v := (eA64u8 x814)) (u := []) (ld_own (i := ⟨.arr 64 5, 64, 64, (eA64u8 (vrep 64 (0 : Int)))⟩) rfl rfl rfl hl1613) hl1613.c rfl ?_
          have hs1614 : StOk [] (eA64u8 ((vrep 64 (0 : Int)))) [] 64 (eA64u8 x814) (eA64u8 x814) := (.nil rfl rfl rfl rfl)
          refine a_val (v := .top) (u := [(6, some ⟨(eA64u8 x814), false⟩)]) (st_own (i := ⟨.arr 64 5, 64, 64, (eA64u8 (vrep 64 (0 : Int)))⟩) rfl rfl (fun _ => rfl) rfl hs1614) (hs1614.c rfl) rfl ?_
          refine a_val (v := (.bool true)) (u := []) rfl trivial rfl ?_
          refine a_nil ?_
          refine a_next rfl ?_
          refine a_ret ?_
          have hl1615 : LdOk [] (eA64u8 x814) [] 64 true (eA64u8 x814) := (.nil rfl rfl rfl)
          refine ⟨.inr rfl, ?_⟩
          rw [Try.results52]
          cases h
          exact ⟨_, _, _, _, _, ld_own (i := ⟨.arr 64 5, 64, 64, (eA64u8 (vrep 64 (0 : Int)))⟩) rfl rfl rfl hl1615, hl1615.c, .inl ⟨rfl, .inl rfl⟩, rfl, ⟨_, _, _, _, _, rfl, trivial, .inl ⟨rfl, .inl rfl⟩, rfl, rfl⟩⟩
        · have h := hy816
          refine a_seq ?_
          refine a_region ?_
          refine a_val (v := (.int .i64 0)) (u := []) rfl trivial rfl ?_
          refine a_nil ?_
          refine a_next (σ' := ⟨[(0, (.int .i64 a0)), (4, (.own 4 [] [])), (5, (.own 5 [] [])), (6, (.own 6 [] [])), (8, (.int .i64 r9)), (9, (.int .i64 r12)), (10, (.own 10 [] [])), (11, (.int .i64 0))], [(4, some ⟨(eA64u8 a1), false⟩), (5, some ⟨(eA64u8 a2), false⟩), (6, some ⟨(eA64u8 ((vrep 64 (0 : Int)))), false⟩), (10, some ⟨(eA64u8 ((vrep 64 (0 : Int)))), false⟩)]⟩) (by kernel_rfl) ?_
          refine a_block ?_
          refine a_loop (emb := fun (s : (Int × (Vec Int 64))) => ⟨[(0, (.int .i64 a0)), (4, (.own 4 [] [])), (5, (.own 5 [] [])), (6, (.own 6 [] [])), (8, (.int .i64 r9)), (9, (.int .i64 r12)), (10, (.own 10 [] [])), (11, (.int .i64 s.1))], [(4, some ⟨(eA64u8 a1), false⟩), (5, some ⟨(eA64u8 a2), false⟩), (6, some ⟨(eA64u8 ((vrep 64 (0 : Int)))), false⟩), (10, some ⟨(eA64u8 s.2), false⟩)]⟩) (body := (fun s : (Int × (Vec Int 64)) => spec_l01Times_l1 r9 r12 a1 a2 a0 s.1 s.2)) (G := fun q => some q = some y815) h rfl ?_ (by kernel_rfl)
          rintro X1346 ⟨x1081, x1082⟩ x1347 h hX1348
          have h : spec_l01Times_l1 r9 r12 a1 a2 a0 x1081 x1082 = some x1347 := h
          refine a_st (σ' := ⟨[(0, (.int .i64 a0)), (4, (.own 4 [] [])), (5, (.own 5 [] [])), (6, (.own 6 [] [])), (8, (.int .i64 r9)), (9, (.int .i64 r12)), (10, (.own 10 [] [])), (11, (.int .i64 x1081))], [(4, some ⟨(eA64u8 a1), false⟩), (5, some ⟨(eA64u8 a2), false⟩), (6, some ⟨(eA64u8 ((vrep 64 (0 : Int)))), false⟩), (10, some ⟨(eA64u8 x1082), false⟩)]⟩) (by kernel_rfl) ?_
          refine a_seq ?_
          refine a_seq ?_
          refine a_region ?_
          refine a_val (v := (.int .i64 x1081)) (u := []) rfl trivial rfl ?_
          refine a_val (v := (.int .i64 r9)) (u := []) rfl trivial rfl ?_
          refine a_val (v := (.bool ((decide (x1081 ≤ r9))))) (u := []) rfl trivial rfl ?_
          refine a_nil ?_
          refine a_next (σ' := ⟨[(0, (.int .i64 a0)), (4, (.own 4 [] [])), (5, (.own 5 [] [])), (6, (.own 6 [] [])), (8, (.int .i64 r9)), (9, (.int .i64 r12)), (10, (.own 10 [] [])), (11, (.int .i64 x1081)), (32, (.bool ((decide (x1081 ≤ r9)))))], [(4, some ⟨(eA64u8 a1), false⟩), (5, some ⟨(eA64u8 a2), false⟩), (6, some ⟨(eA64u8 ((vrep 64 (0 : Int)))), false⟩), (10, some ⟨(eA64u8 x1082), false⟩)]⟩) (by kernel_rfl) ?_
          cases hb1349 : (decide (x1081 ≤ r9))
          · have h := ite_f hb1349 h
            refine a_cond_f rfl ?_
            refine a_exit ?_
            refine t_exit ?_
            cases h
            have h := hX1348
            refine t_exit ?_
            refine b_exit ?_
            exact j_leaf x1082 (Option.some.inj h) (by kernel_rfl)
          · have h := ite_t hb1349 h
            refine a_cond_t rfl ?_
            refine a_skip ?_
            refine a_next (σ' := ⟨[(0, (.int .i64 a0)), (4, (.own 4 [] [])), (5, (.own 5 [] [])), (6, (.own 6 [] [])), (8, (.int .i64 r9)), (9, (.int .i64 r12)), (10, (.own 10 [] [])), (11, (.int .i64 x1081))], [(4, some ⟨(eA64u8 a1), false⟩), (5, some ⟨(eA64u8 a2), false⟩), (6, some ⟨(eA64u8 ((vrep 64 (0 : Int)))), false⟩), (10, some ⟨(eA64u8 x1082), false⟩)]⟩) (by kernel_rfl) ?_
            obtain ⟨y1480, hy1481, hk1482⟩ := bind_some h
            clear h
            refine a_join (emb := fun (s : (Vec Int 64)) => ⟨[(0, (.int .i64 a0)), (4, (.own 4 [] [])), (5, (.own 5 [] [])), (6, (.own 6 [] [])), (8, (.int .i64 r9)), (9, (.int .i64 r12)), (10, (.own 10 [] [])), (11, (.int .i64 x1081))], [(4, some ⟨(eA64u8 a1), false⟩), (5, some ⟨(eA64u8 a2), false⟩), (6, some ⟨(eA64u8 ((vrep 64 (0 : Int)))), false⟩), (10, some ⟨(eA64u8 s), false⟩)]⟩) (pre := fun s => s = y1480) ?_ ?_
            · rintro x1479 rfl
              have h := hk1482
              refine a_st (σ' := ⟨[(0, (.int .i64 a0)), (4, (.own 4 [] [])), (5, (.own 5 [] [])), (6, (.own 6 [] [])), (8, (.int .i64 r9)), (9, (.int .i64 r12)), (10, (.own 10 [] [])), (11, (.int .i64 x1081))], [(4, some ⟨(eA64u8 a1), false⟩), (5, some ⟨(eA64u8 a2), false⟩), (6, some ⟨(eA64u8 ((vrep 64 (0 : Int)))), false⟩), (10, some ⟨(eA64u8 x1479), false⟩)]⟩) (by kernel_rfl) ?_
              refine a_region ?_
              refine a_val (v := (.int .i64 x1081)) (u := []) rfl trivial rfl ?_
              refine a_val (v := (.int .i64 (IntKind.i64.wrap (x1081 + 1)))) (u := []) rfl trivial rfl ?_
              refine a_val (v := (.int .i64 (IntKind.i64.wrap (x1081 + 1)))) (u := []) rfl trivial rfl ?_
              refine a_nil ?_
              cases h
              exact a_again (by kernel_rfl) hX1348
            · have h := hy1481
              refine a_block ?_
              refine a_seq ?_
              refine a_region ?_
              refine a_val (v := (.int .i64 0)) (u := []) rfl trivial rfl ?_
              refine a_nil ?_
              refine a_next (σ' := ⟨[(0, (.int .i64 a0)), (4, (.own 4 [] [])), (5, (.own 5 [] [])), (6, (.own 6 [] [])), (8, (.int .i64 r9)), (9, (.int .i64 r12)), (10, (.own 10 [] [])), (11, (.int .i64 x1081)), (12, (.int .i64 0))], [(4, some ⟨(eA64u8 a1), false⟩), (5, some ⟨(eA64u8 a2), false⟩), (6, some ⟨(eA64u8 ((vrep 64 (0 : Int)))), false⟩), (10, some ⟨(eA64u8 x1082), false⟩)]⟩) (by kernel_rfl) ?_
              refine a_block ?_
              refine a_loop (emb := fun (s : (Int × (Vec Int 64))) => ⟨[(0, (.int .i64 a0)), (4, (.own 4 [] [])), (5, (.own 5 [] [])), (6, (.own 6 [] [])), (8, (.int .i64 r9)), (9, (.int .i64 r12)), (10, (.own 10 [] [])), (11, (.int .i64 x1081)), (12, (.int .i64 s.1))], [(4, some ⟨(eA64u8 a1), false⟩), (5, some ⟨(eA64u8 a2), false⟩), (6, some ⟨(eA64u8 ((vrep 64 (0 : Int)))), false⟩), (10, some ⟨(eA64u8 s.2), false⟩)]⟩) (body := (fun s : (Int × (Vec Int 64)) => spec_l01Times_l2 r12 x1081 a1 a2 a0 s.1 s.2)) (G := fun q => some q = some y1480) h rfl ?_ (by kernel_rfl)
              rintro X1567 ⟨x1524, x1525⟩ x1568 h hX1569
              have h : spec_l01Times_l2 r12 x1081 a1 a2 a0 x1524 x1525 = some x1568 := h
              refine a_st (σ' := ⟨[(0, (.int .i64 a0)), (4, (.own 4 [] [])), (5, (.own 5 [] [])), (6, (.own 6 [] [])), (8, (.int .i64 r9)), (9, (.int .i64 r12)), (10, (.own 10 [] [])), (11, (.int .i64 x1081)), (12, (.int .i64 x1524))], [(4, some ⟨(eA64u8 a1), false⟩), (5, some ⟨(eA64u8 a2), false⟩), (6, some ⟨(eA64u8 ((vrep 64 (0 : Int)))), false⟩), (10, some ⟨(eA64u8 x1525), false⟩)]⟩) (by kernel_rfl) ?_
              refine a_seq ?_
              obtain ⟨y1574, hy1575, hk1576⟩ := bind_some h
              clear h
              refine a_join (emb := fun (s : Bool) => ⟨[(0, (.int .i64 a0)), (4, (.own 4 [] [])), (5, (.own 5 [] [])), (6, (.own 6 [] [])), (8, (.int .i64 r9)), (9, (.int .i64 r12)), (10, (.own 10 [] [])), (11, (.int .i64 x1081)), (12, (.int .i64 x1524)), (43, (.bool s))], [(4, some ⟨(eA64u8 a1), false⟩), (5, some ⟨(eA64u8 a2), false⟩), (6, some ⟨(eA64u8 ((vrep 64 (0 : Int)))), false⟩), (10, some ⟨(eA64u8 x1525), false⟩)]⟩) (pre := fun s => s = y1574) ?_ ?_
              · rintro x1573 rfl
                have h := hk1576
                refine a_st (σ' := ⟨[(0, (.int .i64 a0)), (4, (.own 4 [] [])), (5, (.own 5 [] [])), (6, (.own 6 [] [])), (8, (.int .i64 r9)), (9, (.int .i64 r12)), (10, (.own 10 [] [])), (11, (.int .i64 x1081)), (12, (.int .i64 x1524)), (43, (.bool x1573))], [(4, some ⟨(eA64u8 a1), false⟩), (5, some ⟨(eA64u8 a2), false⟩), (6, some ⟨(eA64u8 ((vrep 64 (0 : Int)))), false⟩), (10, some ⟨(eA64u8 x1525), false⟩)]⟩) (by kernel_rfl) ?_
                cases hb1580 : x1573
                · have h := ite_f hb1580 h
                  refine a_cond_f rfl ?_
                  refine a_exit ?_
                  refine t_exit ?_
                  cases h
                  have h := hX1569
                  refine t_exit ?_
                  refine b_exit ?_
                  refine b_norm ?_
                  exact j_leaf x1525 (Option.some.inj h) (by kernel_rfl)
                · have h := ite_t hb1580 h
                  refine a_cond_t rfl ?_
                  refine a_skip ?_
                  refine a_next (σ' := ⟨[(0, (.int .i64 a0)), (4, (.own 4 [] [])), (5, (.own 5 [] [])), (6, (.own 6 [] [])), (8, (.int .i64 r9)), (9, (.int .i64 r12)), (10, (.own 10 [] [])), (11, (.int .i64 x1081)), (12, (.int .i64 x1524))], [(4, some ⟨(eA64u8 a1), false⟩), (5, some ⟨(eA64u8 a2), false⟩), (6, some ⟨(eA64u8 ((vrep 64 (0 : Int)))), false⟩), (10, some ⟨(eA64u8 x1525), false⟩)]⟩) (by kernel_rfl) ?_
                  refine a_seq ?_
                  refine a_block ?_
                  refine a_draw [⟨[], [], [], []⟩, ⟨[], [], [], []⟩, ⟨[], [], [], [0, 1]⟩, ⟨[], [], [], []⟩, ⟨[], [], [], []⟩, ⟨[], [], [], [3, 4]⟩, ⟨[10], [], [10], [3, 4, 5]⟩, ⟨[10], [], [], [3, 4, 5, 6]⟩, ⟨[], [], [], [3, 4, 5, 6, 7]⟩, ⟨[], [], [], []⟩, ⟨[4], [], [4], [9]⟩, ⟨[4], [], [], [9, 10]⟩, ⟨[], [], [], [9, 10, 11]⟩, ⟨[], [], [], []⟩, ⟨[5], [], [5], [13]⟩, ⟨[5], [], [], [13, 14]⟩, ⟨[], [], [], [13, 14, 15]⟩, ⟨[], [], [], [9, 10, 11, 12, 13, 14, 15, 16]⟩, ⟨[], [], [], [3, 4, 5, 6, 7, 8, 9, 10, 11, 12, 13, 14, 15, 16, 17]⟩, ⟨[], [], [], []⟩, ⟨[], [], [], [3, 4, 5, 6, 7, 8, 9, 10, 11, 12, 13, 14, 15, 16, 17, 18, 19]⟩, ⟨[], [], [], [3, 4, 5, 6, 7, 8, 9, 10, 11, 12, 13, 14, 15, 16, 17, 18, 19, 20]⟩, ⟨[10], [], [10], [0, 1, 2, 3, 4, 5, 6, 7, 8, 9, 10, 11, 12, 13, 14, 15, 16, 17, 18, 19, 20, 21]⟩, ⟨[10], [10], [], [0, 1, 2, 3, 4, 5, 6, 7, 8, 9, 10, 11, 12, 13, 14, 15, 16, 17, 18, 19, 20, 21, 22]⟩] (by kernel_rfl) ?_
                  refine d_cons ?_
                  refine a_val (v := (.int .i64 x1081)) (u := []) rfl trivial rfl ?_
                  refine d_next (by kernel_rfl) ?_
                  refine d_cons ?_
                  refine a_val (v := (.int .i64 x1524)) (u := []) rfl trivial rfl ?_
                  refine d_next (by kernel_rfl) ?_
                  refine d_cons ?_
                  refine a_val (v := (.int .i64 (IntKind.i64.wrap (x1081 + x1524)))) (u := []) rfl trivial rfl ?_
                  refine d_next (by kernel_rfl) ?_
                  refine d_cons ?_
                  refine a_val (v := (.int .i64 x1081)) (u := []) rfl trivial rfl ?_
                  refine d_next (by kernel_rfl) ?_
                  refine d_cons ?_
                  refine a_val (v := (.int .i64 x1524)) (u := []) rfl trivial rfl ?_
                  refine d_next (by kernel_rfl) ?_
                  refine d_cons ?_
                  refine a_val (v := (.int .i64 (IntKind.i64.wrap (x1081 + x1524)))) (u := []) rfl trivial rfl ?_
                  refine d_next (by kernel_rfl) ?_
                  refine d_cons ?_
                  obtain ⟨hc1596, h⟩ := ifp_some h
                  refine a_val (v := (.own 10 [(IntKind.i64.wrap (x1081 + x1524)).toNat] [(IntKind.i64.wrap (x1081 + x1524)).toNat * 1])) (u := []) rfl hc1596 rfl ?_
                  refine d_next (by kernel_rfl) ?_
                  refine d_cons ?_
                  have hl1597 : LdOk [(IntKind.i64.wrap (x1081 + x1524)).toNat] (eA64u8 x1525) [(IntKind.i64.wrap (x1081 + x1524)).toNat * 1] 1 false (.int .u8 ((rd x1525.1 (IntKind.i64.wrap (x1081 + x1524)).toNat))) := (.arr (vlt x1525 hc1596) rfl (.nil rfl rfl rfl))
                  refine a_val (v := (.int .u8 ((rd x1525.1 (IntKind.i64.wrap (x1081 + x1524)).toNat)))) (u := []) (ld_own (i := ⟨.int .u8, 1, 1, (.int .u8 0)⟩) rfl rfl rfl hl1597) hl1597.c rfl ?_
                  refine d_next (by kernel_rfl) ?_
                  refine d_cons ?_
                  obtain ⟨x1598, hx1599, h⟩ := letp_some h
                  refine a_val' (v := (.int .i64 (IntKind.i64.wrap ((rd x1525.1 (IntKind.i64.wrap (x1081 + x1524)).toNat))))) (v' := (.int .i64 x1598)) (u := []) (u' := []) rfl (congrArg (fun z => ((.int .i64 z) : AV)) hx1599) rfl trivial rfl ?_
                  refine d_next (by kernel_rfl) ?_
                  refine d_cons ?_
                  refine a_val (v := (.int .i64 x1081)) (u := []) rfl trivial rfl ?_
                  refine d_next (by kernel_rfl) ?_
                  refine d_cons ?_
                  obtain ⟨hc1600, h⟩ := ifp_some h
                  refine a_val (v := (.own 4 [x1081.toNat] [x1081.toNat * 1])) (u := []) rfl hc1600 rfl ?_
                  refine d_next (by kernel_rfl) ?_
                  refine d_cons ?_
                  have hl1601 : LdOk [x1081.toNat] (eA64u8 a1) [x1081.toNat * 1] 1 false (.int .u8 (rd a1.1 x1081.toNat)) := (.arr (vlt a1 hc1600) rfl (.nil rfl rfl rfl))
                  refine a_val (v := (.int .u8 (rd a1.1 x1081.toNat))) (u := []) (ld_own (i := ⟨.int .u8, 1, 1, (.int .u8 0)⟩) rfl rfl rfl hl1601) hl1601.c rfl ?_
                  refine d_next (by kernel_rfl) ?_
                  refine d_cons ?_
                  refine a_val (v := (.int .i64 (IntKind.i64.wrap (rd a1.1 x1081.toNat)))) (u := []) rfl trivial rfl ?_
                  refine d_next (by kernel_rfl) ?_
                  refine d_cons ?_
                  refine a_val (v := (.int .i64 x1524)) (u := []) rfl trivial rfl ?_
                  refine d_next (by kernel_rfl) ?_
                  refine d_cons ?_
                  obtain ⟨hc1602, h⟩ := ifp_some h
                  refine a_val (v := (.own 5 [x1524.toNat] [x1524.toNat * 1])) (u := []) rfl hc1602 rfl ?_
                  refine d_next (by kernel_rfl) ?_
                  refine d_cons ?_
                  have hl1603 : LdOk [x1524.toNat] (eA64u8 a2) [x1524.toNat * 1] 1 false (.int .u8 (rd a2.1 x1524.toNat)) := (.arr (vlt a2 hc1602) rfl (.nil rfl rfl rfl))
                  refine a_val (v := (.int .u8 (rd a2.1 x1524.toNat))) (u := []) (ld_own (i := ⟨.int .u8, 1, 1, (.int .u8 0)⟩) rfl rfl rfl hl1603) hl1603.c rfl ?_
                  refine d_next (by kernel_rfl) ?_
                  refine d_cons ?_
                  refine a_val (v := (.int .i64 (IntKind.i64.wrap (rd a2.1 x1524.toNat)))) (u := []) rfl trivial rfl ?_
                  refine d_next (by kernel_rfl) ?_
                  refine d_cons ?_
                  obtain ⟨x1604, hx1605, h⟩ := letp_some h
                  refine a_val' (v := (.int .i64 (IntKind.i64.wrap ((IntKind.i64.wrap (rd a1.1 x1081.toNat)) * (IntKind.i64.wrap (rd a2.1 x1524.toNat)))))) (v' := (.int .i64 x1604)) (u := []) (u' := []) rfl (congrArg (fun z => ((.int .i64 z) : AV)) hx1605) rfl trivial rfl ?_
                  refine d_next (by kernel_rfl) ?_
                  refine d_cons ?_
                  refine a_val (v := (.int .i64 (IntKind.i64.wrap (x1598 + x1604)))) (u := []) rfl trivial rfl ?_
                  refine d_next (by kernel_rfl) ?_
                  refine d_cons ?_
                  refine a_val (v := (.int .i64 a0)) (u := []) rfl trivial rfl ?_
                  refine d_next (by kernel_rfl) ?_
                  refine d_cons ?_
                  obtain ⟨hc1606, h⟩ := ifp_some h
                  refine a_val (v := (.int .i64 (Int.tmod (IntKind.i64.wrap (x1598 + x1604)) a0))) (u := []) rfl hc1606 rfl ?_
                  refine d_next (by kernel_rfl) ?_
                  refine d_cons ?_
                  obtain ⟨x1607, hx1608, h⟩ := letp_some h
                  refine a_val' (v := (.int .u8 (IntKind.u8.wrap (Int.tmod (IntKind.i64.wrap (x1598 + x1604)) a0)))) (v' := (.int .u8 x1607)) (u := []) (u' := []) rfl (congrArg (fun z => ((.int .u8 z) : AV)) hx1608) rfl trivial rfl ?_
                  refine d_next (by kernel_rfl) ?_
                  refine d_cons ?_
                  obtain ⟨hc1609, h⟩ := ifp_some h
                  refine a_val (v := (.own 10 [(IntKind.i64.wrap (x1081 + x1524)).toNat] [(IntKind.i64.wrap (x1081 + x1524)).toNat * 1])) (u := []) rfl hc1609 rfl ?_
                  refine d_next (by kernel_rfl) ?_
                  refine d_cons ?_
                  have hs1610 : StOk [(IntKind.i64.wrap (x1081 + x1524)).toNat] (eA64u8 x1525) [(IntKind.i64.wrap (x1081 + x1524)).toNat * 1] 1 (.int .u8 x1607) (eA64u8 ((vset x1525 (IntKind.i64.wrap (x1081 + x1524)).toNat x1607))) := (.arr (y := x1607) (vlt x1525 hc1609) rfl (.nil rfl rfl rfl rfl))
                  refine a_val (v := .top) (u := [(10, some ⟨(eA64u8 ((vset x1525 (IntKind.i64.wrap (x1081 + x1524)).toNat x1607))), false⟩)]) (st_own (i := ⟨.int .u8, 1, 1, (.int .u8 0)⟩) rfl rfl (fun _ => rfl) rfl hs1610) (hs1610.c rfl) rfl ?_
                  refine d_next (by kernel_rfl) ?_
                  refine d_nil ?_
                  refine b_norm ?_
                  refine a_next (σ' := ⟨[(0, (.int .i64 a0)), (4, (.own 4 [] [])), (5, (.own 5 [] [])), (6, (.own 6 [] [])), (8, (.int .i64 r9)), (9, (.int .i64 r12)), (10, (.own 10 [] [])), (11, (.int .i64 x1081)), (12, (.int .i64 x1524))], [(4, some ⟨(eA64u8 a1), false⟩), (5, some ⟨(eA64u8 a2), false⟩), (6, some ⟨(eA64u8 ((vrep 64 (0 : Int)))), false⟩), (10, some ⟨(eA64u8 ((vset x1525 (IntKind.i64.wrap (x1081 + x1524)).toNat x1607))), false⟩)]⟩) (by kernel_rfl) ?_
                  refine a_region ?_
                  refine a_val (v := (.int .i64 x1524)) (u := []) rfl trivial rfl ?_
                  refine a_val (v := (.int .i64 (IntKind.i64.wrap (x1524 + 1)))) (u := []) rfl trivial rfl ?_
                  refine a_val (v := (.int .i64 (IntKind.i64.wrap (x1524 + 1)))) (u := []) rfl trivial rfl ?_
                  refine a_nil ?_
                  cases h
                  exact a_again (by kernel_rfl) hX1569
              · have h := hy1575
                refine a_region ?_
                refine a_val (v := (.int .i64 x1524)) (u := []) rfl trivial rfl ?_
                refine a_val (v := (.int .i64 r12)) (u := []) rfl trivial rfl ?_
                refine a_val (v := (.bool ((decide (x1524 ≤ r12))))) (u := []) rfl trivial rfl ?_
                refine a_val (v := (.bool ((decide (x1524 ≤ r12))))) (u := []) rfl trivial rfl ?_
                cases hb1577 : (decide (x1524 ≤ r12))
                · have h := ite_f hb1577 h
                  refine a_gskip rfl ?_
                  refine a_gskip rfl ?_
                  refine a_gskip rfl ?_
                  refine a_gskip rfl ?_
                  refine a_val (v := (.bool false)) (u := []) rfl trivial rfl ?_
                  refine a_nil ?_
                  exact j_leaf false (Option.some.inj h) (by kernel_rfl)
                · have h := ite_t hb1577 h
                  refine a_gval rfl (v := (.int .i64 x1081)) (u := []) rfl trivial rfl ?_
                  obtain ⟨hc1578, h⟩ := ifp_some h
                  refine a_gval rfl (v := (.own 4 [x1081.toNat] [x1081.toNat * 1])) (u := []) rfl hc1578 rfl ?_
                  have hl1579 : LdOk [x1081.toNat] (eA64u8 a1) [x1081.toNat * 1] 1 false (.int .u8 (rd a1.1 x1081.toNat)) := (.arr (vlt a1 hc1578) rfl (.nil rfl rfl rfl))
                  refine a_gval rfl (v := (.int .u8 (rd a1.1 x1081.toNat))) (u := []) (ld_own (i := ⟨.int .u8, 1, 1, (.int .u8 0)⟩) rfl rfl rfl hl1579) hl1579.c rfl ?_
                  refine a_gval rfl (v := (.bool (((rd a1.1 x1081.toNat) != 0)))) (u := []) rfl trivial rfl ?_
                  refine a_val (v := (.bool (((rd a1.1 x1081.toNat) != 0)))) (u := []) rfl trivial rfl ?_
                  refine a_nil ?_
                  exact j_leaf (((rd a1.1 x1081.toNat) != 0)) (Option.some.inj h) (by kernel_rfl)
      · have h := ite_t hb22 h
        refine a_cond_t rfl ?_
        refine a_seq ?_
        refine a_region ?_
        have hl1616 : LdOk [] (eA64u8 ((vrep 64 (0 : Int)))) [] 64 true (eA64u8 ((vrep 64 (0 : Int)))) := (.nil rfl rfl rfl)
        refine a_val (v := (eA64u8 ((vrep 64 (0 : Int))))) (u := []) (ld_own (i := ⟨.arr 64 5, 64, 64, (eA64u8 (vrep 64 (0 : Int)))⟩) rfl rfl rfl hl1616) hl1616.c rfl ?_
        have hs1617 : StOk [] (eA64u8 ((vrep 64 (0 : Int)))) [] 64 (eA64u8 ((vrep 64 (0 : Int)))) (eA64u8 ((vrep 64 (0 : Int)))) := (.nil rfl rfl rfl rfl)
        refine a_val (v := .top) (u := [(6, some ⟨(eA64u8 ((vrep 64 (0 : Int)))), false⟩)]) (st_own (i := ⟨.arr 64 5, 64, 64, (eA64u8 (vrep 64 (0 : Int)))⟩) rfl rfl (fun _ => rfl) rfl hs1617) (hs1617.c rfl) rfl ?_
        refine a_val (v := (.bool false)) (u := []) rfl trivial rfl ?_
        refine a_nil ?_
        refine a_next rfl ?_
        refine a_ret ?_
        refine t_ret ?_
        have hl1618 : LdOk [] (eA64u8 ((vrep 64 (0 : Int)))) [] 64 true (eA64u8 ((vrep 64 (0 : Int)))) := (.nil rfl rfl rfl)
        refine ⟨.inr rfl, ?_⟩
        rw [Try.results52]
        cases h
        exact ⟨_, _, _, _, _, ld_own (i := ⟨.arr 64 5, 64, 64, (eA64u8 (vrep 64 (0 : Int)))⟩) rfl rfl rfl hl1618, hl1618.c, .inl ⟨rfl, .inl rfl⟩, rfl, ⟨_, _, _, _, _, rfl, trivial, .inl ⟨rfl, .inl rfl⟩, rfl, rfl⟩⟩
    · have h := ite_t hb21 h
      refine a_cond_t rfl ?_
      refine a_seq ?_
      refine a_region ?_
      have hl1619 : LdOk [] (eA64u8 ((vrep 64 (0 : Int)))) [] 64 true (eA64u8 ((vrep 64 (0 : Int)))) := (.nil rfl rfl rfl)
      refine a_val (v := (eA64u8 ((vrep 64 (0 : Int))))) (u := []) (ld_own (i := ⟨.arr 64 5, 64, 64, (eA64u8 (vrep 64 (0 : Int)))⟩) rfl rfl rfl hl1619) hl1619.c rfl ?_
      have hs1620 : StOk [] (eA64u8 ((vrep 64 (0 : Int)))) [] 64 (eA64u8 ((vrep 64 (0 : Int)))) (eA64u8 ((vrep 64 (0 : Int)))) := (.nil rfl rfl rfl rfl)
      refine a_val (v := .top) (u := [(6, some ⟨(eA64u8 ((vrep 64 (0 : Int)))), false⟩)]) (st_own (i := ⟨.arr 64 5, 64, 64, (eA64u8 (vrep 64 (0 : Int)))⟩) rfl rfl (fun _ => rfl) rfl hs1620) (hs1620.c rfl) rfl ?_
      refine a_val (v := (.bool true)) (u := []) rfl trivial rfl ?_
      refine a_nil ?_
      refine a_next rfl ?_
      refine a_ret ?_
      refine t_ret ?_
      have hl1621 : LdOk [] (eA64u8 ((vrep 64 (0 : Int)))) [] 64 true (eA64u8 ((vrep 64 (0 : Int)))) := (.nil rfl rfl rfl)
      refine ⟨.inr rfl, ?_⟩
      rw [Try.results52]
      cases h
      exact ⟨_, _, _, _, _, ld_own (i := ⟨.arr 64 5, 64, 64, (eA64u8 (vrep 64 (0 : Int)))⟩) rfl rfl rfl hl1621, hl1621.c, .inl ⟨rfl, .inl rfl⟩, rfl, ⟨_, _, _, _, _, rfl, trivial, .inl ⟨rfl, .inl rfl⟩, rfl, rfl⟩⟩
  · have h := hy18
    refine a_region ?_
    refine a_val (v := (.int .i64 r9)) (u := []) rfl trivial rfl ?_
    refine a_val (v := (.bool ((decide (r9 < 0))))) (u := []) rfl trivial rfl ?_
    refine a_val (v := (.bool ((decide (r9 < 0))))) (u := []) rfl trivial rfl ?_
    cases hb20 : (decide (r9 < 0))
    · have h := ite_f hb20 h
      refine a_gval rfl (v := (.int .i64 r12)) (u := []) rfl trivial rfl ?_
      refine a_gval rfl (v := (.bool ((decide (r12 < 0))))) (u := []) rfl trivial rfl ?_
      refine a_val (v := (.bool ((decide (r12 < 0))))) (u := []) rfl trivial rfl ?_
      refine a_nil ?_
      exact j_leaf ((decide (r12 < 0))) (Option.some.inj h) (by kernel_rfl)
    · have h := ite_t hb20 h
      refine a_gskip rfl ?_
      refine a_gskip rfl ?_
      refine a_val (v := (.bool true)) (u := []) rfl trivial rfl ?_
      refine a_nil ?_
      exact j_leaf true (Option.some.inj h) (by kernel_rfl)
def spec_DigitsOfQuotient_c : ACode := (.seq (.region 0 [⟨some 5, .box 23 (.tmp 1), none, []⟩, ⟨some 6, .box 23 (.tmp 2), none, []⟩, ⟨some 8, .asg 1 (.const (.slice none 0 0)) 45, none, []⟩, ⟨some 9, .asg 0 (.const (.int .i64 0)) 2, none, []⟩] false) (.seq (.region 1 [⟨some 17, .mov (.tmp 0), none, []⟩, ⟨some 18, .load 23 (.tmp 5), none, []⟩, ⟨some 19, .load 23 (.tmp 6), none, []⟩, ⟨some 20, .call 0 (.func 67) [(.tmp 17), (.tmp 18), (.tmp 19)], none, []⟩, ⟨some 10, .asg 0 (.tmp 20) 2, none, []⟩] false) (.seq (.seq (.region 2 [⟨some 21, .mov (.tmp 10), none, []⟩, ⟨some 22, .bin .neq 2 (.tmp 21) (.const (.int .i64 1)), none, []⟩, ⟨some 23, .mov (.tmp 22), none, []⟩, ⟨some 24, .load 23 (.tmp 5), some (23, true), []⟩, ⟨some 25, .call 0 (.func 83) [(.tmp 24)], some (23, true), []⟩, ⟨some 26, .bin .gtr 2 (.tmp 25) (.const (.int .i64 62)), some (23, true), []⟩, ⟨some 27, .mov (.tmp 26), some (23, true), []⟩, ⟨some 28, .load 23 (.tmp 6), some (27, false), []⟩, ⟨some 29, .call 0 (.func 83) [(.tmp 28)], some (27, false), []⟩, ⟨some 30, .bin .gtr 2 (.tmp 29) (.const (.int .i64 62)), some (27, false), []⟩, ⟨some 31, .pick (.tmp 27) (.const (.bool true)) (.tmp 30), some (23, true), []⟩, ⟨some 32, .mov (.tmp 31), some (23, true), []⟩, ⟨some 33, .mov (.tmp 3), some (32, false), []⟩, ⟨some 34, .call 0 (.func 84) [(.tmp 33), (.const (.int .i64 0)), (.const (.int .i64 40))], some (32, false), []⟩, ⟨some 35, .un .not (.tmp 34), some (32, false), []⟩, ⟨some 36, .pick (.tmp 32) (.const (.bool true)) (.tmp 35), some (23, true), []⟩, ⟨some 37, .pick (.tmp 23) (.tmp 36) (.const (.bool false)), none, []⟩] false) (.cond (.tmp 37) (.region 3 [⟨some 10, .asg 0 (.const (.int .i64 2)) 2, none, []⟩] false) .skip)) (.seq (.seq (.region 4 [⟨some 38, .mov (.tmp 10), none, []⟩, ⟨some 39, .bin .neq 2 (.tmp 38) (.const (.int .i64 0)), none, []⟩] false) (.cond (.tmp 39) (.seq (.region 5 [⟨some 40, .mov (.tmp 10), none, []⟩, ⟨some 8, .asg 1 (.const (.slice none 0 0)) 45, none, []⟩, ⟨some 9, .asg 0 (.tmp 40) 2, none, []⟩] false) .ret) .skip)) (.seq (.region 6 [⟨some 41, .bslice 2 45 0 [], none, []⟩, ⟨some 42, .mov (.tmp 0), none, []⟩, ⟨some 43, .load 23 (.tmp 5), none, []⟩, ⟨some 44, .load 23 (.tmp 6), none, []⟩, ⟨some 45, .call 0 (.func 85) [(.tmp 42), (.tmp 43), (.tmp 44)], none, []⟩, ⟨some 12, .alloc 23, none, []⟩, ⟨some 11, .asg 2 (.tmp 41) 45, none, []⟩, ⟨none, .store 23 (.tmp 12) (.tmp 45), none, []⟩] false) (.seq (.block 0 (.loop (.seq (.seq (.region 7 [⟨some 46, .mov (.tmp 3), none, []⟩, ⟨some 47, .bin .gtr 2 (.tmp 46) (.const (.int .i64 0)), none, []⟩] false) (.cond (.tmp 47) .skip (.exit 0))) (.seq (.block 1 (.seq (.region 9 [⟨some 51, .mov (.tmp 0), none, []⟩, ⟨some 52, .load 23 (.tmp 12), none, []⟩, ⟨some 53, .call 0 (.func 86) [], none, []⟩, ⟨some 54, .call 0 (.func 52) [(.tmp 51), (.tmp 52), (.tmp 53)], none, [0, 1, 2, 2]⟩, ⟨some 50, .mov (.tmp 54), none, [3]⟩, ⟨some 55, .extract (.tmp 50) 0, none, [4]⟩, ⟨some 56, .extract (.tmp 50) 1, none, [4]⟩, ⟨some 13, .alloc 23, none, []⟩, ⟨none, .store 23 (.tmp 13) (.tmp 55), none, [7, 5, 3, 0, 1, 2, 3, 4, 5, 7]⟩, ⟨some 14, .asg 0 (.tmp 56) 4, none, [6, 8, 0, 1, 2, 3, 4, 5, 6, 7, 8]⟩] true) (.seq (.region 10 [⟨some 58, .mov (.tmp 0), none, []⟩, ⟨some 59, .load 23 (.tmp 13), none, []⟩, ⟨some 60, .load 23 (.tmp 6), none, []⟩, ⟨some 61, .call 0 (.func 87) [(.tmp 58), (.tmp 59), (.tmp 60)], none, []⟩, ⟨some 57, .mov (.tmp 61), none, []⟩, ⟨some 62, .extract (.tmp 57) 0, none, []⟩, ⟨some 63, .extract (.tmp 57) 1, none, []⟩, ⟨some 15, .alloc 23, none, []⟩, ⟨some 16, .alloc 23, none, []⟩, ⟨none, .store 23 (.tmp 15) (.tmp 62), none, []⟩, ⟨none, .store 23 (.tmp 16) (.tmp 63), none, []⟩] false) (.seq (.region 11 [⟨some 64, .mov (.tmp 11), none, []⟩, ⟨some 65, .indexAddr 23 (.tmp 15) (.const (.int .i64 0)), none, []⟩, ⟨some 66, .load 5 (.tmp 65), none, []⟩, ⟨some 67, .conv 5 2 (.tmp 66), none, []⟩, ⟨some 68, .bslice 0 45 1 [(0, (.tmp 67))], none, []⟩, ⟨some 69, .blt 0 .append [(.tmp 64), (.tmp 68)] [45, 45], none, []⟩, ⟨some 11, .asg 2 (.tmp 69) 45, none, []⟩] false) (.region 12 [⟨some 70, .load 23 (.tmp 16), none, []⟩, ⟨none, .store 23 (.tmp 12) (.tmp 70), none, []⟩] false))))) (.region 8 [⟨some 48, .mov (.tmp 3), none, []⟩, ⟨some 49, .bin .sub 2 (.tmp 48) (.const (.int .i64 1)), none, []⟩, ⟨some 3, .asg 0 (.tmp 49) 2, none, []⟩] false))))) (.seq (.region 13 [⟨some 71, .mov (.tmp 11), none, []⟩, ⟨some 8, .asg 1 (.tmp 71) 45, none, []⟩, ⟨some 9, .asg 0 (.const (.int .i64 0)) 2, none, []⟩] false) .ret)))))))
def spec_DigitsOfQuotient_L : Live := [(0, [0, 1, 2, 3]), (1, [0, 3, 5, 6]), (2, [0, 3, 5, 6, 10]), (3, [0, 3, 5, 6]), (4, [0, 3, 5, 6, 10]), (5, [10]), (6, [0, 3, 5, 6]), (7, [0, 3, 6, 11, 12]), (8, [0, 3, 6, 11, 12]), (9, [0, 3, 6, 11, 12]), (10, [0, 3, 6, 11, 12, 13]), (11, [0, 3, 6, 11, 12, 15, 16]), (12, [0, 3, 6, 11, 12, 16]), (13, [11]), (100037, [0, 3, 5, 6, 10, 37]), (100039, [0, 3, 5, 6, 10, 39]), (100047, [0, 3, 6, 11, 12, 47])]
theorem spec_DigitsOfQuotient_body : Try.f34.body = some (Try.f34.body.getD .skip) := by kernel_rfl
theorem spec_DigitsOfQuotient_strip : strip [(8, 1), (11, 2), (41, 2)] (Try.f34.body.getD .skip) = spec_DigitsOfQuotient_c := by kernel_rfl
noncomputable def spec_DigitsOfQuotient_l1 (a0 : Int) (a2 : (Vec Int 64)) (x176 : Int) (x177 : (List Int)) (x178 : (Vec Int 64)) : Option ((Int × (List Int) × (Vec Int 64)) ⊕ (List Int)) :=
  (if (decide (x176 > 0)) then (Option.bind (spec_l01T) fun r214 => (Option.bind (spec_l01Times a0 x178 r214) fun r216 => (Option.bind (spec_l01Divide a0 r216.1 a2) fun r221 => (ifp (0 ≤ (0 : Int) ∧ (0 : Int) < ((64 : Nat) : Int)) ((ifp ((x177.length + ([IntKind.i64.wrap ((rd r221.1.1 (0 : Int).toNat))] : List Int).length) * 8 ≤ 140737488355328) ((some (.inl ((IntKind.i64.wrap (x176 - 1), (x177 ++ ([IntKind.i64.wrap ((rd r221.1.1 (0 : Int).toNat))])), r221.2))))))))))) else (some (.inr x177)))
noncomputable def spec_DigitsOfQuotient (a0 : Int) (a1 : (Vec Int 64)) (a2 : (Vec Int 64)) (a3 : Int) : Option ((List Int) × Int) :=
  (Option.bind (spec_l10Code a0 a1 a2) fun r3 => (Option.bind (α := Int) ((Option.bind (α := Bool) ((if (r3 != 1) then (Option.bind (spec_l01Deg a1) fun r53 => (if (decide (r53 > 62)) then (some true) else (Option.bind (spec_l01Deg a2) fun r57 => (if (decide (r57 > 62)) then (some true) else (Option.bind (spec_l01In a3 0 40) fun r60 => (some (!r60))))))) else (some false))) fun x47 => (if x47 then (some 2) else (some r3)))) fun x32 => (if (x32 != 0) then (some ([], x32)) else (Option.bind (spec_l01Mod a0 a1 a2) fun r66 => (Option.bind (α := (List Int)) ((loopM (fun s : (Int × (List Int) × (Vec Int 64)) => spec_DigitsOfQuotient_l1 a0 a2 s.1 s.2.1 s.2.2) (a3, [], r66))) fun x148 => (some (x148, 0)))))))
set_option maxHeartbeats 16000000 in
theorem spec_DigitsOfQuotient_ok (a0 : Int) (a1 : (Vec Int 64)) (a2 : (Vec Int 64)) (a3 : Int) (r : ((List Int) × Int)) (h : spec_DigitsOfQuotient a0 a1 a2 a3 = some r) : Den Try.prog 34 [(.int .i64 a0), (eA64u8 a1), (eA64u8 a2), (.int .i64 a3)] { r := (.tuple [(eSi64 r.1), (.int .i64 r.2)]) } := by
  refine den_of (rs := [(eSi64 r.1), (.int .i64 r.2)]) (ac := spec_DigitsOfQuotient_c) (L := spec_DigitsOfQuotient_L) (n := 72) (m := [(8, 1), (11, 2), (41, 2)]) good Try.func34 spec_DigitsOfQuotient_body (by kernel_rfl) Try.ntmps34 rfl rfl spec_DigitsOfQuotient_strip rfl rfl ?_
  refine a_st (σ' := ⟨[(0, (.int .i64 a0)), (1, (eA64u8 a1)), (2, (eA64u8 a2)), (3, (.int .i64 a3))], []⟩) (by kernel_rfl) ?_
  unfold spec_DigitsOfQuotient_c
  refine a_seq ?_
  refine a_region ?_
  refine a_val (v := (.own 1500 [] [])) (u := [(1500, some ⟨(eA64u8 a1), false⟩)]) rfl trivial rfl ?_
  refine a_val (v := (.own 1600 [] [])) (u := [(1600, some ⟨(eA64u8 a2), false⟩)]) rfl trivial rfl ?_
  refine a_val (v := (eSi64 ([]))) (u := []) rfl trivial rfl ?_
  refine a_val (v := (.int .i64 0)) (u := []) rfl trivial rfl ?_
  refine a_nil ?_
  refine a_next (σ' := ⟨[(0, (.int .i64 a0)), (3, (.int .i64 a3)), (5, (.own 5 [] [])), (6, (.own 6 [] []))], [(5, some ⟨(eA64u8 a1), false⟩), (6, some ⟨(eA64u8 a2), false⟩)]⟩) (by kernel_rfl) ?_
  refine a_seq ?_
  refine a_region ?_
  refine a_val (v := (.int .i64 a0)) (u := []) rfl trivial rfl ?_
  have hl1 : LdOk [] (eA64u8 a1) [] 64 true (eA64u8 a1) := (.nil rfl rfl rfl)
  refine a_val (v := (eA64u8 a1)) (u := []) (ld_own (i := ⟨.arr 64 5, 64, 64, (eA64u8 (vrep 64 (0 : Int)))⟩) rfl rfl rfl hl1) hl1.c rfl ?_
  have hl2 : LdOk [] (eA64u8 a2) [] 64 true (eA64u8 a2) := (.nil rfl rfl rfl)
  refine a_val (v := (eA64u8 a2)) (u := []) (ld_own (i := ⟨.arr 64 5, 64, 64, (eA64u8 (vrep 64 (0 : Int)))⟩) rfl rfl rfl hl2) hl2.c rfl ?_
  obtain ⟨r3, hr4, h⟩ := bind_some h
  refine a_call (args := [(.int .i64 a0), (eA64u8 a1), (eA64u8 a2)]) (u := []) (r := (.int .i64 r3)) rfl rfl (spec_l10Code_ok a0 a1 a2 r3 hr4) rfl ?_
  refine a_val (v := (.int .i64 r3)) (u := []) rfl trivial rfl ?_
  refine a_nil ?_
  refine a_next (σ' := ⟨[(0, (.int .i64 a0)), (3, (.int .i64 a3)), (5, (.own 5 [] [])), (6, (.own 6 [] [])), (10, (.int .i64 r3))], [(5, some ⟨(eA64u8 a1), false⟩), (6, some ⟨(eA64u8 a2), false⟩)]⟩) (by kernel_rfl) ?_
  obtain ⟨y33, hy34, hk35⟩ := bind_some h
  clear h
  refine a_join (emb := fun (s : Int) => ⟨[(0, (.int .i64 a0)), (3, (.int .i64 a3)), (5, (.own 5 [] [])), (6, (.own 6 [] [])), (10, (.int .i64 s))], [(5, some ⟨(eA64u8 a1), false⟩), (6, some ⟨(eA64u8 a2), false⟩)]⟩) (pre := fun s => s = y33) ?_ ?_
  · rintro x32 rfl
    have h := hk35
    refine a_st (σ' := ⟨[(0, (.int .i64 a0)), (3, (.int .i64 a3)), (5, (.own 5 [] [])), (6, (.own 6 [] [])), (10, (.int .i64 x32))], [(5, some ⟨(eA64u8 a1), false⟩), (6, some ⟨(eA64u8 a2), false⟩)]⟩) (by kernel_rfl) ?_
    refine a_seq ?_
    refine a_seq ?_
    refine a_region ?_
    refine a_val (v := (.int .i64 x32)) (u := []) rfl trivial rfl ?_
    refine a_val (v := (.bool (x32 != 0))) (u := []) rfl trivial rfl ?_
    refine a_nil ?_
    refine a_next (σ' := ⟨[(0, (.int .i64 a0)), (3, (.int .i64 a3)), (5, (.own 5 [] [])), (6, (.own 6 [] [])), (10, (.int .i64 x32)), (39, (.bool (x32 != 0)))], [(5, some ⟨(eA64u8 a1), false⟩), (6, some ⟨(eA64u8 a2), false⟩)]⟩) (by kernel_rfl) ?_
    cases hb63 : (x32 != 0)
    · have h := ite_f hb63 h
      refine a_cond_f rfl ?_
      refine a_skip ?_
      refine a_next (σ' := ⟨[(0, (.int .i64 a0)), (3, (.int .i64 a3)), (5, (.own 5 [] [])), (6, (.own 6 [] []))], [(5, some ⟨(eA64u8 a1), false⟩), (6, some ⟨(eA64u8 a2), false⟩)]⟩) (by kernel_rfl) ?_
      refine a_seq ?_
      refine a_region ?_
      refine a_val (v := (.osl 5100)) (u := [(5100, some ⟨(.row 1 (([]).map (AV.int .i64))), false⟩)]) rfl ⟨(Nat.le_of_ble_eq_true rfl), (Nat.le_of_ble_eq_true rfl), all_nil⟩ rfl ?_
      refine a_val (v := (.int .i64 a0)) (u := []) rfl trivial rfl ?_
      have hl64 : LdOk [] (eA64u8 a1) [] 64 true (eA64u8 a1) := (.nil rfl rfl rfl)
      refine a_val (v := (eA64u8 a1)) (u := []) (ld_own (i := ⟨.arr 64 5, 64, 64, (eA64u8 (vrep 64 (0 : Int)))⟩) rfl rfl rfl hl64) hl64.c rfl ?_
      have hl65 : LdOk [] (eA64u8 a2) [] 64 true (eA64u8 a2) := (.nil rfl rfl rfl)
      refine a_val (v := (eA64u8 a2)) (u := []) (ld_own (i := ⟨.arr 64 5, 64, 64, (eA64u8 (vrep 64 (0 : Int)))⟩) rfl rfl rfl hl65) hl65.c rfl ?_
      obtain ⟨r66, hr67, h⟩ := bind_some h
      refine a_call (args := [(.int .i64 a0), (eA64u8 a1), (eA64u8 a2)]) (u := []) (r := (eA64u8 r66)) rfl rfl (spec_l01Mod_ok a0 a1 a2 r66 hr67) rfl ?_
      refine a_val (v := (.own 2200 [] [])) (u := [(2200, some ⟨(eA64u8 ((vrep 64 (0 : Int)))), false⟩)]) rfl trivial rfl ?_
      refine a_val (v := (.osl 5100)) (u := []) rfl trivial rfl ?_
      have hs68 : StOk [] (eA64u8 ((vrep 64 (0 : Int)))) [] 64 (eA64u8 r66) (eA64u8 r66) := (.nil rfl rfl rfl rfl)
      refine a_val (v := .top) (u := [(2200, some ⟨(eA64u8 r66), false⟩)]) (st_own (i := ⟨.arr 64 5, 64, 64, (eA64u8 (vrep 64 (0 : Int)))⟩) rfl rfl (fun _ => rfl) rfl hs68) (hs68.c rfl) rfl ?_
      refine a_nil ?_
      refine a_next (σ' := ⟨[(0, (.int .i64 a0)), (3, (.int .i64 a3)), (6, (.own 6 [] [])), (11, (.osl 11)), (12, (.own 12 [] []))], [(6, some ⟨(eA64u8 a2), false⟩), (11, some ⟨(.row 1 (([]).map (AV.int .i64))), false⟩), (12, some ⟨(eA64u8 r66), false⟩)]⟩) (by kernel_rfl) ?_
      obtain ⟨y149, hy150, hk151⟩ := bind_some h
      clear h
      refine a_join (emb := fun (s : (List Int)) => ⟨[(11, (.osl 11))], [(11, some ⟨(.row 1 (s.map (AV.int .i64))), false⟩)]⟩) (pre := fun s => s = y149) ?_ ?_
      · rintro x148 rfl
        have h := hk151
        refine a_st (σ' := ⟨[(11, (.osl 11))], [(11, some ⟨(.row 1 (x148.map (AV.int .i64))), false⟩)]⟩) (by kernel_rfl) ?_
        refine a_seq ?_
        refine a_region ?_
        refine a_val (v := (.osl 11)) (u := []) rfl trivial rfl ?_
        refine a_val (v := (eSi64 x148)) (u := [(11, some ⟨(.row 1 (x148.map (AV.int .i64))), true⟩)]) rfl trivial rfl ?_
        refine a_val (v := (.int .i64 0)) (u := []) rfl trivial rfl ?_
        refine a_nil ?_
        refine a_next rfl ?_
        refine a_ret ?_
        refine ⟨.inr rfl, ?_⟩
        rw [Try.results34]
        cases h
        exact ⟨_, _, _, _, _, rfl, trivial, .inl ⟨rfl, .inl rfl⟩, rfl, ⟨_, _, _, _, _, rfl, trivial, .inl ⟨rfl, .inl rfl⟩, rfl, rfl⟩⟩
      · have h := hy150
        refine a_block ?_
        refine a_loop (emb := fun (s : (Int × (List Int) × (Vec Int 64))) => ⟨[(0, (.int .i64 a0)), (3, (.int .i64 s.1)), (6, (.own 6 [] [])), (11, (.osl 11)), (12, (.own 12 [] []))], [(6, some ⟨(eA64u8 a2), false⟩), (11, some ⟨(.row 1 (s.2.1.map (AV.int .i64))), false⟩), (12, some ⟨(eA64u8 s.2.2), false⟩)]⟩) (body := (fun s : (Int × (List Int) × (Vec Int 64)) => spec_DigitsOfQuotient_l1 a0 a2 s.1 s.2.1 s.2.2)) (G := fun q => some q = some y149) h rfl ?_ (by kernel_rfl)
        rintro X203 ⟨x176, x177, x178⟩ x204 h hX205
        have h : spec_DigitsOfQuotient_l1 a0 a2 x176 x177 x178 = some x204 := h
        refine a_st (σ' := ⟨[(0, (.int .i64 a0)), (3, (.int .i64 x176)), (6, (.own 6 [] [])), (11, (.osl 11)), (12, (.own 12 [] []))], [(6, some ⟨(eA64u8 a2), false⟩), (11, some ⟨(.row 1 (x177.map (AV.int .i64))), false⟩), (12, some ⟨(eA64u8 x178), false⟩)]⟩) (by kernel_rfl) ?_
        refine a_seq ?_
        refine a_seq ?_
        refine a_region ?_
        refine a_val (v := (.int .i64 x176)) (u := []) rfl trivial rfl ?_
        refine a_val (v := (.bool ((decide (x176 > 0))))) (u := []) rfl trivial rfl ?_
        refine a_nil ?_
        refine a_next (σ' := ⟨[(0, (.int .i64 a0)), (3, (.int .i64 x176)), (6, (.own 6 [] [])), (11, (.osl 11)), (12, (.own 12 [] [])), (47, (.bool ((decide (x176 > 0)))))], [(6, some ⟨(eA64u8 a2), false⟩), (11, some ⟨(.row 1 (x177.map (AV.int .i64))), false⟩), (12, some ⟨(eA64u8 x178), false⟩)]⟩) (by kernel_rfl) ?_
        cases hb206 : (decide (x176 > 0))
        · have h := ite_f hb206 h
          refine a_cond_f rfl ?_
          refine a_exit ?_
          refine t_exit ?_
          cases h
          have h := hX205
          refine t_exit ?_
          refine b_exit ?_
          exact j_leaf x177 (Option.some.inj h) (by kernel_rfl)
        · have h := ite_t hb206 h
          refine a_cond_t rfl ?_
          refine a_skip ?_
          refine a_next (σ' := ⟨[(0, (.int .i64 a0)), (3, (.int .i64 x176)), (6, (.own 6 [] [])), (11, (.osl 11)), (12, (.own 12 [] []))], [(6, some ⟨(eA64u8 a2), false⟩), (11, some ⟨(.row 1 (x177.map (AV.int .i64))), false⟩), (12, some ⟨(eA64u8 x178), false⟩)]⟩) (by kernel_rfl) ?_
          refine a_seq ?_
          refine a_block ?_
          refine a_seq ?_
          refine a_draw [⟨[], [], [], []⟩, ⟨[12], [], [], []⟩, ⟨[], [], [], []⟩, ⟨[], [], [], [0, 1, 2]⟩, ⟨[], [], [], [0, 1, 2, 3]⟩, ⟨[], [], [], [0, 1, 2, 3, 4]⟩, ⟨[], [], [], [0, 1, 2, 3, 4]⟩, ⟨[2300], [2300], [2300], []⟩, ⟨[2300], [2300], [], [0, 1, 2, 3, 4, 5, 7]⟩, ⟨[], [], [], [0, 1, 2, 3, 4, 5, 6, 7, 8]⟩] (by kernel_rfl) ?_
          refine d_cons ?_
          refine a_val (v := (.int .i64 a0)) (u := []) rfl trivial rfl ?_
          refine d_next (by kernel_rfl) ?_
          refine d_cons ?_
          have hl213 : LdOk [] (eA64u8 x178) [] 64 true (eA64u8 x178) := (.nil rfl rfl rfl)
          refine a_val (v := (eA64u8 x178)) (u := []) (ld_own (i := ⟨.arr 64 5, 64, 64, (eA64u8 (vrep 64 (0 : Int)))⟩) rfl rfl rfl hl213) hl213.c rfl ?_
          refine d_next (by kernel_rfl) ?_
          refine d_cons ?_
          obtain ⟨r214, hr215, h⟩ := bind_some h
          refine a_call (args := []) (u := []) (r := (eA64u8 r214)) rfl rfl (spec_l01T_ok r214 hr215) rfl ?_
          refine d_next (by kernel_rfl) ?_
          refine d_cons ?_
          obtain ⟨r216, hr217, h⟩ := bind_some h
          refine a_call (args := [(.int .i64 a0), (eA64u8 x178), (eA64u8 r214)]) (u := []) (r := (.tuple [(eA64u8 r216.1), (.bool r216.2)])) rfl rfl (spec_l01Times_ok a0 x178 r214 r216 hr217) rfl ?_
          refine d_next (by kernel_rfl) ?_
          refine d_cons ?_
          refine a_val (v := (.tuple [(eA64u8 r216.1), (.bool r216.2)])) (u := []) rfl trivial rfl ?_
          refine d_next (by kernel_rfl) ?_
          refine d_cons ?_
          refine a_val (v := (eA64u8 r216.1)) (u := []) rfl (Nat.le_of_ble_eq_true rfl) rfl ?_
          refine d_next (by kernel_rfl) ?_
          refine d_cons ?_
          refine a_val (v := (.bool r216.2)) (u := []) rfl (Nat.le_of_ble_eq_true rfl) rfl ?_
          refine d_next (by kernel_rfl) ?_
          refine d_cons ?_
          refine a_val (v := (.own 2300 [] [])) (u := [(2300, some ⟨(eA64u8 ((vrep 64 (0 : Int)))), false⟩)]) rfl trivial rfl ?_
          refine d_next (by kernel_rfl) ?_
          refine d_cons ?_
          have hs218 : StOk [] (eA64u8 ((vrep 64 (0 : Int)))) [] 64 (eA64u8 r216.1) (eA64u8 r216.1) := (.nil rfl rfl rfl rfl)
          refine a_val (v := .top) (u := [(2300, some ⟨(eA64u8 r216.1), false⟩)]) (st_own (i := ⟨.arr 64 5, 64, 64, (eA64u8 (vrep 64 (0 : Int)))⟩) rfl rfl (fun _ => rfl) rfl hs218) (hs218.c rfl) rfl ?_
          refine d_next (by kernel_rfl) ?_
          refine d_cons ?_
          refine a_val (v := (.bool r216.2)) (u := []) rfl trivial rfl ?_
          refine d_next (by kernel_rfl) ?_
          refine d_nil ?_
          refine a_next (σ' := ⟨[(0, (.int .i64 a0)), (3, (.int .i64 x176)), (6, (.own 6 [] [])), (11, (.osl 11)), (12, (.own 12 [] [])), (13, (.own 13 [] []))], [(6, some ⟨(eA64u8 a2), false⟩), (11, some ⟨(.row 1 (x177.map (AV.int .i64))), false⟩), (12, some ⟨(eA64u8 x178), false⟩), (13, some ⟨(eA64u8 r216.1), false⟩)]⟩) (by kernel_rfl) ?_
          refine a_seq ?_
          refine a_region ?_
          refine a_val (v := (.int .i64 a0)) (u := []) rfl trivial rfl ?_
          have hl219 : LdOk [] (eA64u8 r216.1) [] 64 true (eA64u8 r216.1) := (.nil rfl rfl rfl)
          refine a_val (v := (eA64u8 r216.1)) (u := []) (ld_own (i := ⟨.arr 64 5, 64, 64, (eA64u8 (vrep 64 (0 : Int)))⟩) rfl rfl rfl hl219) hl219.c rfl ?_
          have hl220 : LdOk [] (eA64u8 a2) [] 64 true (eA64u8 a2) := (.nil rfl rfl rfl)
          refine a_val (v := (eA64u8 a2)) (u := []) (ld_own (i := ⟨.arr 64 5, 64, 64, (eA64u8 (vrep 64 (0 : Int)))⟩) rfl rfl rfl hl220) hl220.c rfl ?_
          obtain ⟨r221, hr222, h⟩ := bind_some h
          refine a_call (args := [(.int .i64 a0), (eA64u8 r216.1), (eA64u8 a2)]) (u := []) (r := (.tuple [(eA64u8 r221.1), (eA64u8 r221.2)])) rfl rfl (spec_l01Divide_ok a0 r216.1 a2 r221 hr222) rfl ?_
          refine a_val (v := (.tuple [(eA64u8 r221.1), (eA64u8 r221.2)])) (u := []) rfl trivial rfl ?_
          refine a_val (v := (eA64u8 r221.1)) (u := []) rfl (Nat.le_of_ble_eq_true rfl) rfl ?_
          refine a_val (v := (eA64u8 r221.2)) (u := []) rfl (Nat.le_of_ble_eq_true rfl) rfl ?_
          refine a_val (v := (.own 2500 [] [])) (u := [(2500, some ⟨(eA64u8 ((vrep 64 (0 : Int)))), false⟩)]) rfl trivial rfl ?_
          refine a_val (v := (.own 2600 [] [])) (u := [(2600, some ⟨(eA64u8 ((vrep 64 (0 : Int)))), false⟩)]) rfl trivial rfl ?_
          have hs223 : StOk [] (eA64u8 ((vrep 64 (0 : Int)))) [] 64 (eA64u8 r221.1) (eA64u8 r221.1) := (.nil rfl rfl rfl rfl)
          refine a_val (v := .top) (u := [(2500, some ⟨(eA64u8 r221.1), false⟩)]) (st_own (i := ⟨.arr 64 5, 64, 64, (eA64u8 (vrep 64 (0 : Int)))⟩) rfl rfl (fun _ => rfl) rfl hs223) (hs223.c rfl) rfl ?_
          have hs224 : StOk [] (eA64u8 ((vrep 64 (0 : Int)))) [] 64 (eA64u8 r221.2) (eA64u8 r221.2) := (.nil rfl rfl rfl rfl)
          refine a_val (v := .top) (u := [(2600, some ⟨(eA64u8 r221.2), false⟩)]) (st_own (i := ⟨.arr 64 5, 64, 64, (eA64u8 (vrep 64 (0 : Int)))⟩) rfl rfl (fun _ => rfl) rfl hs224) (hs224.c rfl) rfl ?_
          refine a_nil ?_
          refine a_next (σ' := ⟨[(0, (.int .i64 a0)), (3, (.int .i64 x176)), (6, (.own 6 [] [])), (11, (.osl 11)), (12, (.own 12 [] [])), (15, (.own 15 [] [])), (16, (.own 16 [] []))], [(6, some ⟨(eA64u8 a2), false⟩), (11, some ⟨(.row 1 (x177.map (AV.int .i64))), false⟩), (12, some ⟨(eA64u8 x178), false⟩), (15, some ⟨(eA64u8 r221.1), false⟩), (16, some ⟨(eA64u8 r221.2), false⟩)]⟩) (by kernel_rfl) ?_
          refine a_seq ?_
          refine a_region ?_
          refine a_val (v := (.osl 11)) (u := []) rfl trivial rfl ?_
          obtain ⟨hc225, h⟩ := ifp_some h
          refine a_val (v := (.own 15 [(0 : Int).toNat] [(0 : Int).toNat * 1])) (u := []) rfl hc225 rfl ?_
          have hl226 : LdOk [(0 : Int).toNat] (eA64u8 r221.1) [(0 : Int).toNat * 1] 1 false (.int .u8 ((rd r221.1.1 (0 : Int).toNat))) := (.arr (vlt r221.1 hc225) rfl (.nil rfl rfl rfl))
          refine a_val (v := (.int .u8 ((rd r221.1.1 (0 : Int).toNat)))) (u := []) (ld_own (i := ⟨.int .u8, 1, 1, (.int .u8 0)⟩) rfl rfl rfl hl226) hl226.c rfl ?_
          refine a_val (v := (.int .i64 (IntKind.i64.wrap ((rd r221.1.1 (0 : Int).toNat))))) (u := []) rfl trivial rfl ?_
          refine a_val (v := (.sl 1 true (([IntKind.i64.wrap ((rd r221.1.1 (0 : Int).toNat))]).map (AV.int .i64)))) (u := []) rfl ⟨(Nat.le_of_ble_eq_true rfl), (Nat.le_of_ble_eq_true rfl), (all_cons ⟨(Nat.le_of_ble_eq_true rfl), rfl⟩ all_nil)⟩ rfl ?_
          obtain ⟨hc227, h⟩ := ifp_some h
          refine a_val (v := (.osl 7900)) (u := [(7900, some ⟨(.row 1 (((x177 ++ ([IntKind.i64.wrap ((rd r221.1.1 (0 : Int).toNat))]))).map (AV.int .i64))), false⟩), (11, none)]) (app_run (i := ⟨.int .i64, 1, 8, (.int .i64 0)⟩) (f := (AV.int .i64)) (l := x177) (l2 := [IntKind.i64.wrap ((rd r221.1.1 (0 : Int).toNat))]) rfl rfl rfl rfl (fun _ => rfl) rfl rfl) (app_c (f := (AV.int .i64)) (s := 1) (sz := 1) (by' := 8) (u := []) (id := 11) hc227 (.inr rfl) rfl rfl rfl) rfl ?_
          refine a_val (v := (.osl 7900)) (u := []) rfl trivial rfl ?_
          refine a_nil ?_
          refine a_next (σ' := ⟨[(0, (.int .i64 a0)), (3, (.int .i64 x176)), (6, (.own 6 [] [])), (11, (.osl 11)), (12, (.own 12 [] [])), (16, (.own 16 [] []))], [(6, some ⟨(eA64u8 a2), false⟩), (11, some ⟨(.row 1 (((x177 ++ ([IntKind.i64.wrap ((rd r221.1.1 (0 : Int).toNat))]))).map (AV.int .i64))), false⟩), (12, some ⟨(eA64u8 x178), false⟩), (16, some ⟨(eA64u8 r221.2), false⟩)]⟩) (by kernel_rfl) ?_
          refine a_region ?_
          have hl228 : LdOk [] (eA64u8 r221.2) [] 64 true (eA64u8 r221.2) := (.nil rfl rfl rfl)
          refine a_val (v := (eA64u8 r221.2)) (u := []) (ld_own (i := ⟨.arr 64 5, 64, 64, (eA64u8 (vrep 64 (0 : Int)))⟩) rfl rfl rfl hl228) hl228.c rfl ?_
          have hs229 : StOk [] (eA64u8 x178) [] 64 (eA64u8 r221.2) (eA64u8 r221.2) := (.nil rfl rfl rfl rfl)
          refine a_val (v := .top) (u := [(12, some ⟨(eA64u8 r221.2), false⟩)]) (st_own (i := ⟨.arr 64 5, 64, 64, (eA64u8 (vrep 64 (0 : Int)))⟩) rfl rfl (fun _ => rfl) rfl hs229) (hs229.c rfl) rfl ?_
          refine a_nil ?_
          refine b_norm ?_
          refine a_next (σ' := ⟨[(0, (.int .i64 a0)), (3, (.int .i64 x176)), (6, (.own 6 [] [])), (11, (.osl 11)), (12, (.own 12 [] []))], [(6, some ⟨(eA64u8 a2), false⟩), (11, some ⟨(.row 1 (((x177 ++ ([IntKind.i64.wrap ((rd r221.1.1 (0 : Int).toNat))]))).map (AV.int .i64))), false⟩), (12, some ⟨(eA64u8 r221.2), false⟩)]⟩) (by kernel_rfl) ?_
          refine a_region ?_
          refine a_val (v := (.int .i64 x176)) (u := []) rfl trivial rfl ?_
          refine a_val (v := (.int .i64 (IntKind.i64.wrap (x176 - 1)))) (u := []) rfl trivial rfl ?_
          refine a_val (v := (.int .i64 (IntKind.i64.wrap (x176 - 1)))) (u := []) rfl trivial rfl ?_
          refine a_nil ?_
          cases h
          exact a_again (by kernel_rfl) hX205
    · have h := ite_t hb63 h
      refine a_cond_t rfl ?_
      refine a_seq ?_
      refine a_region ?_
      refine a_val (v := (.int .i64 x32)) (u := []) rfl trivial rfl ?_
      refine a_val (v := (eSi64 ([]))) (u := []) rfl trivial rfl ?_
      refine a_val (v := (.int .i64 x32)) (u := []) rfl trivial rfl ?_
      refine a_nil ?_
      refine a_next rfl ?_
      refine a_ret ?_
      refine t_ret ?_
      refine ⟨.inr rfl, ?_⟩
      rw [Try.results34]
      cases h
      exact ⟨_, _, _, _, _, rfl, trivial, .inl ⟨rfl, .inl rfl⟩, rfl, ⟨_, _, _, _, _, rfl, trivial, .inl ⟨rfl, .inl rfl⟩, rfl, rfl⟩⟩
  · have h := hy34
    obtain ⟨y48, hy49, hk50⟩ := bind_some h
    clear h
    refine a_join (emb := fun (s : Bool) => ⟨[(0, (.int .i64 a0)), (3, (.int .i64 a3)), (5, (.own 5 [] [])), (6, (.own 6 [] [])), (10, (.int .i64 r3)), (37, (.bool s))], [(5, some ⟨(eA64u8 a1), false⟩), (6, some ⟨(eA64u8 a2), false⟩)]⟩) (pre := fun s => s = y48) ?_ ?_
    · rintro x47 rfl
      have h := hk50
      refine a_st (σ' := ⟨[(0, (.int .i64 a0)), (3, (.int .i64 a3)), (5, (.own 5 [] [])), (6, (.own 6 [] [])), (10, (.int .i64 r3)), (37, (.bool x47))], [(5, some ⟨(eA64u8 a1), false⟩), (6, some ⟨(eA64u8 a2), false⟩)]⟩) (by kernel_rfl) ?_
      cases hb62 : x47
      · have h := ite_f hb62 h
        refine a_cond_f rfl ?_
        refine a_skip ?_
        exact j_leaf r3 (Option.some.inj h) (by kernel_rfl)
      · have h := ite_t hb62 h
        refine a_cond_t rfl ?_
        refine a_region ?_
        refine a_val (v := (.int .i64 2)) (u := []) rfl trivial rfl ?_
        refine a_nil ?_
        exact j_leaf 2 (Option.some.inj h) (by kernel_rfl)
    · have h := hy49
      refine a_region ?_
      refine a_val (v := (.int .i64 r3)) (u := []) rfl trivial rfl ?_
      refine a_val (v := (.bool (r3 != 1))) (u := []) rfl trivial rfl ?_
      refine a_val (v := (.bool (r3 != 1))) (u := []) rfl trivial rfl ?_
      cases hb51 : (r3 != 1)
      · have h := ite_f hb51 h
        refine a_gskip rfl ?_
        refine a_gskip rfl ?_
        refine a_gskip rfl ?_
        refine a_gskip rfl ?_
        refine a_gskip0 rfl ?_
        refine a_gskip0 rfl ?_
        refine a_gskip0 rfl ?_
        refine a_gskip rfl ?_
        refine a_gskip rfl ?_
        refine a_gskip0 rfl ?_
        refine a_gskip0 rfl ?_
        refine a_gskip0 rfl ?_
        refine a_gskip rfl ?_
        refine a_val (v := (.bool false)) (u := []) rfl trivial rfl ?_
        refine a_nil ?_
        exact j_leaf false (Option.some.inj h) (by kernel_rfl)
      · have h := ite_t hb51 h
        have hl52 : LdOk [] (eA64u8 a1) [] 64 true (eA64u8 a1) := (.nil rfl rfl rfl)
        refine a_gval rfl (v := (eA64u8 a1)) (u := []) (ld_own (i := ⟨.arr 64 5, 64, 64, (eA64u8 (vrep 64 (0 : Int)))⟩) rfl rfl rfl hl52) hl52.c rfl ?_
        obtain ⟨r53, hr54, h⟩ := bind_some h
        refine a_gcall rfl (args := [(eA64u8 a1)]) (u := []) (r := (.int .i64 r53)) rfl rfl (spec_l01Deg_ok a1 r53 hr54) rfl ?_
        refine a_gval rfl (v := (.bool ((decide (r53 > 62))))) (u := []) rfl trivial rfl ?_
        refine a_gval rfl (v := (.bool ((decide (r53 > 62))))) (u := []) rfl trivial rfl ?_
        cases hb55 : (decide (r53 > 62))
        · have h := ite_f hb55 h
          have hl56 : LdOk [] (eA64u8 a2) [] 64 true (eA64u8 a2) := (.nil rfl rfl rfl)
          refine a_gval rfl (v := (eA64u8 a2)) (u := []) (ld_own (i := ⟨.arr 64 5, 64, 64, (eA64u8 (vrep 64 (0 : Int)))⟩) rfl rfl rfl hl56) hl56.c rfl ?_
          obtain ⟨r57, hr58, h⟩ := bind_some h
          refine a_gcall rfl (args := [(eA64u8 a2)]) (u := []) (r := (.int .i64 r57)) rfl rfl (spec_l01Deg_ok a2 r57 hr58) rfl ?_
          refine a_gval rfl (v := (.bool ((decide (r57 > 62))))) (u := []) rfl trivial rfl ?_
          refine a_gval rfl (v := (.bool ((decide (r57 > 62))))) (u := []) rfl trivial rfl ?_
          refine a_gval rfl (v := (.bool ((decide (r57 > 62))))) (u := []) rfl trivial rfl ?_
          cases hb59 : (decide (r57 > 62))
          · have h := ite_f hb59 h
            refine a_gval rfl (v := (.int .i64 a3)) (u := []) rfl trivial rfl ?_
            obtain ⟨r60, hr61, h⟩ := bind_some h
            refine a_gcall rfl (args := [(.int .i64 a3), (.int .i64 0), (.int .i64 40)]) (u := []) (r := (.bool r60)) rfl rfl (spec_l01In_ok a3 0 40 r60 hr61) rfl ?_
            refine a_gval rfl (v := (.bool (!r60))) (u := []) rfl trivial rfl ?_
            refine a_gval rfl (v := (.bool (!r60))) (u := []) rfl trivial rfl ?_
            refine a_val (v := (.bool (!r60))) (u := []) rfl trivial rfl ?_
            refine a_nil ?_
            exact j_leaf (!r60) (Option.some.inj h) (by kernel_rfl)
          · have h := ite_t hb59 h
            refine a_gskip rfl ?_
            refine a_gskip rfl ?_
            refine a_gskip rfl ?_
            refine a_gval rfl (v := (.bool true)) (u := []) rfl trivial rfl ?_
            refine a_val (v := (.bool true)) (u := []) rfl trivial rfl ?_
            refine a_nil ?_
            exact j_leaf true (Option.some.inj h) (by kernel_rfl)
        · have h := ite_t hb55 h
          refine a_gskip rfl ?_
          refine a_gskip rfl ?_
          refine a_gskip rfl ?_
          refine a_gval rfl (v := (.bool true)) (u := []) rfl trivial rfl ?_
          refine a_gval rfl (v := (.bool true)) (u := []) rfl trivial rfl ?_
          refine a_gskip rfl ?_
          refine a_gskip rfl ?_
          refine a_gskip rfl ?_
          refine a_gval rfl (v := (.bool true)) (u := []) rfl trivial rfl ?_
          refine a_val (v := (.bool true)) (u := []) rfl trivial rfl ?_
          refine a_nil ?_
          exact j_leaf true (Option.some.inj h) (by kernel_rfl)
def impl_row_trimmed_c : ACode := (.seq (.region 0 [⟨some 2, .asg 1 (.const (.slice none 0 0)) 64, none, []⟩] false) (.seq (.region 1 [⟨some 4, .mov (.tmp 0), none, []⟩, ⟨some 5, .blt 0 .len [(.tmp 4)] [64], none, []⟩, ⟨some 3, .asg 0 (.tmp 5) 3, none, []⟩] false) (.seq (.block 0 (.loop (.seq (.seq (.region 2 [⟨some 6, .mov (.tmp 3), none, []⟩, ⟨some 7, .bin .gtr 3 (.tmp 6) (.const (.int .i64 0)), none, []⟩, ⟨some 8, .mov (.tmp 7), none, []⟩, ⟨some 9, .mov (.tmp 0), some (8, true), []⟩, ⟨some 10, .mov (.tmp 3), some (8, true), []⟩, ⟨some 11, .bin .sub 3 (.tmp 10) (.const (.int .i64 1)), some (8, true), []⟩, ⟨some 12, .indexAddr 64 (.tmp 9) (.tmp 11), some (8, true), []⟩, ⟨some 13, .load 2 (.tmp 12), some (8, true), []⟩, ⟨some 14, .bin .eql 2 (.tmp 13) (.const (.int .i64 0)), some (8, true), []⟩, ⟨some 15, .pick (.tmp 8) (.tmp 14) (.const (.bool false)), none, []⟩] false) (.cond (.tmp 15) .skip (.exit 0))) (.block 1 (.region 3 [⟨some 16, .mov (.tmp 3), none, []⟩, ⟨some 17, .bin .sub 3 (.tmp 16) (.const (.int .i64 1)), none, []⟩, ⟨some 3, .asg 0 (.tmp 17) 3, none, []⟩] false))))) (.seq (.region 4 [⟨some 18, .mov (.tmp 0), none, []⟩, ⟨some 19, .mov (.tmp 3), none, []⟩, ⟨some 20, .mov (.tmp 3), none, []⟩, ⟨some 21, .slice 64 (.tmp 18) none (some (.tmp 19)) (some (.tmp 20)), none, []⟩, ⟨some 2, .asg 1 (.tmp 21) 64, none, []⟩] false) .ret))))
def impl_row_trimmed_L : Live := [(0, [0]), (1, [0]), (2, [0, 3]), (3, [0, 3]), (4, [0, 3]), (100015, [0, 3, 15])]
theorem impl_row_trimmed_body : Try.f111.body = some (Try.f111.body.getD .skip) := by kernel_rfl
theorem impl_row_trimmed_strip : strip [(2, 1)] (Try.f111.body.getD .skip) = impl_row_trimmed_c := by kernel_rfl
noncomputable def impl_row_trimmed_l1 (a0 : (List Int)) (x62 : Int) : Option (Int ⊕ Int) :=
  (Option.bind (α := Bool) ((if (decide (x62 > 0)) then (ifp (0 ≤ IntKind.i64.wrap (x62 - 1) ∧ IntKind.i64.wrap (x62 - 1) < ((a0.length : Nat) : Int)) ((some ((((rd a0 (IntKind.i64.wrap (x62 - 1)).toNat)) == 0))))) else (some false))) fun x80 => (if x80 then (some (.inl (IntKind.i64.wrap (x62 - 1)))) else (some (.inr x62))))
noncomputable def impl_row_trimmed (a0 : (List Int)) : Option (List Int) :=
  (Option.bind (α := Int) ((loopM (fun s : Int => impl_row_trimmed_l1 a0 s) (a0.length : Int))) fun x43 => (ifp (0 ≤ x43 ∧ x43 ≤ (a0.length : Int)) ((some (a0.take x43.toNat)))))
set_option maxHeartbeats 16000000 in
theorem impl_row_trimmed_ok (a0 : (List Int)) (r : (List Int)) (h : impl_row_trimmed a0 = some r) : Den Try.prog 111 [(eSi64 a0)] { r := (eSi64 r) } := by
  refine den_of (rs := [(eSi64 r)]) (ac := impl_row_trimmed_c) (L := impl_row_trimmed_L) (n := 22) (m := [(2, 1)]) good Try.func111 impl_row_trimmed_body (by kernel_rfl) Try.ntmps111 rfl rfl impl_row_trimmed_strip rfl rfl ?_
  refine a_st (σ' := ⟨[(0, (eSi64 a0))], []⟩) (by kernel_rfl) ?_
  unfold impl_row_trimmed_c
  refine a_seq ?_
  refine a_region ?_
  refine a_val (v := (eSi64 ([]))) (u := []) rfl trivial rfl ?_
  refine a_nil ?_
  refine a_next (σ' := ⟨[(0, (eSi64 a0))], []⟩) (by kernel_rfl) ?_
  refine a_seq ?_
  refine a_region ?_
  refine a_val (v := (eSi64 a0)) (u := []) rfl trivial rfl ?_
  refine a_val (v := (.int .i64 (a0.length : Int))) (u := []) (len_run rfl rfl) trivial rfl ?_
  refine a_val (v := (.int .i64 (a0.length : Int))) (u := []) rfl trivial rfl ?_
  refine a_nil ?_
  refine a_next (σ' := ⟨[(0, (eSi64 a0)), (3, (.int .i64 (a0.length : Int)))], []⟩) (by kernel_rfl) ?_
  obtain ⟨y44, hy45, hk46⟩ := bind_some h
  clear h
  refine a_join (emb := fun (s : Int) => ⟨[(0, (eSi64 a0)), (3, (.int .i64 s))], []⟩) (pre := fun s => s = y44) ?_ ?_
  · rintro x43 rfl
    have h := hk46
    refine a_st (σ' := ⟨[(0, (eSi64 a0)), (3, (.int .i64 x43))], []⟩) (by kernel_rfl) ?_
    refine a_seq ?_
    refine a_region ?_
    refine a_val (v := (eSi64 a0)) (u := []) rfl trivial rfl ?_
    refine a_val (v := (.int .i64 x43)) (u := []) rfl trivial rfl ?_
    refine a_val (v := (.int .i64 x43)) (u := []) rfl trivial rfl ?_
    obtain ⟨hc89, h⟩ := ifp_some h
    refine a_val (v := (.sl 1 true ((a0.take x43.toNat).map (AV.int .i64)))) (u := []) (take3_run (f := (AV.int .i64)) (l := a0) (i := ⟨.int .i64, 1, 8, (.int .i64 0)⟩) rfl rfl rfl rfl (fun _ => rfl)) ⟨hc89.1, lmap_le hc89.2, rfl⟩ rfl ?_
    refine a_val (v := (eSi64 (a0.take x43.toNat))) (u := []) (asg_tight (i := ⟨.int .i64, 1, 8, (.int .i64 0)⟩) (f := (AV.int .i64)) (l := (a0.take x43.toNat)) rfl rfl rfl) trivial rfl ?_
    refine a_nil ?_
    refine a_next rfl ?_
    refine a_ret ?_
    refine ⟨.inr rfl, ?_⟩
    rw [Try.results111]
    cases h
    exact ⟨_, _, _, _, _, rfl, trivial, .inl ⟨rfl, .inl rfl⟩, rfl, rfl⟩
  · have h := hy45
    refine a_block ?_
    refine a_loop (emb := fun (s : Int) => ⟨[(0, (eSi64 a0)), (3, (.int .i64 s))], []⟩) (body := (fun s : Int => impl_row_trimmed_l1 a0 s)) (G := fun q => some q = some y44) h rfl ?_ (by kernel_rfl)
    rintro X74 x62 x75 h hX76
    have h : impl_row_trimmed_l1 a0 x62 = some x75 := h
    refine a_st (σ' := ⟨[(0, (eSi64 a0)), (3, (.int .i64 x62))], []⟩) (by kernel_rfl) ?_
    refine a_seq ?_
    obtain ⟨y81, hy82, hk83⟩ := bind_some h
    clear h
    refine a_join (emb := fun (s : Bool) => ⟨[(0, (eSi64 a0)), (3, (.int .i64 x62)), (15, (.bool s))], []⟩) (pre := fun s => s = y81) ?_ ?_
    · rintro x80 rfl
      have h := hk83
      refine a_st (σ' := ⟨[(0, (eSi64 a0)), (3, (.int .i64 x62)), (15, (.bool x80))], []⟩) (by kernel_rfl) ?_
      cases hb87 : x80
      · have h := ite_f hb87 h
        refine a_cond_f rfl ?_
        refine a_exit ?_
        refine t_exit ?_
        cases h
        have h := hX76
        refine t_exit ?_
        refine b_exit ?_
        exact j_leaf x62 (Option.some.inj h) (by kernel_rfl)
      · have h := ite_t hb87 h
        refine a_cond_t rfl ?_
        refine a_skip ?_
        refine a_next (σ' := ⟨[(0, (eSi64 a0)), (3, (.int .i64 x62))], []⟩) (by kernel_rfl) ?_
        refine a_block ?_
        refine a_region ?_
        refine a_val (v := (.int .i64 x62)) (u := []) rfl trivial rfl ?_
        refine a_val (v := (.int .i64 (IntKind.i64.wrap (x62 - 1)))) (u := []) rfl trivial rfl ?_
        refine a_val (v := (.int .i64 (IntKind.i64.wrap (x62 - 1)))) (u := []) rfl trivial rfl ?_
        refine a_nil ?_
        refine b_norm ?_
        cases h
        exact a_again (by kernel_rfl) hX76
    · have h := hy82
      refine a_region ?_
      refine a_val (v := (.int .i64 x62)) (u := []) rfl trivial rfl ?_
      refine a_val (v := (.bool ((decide (x62 > 0))))) (u := []) rfl trivial rfl ?_
      refine a_val (v := (.bool ((decide (x62 > 0))))) (u := []) rfl trivial rfl ?_
      cases hb84 : (decide (x62 > 0))
      · have h := ite_f hb84 h
        refine a_gskip rfl ?_
        refine a_gskip rfl ?_
        refine a_gskip rfl ?_
        refine a_gskip rfl ?_
        refine a_gskip rfl ?_
        refine a_gskip rfl ?_
        refine a_val (v := (.bool false)) (u := []) rfl trivial rfl ?_
        refine a_nil ?_
        exact j_leaf false (Option.some.inj h) (by kernel_rfl)
      · have h := ite_t hb84 h
        refine a_gval rfl (v := (eSi64 a0)) (u := []) rfl trivial rfl ?_
        refine a_gval rfl (v := (.int .i64 x62)) (u := []) rfl trivial rfl ?_
        refine a_gval rfl (v := (.int .i64 (IntKind.i64.wrap (x62 - 1)))) (u := []) rfl trivial rfl ?_
        obtain ⟨hc85, h⟩ := ifp_some h
        refine a_gval rfl (v := (.ref (.row 1 (a0.map (AV.int .i64))) [(IntKind.i64.wrap (x62 - 1)).toNat] [(IntKind.i64.wrap (x62 - 1)).toNat * 1])) (u := []) rfl (lmap hc85) rfl ?_
        have hl86 : LdOk [(IntKind.i64.wrap (x62 - 1)).toNat] (.row 1 (a0.map (AV.int .i64))) [(IntKind.i64.wrap (x62 - 1)).toNat * 1] 1 false (.int .i64 ((rd a0 (IntKind.i64.wrap (x62 - 1)).toNat))) := (.row (llt hc85) rfl (.nil rfl rfl rfl))
        refine a_gval rfl (v := (.int .i64 ((rd a0 (IntKind.i64.wrap (x62 - 1)).toNat)))) (u := []) (ld_ref (i := ⟨.int .i64, 1, 8, (.int .i64 0)⟩) rfl rfl hl86) hl86.c rfl ?_
        refine a_gval rfl (v := (.bool ((((rd a0 (IntKind.i64.wrap (x62 - 1)).toNat)) == 0)))) (u := []) rfl trivial rfl ?_
        refine a_val (v := (.bool ((((rd a0 (IntKind.i64.wrap (x62 - 1)).toNat)) == 0)))) (u := []) rfl trivial rfl ?_
        refine a_nil ?_
        exact j_leaf ((((rd a0 (IntKind.i64.wrap (x62 - 1)).toNat)) == 0)) (Option.some.inj h) (by kernel_rfl)
def impl_rowOf_c : ACode := (.seq (.region 0 [⟨some 1, .box 23 (.tmp 0), none, []⟩, ⟨some 2, .asg 1 (.const (.slice none 0 0)) 64, none, []⟩] false) (.seq (.region 1 [⟨some 3, .asg 2 (.const (.slice none 0 0)) 64, none, []⟩] false) (.seq (.seq (.region 2 [⟨some 6, .load 23 (.tmp 1), none, []⟩, ⟨some 7, .mov (.const (.int .i64 0)), none, []⟩] false) (.block 0 (.loop (.seq (.region 3 [⟨some 8, .bin .lss 3 (.tmp 7) (.const (.int .i64 64)), none, []⟩] false) (.seq (.cond (.tmp 8) .skip (.exit 0)) (.seq (.block 1 (.seq (.region 4 [⟨some 9, .index 23 (.tmp 6) (.tmp 7), none, []⟩, ⟨some 5, .asg 0 (.tmp 9) 5, none, []⟩] false) (.region 5 [⟨some 10, .mov (.tmp 3), none, []⟩, ⟨some 11, .mov (.tmp 5), none, []⟩, ⟨some 12, .conv 5 2 (.tmp 11), none, []⟩, ⟨some 13, .bslice 0 64 1 [(0, (.tmp 12))], none, []⟩, ⟨some 14, .blt 0 .append [(.tmp 10), (.tmp 13)] [64, 64], none, []⟩, ⟨some 3, .asg 2 (.tmp 14) 64, none, []⟩] false))) (.region 6 [⟨some 15, .bin .add 3 (.tmp 7) (.const (.int .i64 1)), none, []⟩, ⟨some 7, .mov (.tmp 15), none, []⟩] false))))))) (.seq (.region 7 [⟨some 16, .mov (.tmp 3), none, []⟩, ⟨some 17, .call 0 (.func 111) [(.tmp 16)], none, []⟩, ⟨some 2, .asg 1 (.tmp 17) 64, none, []⟩] false) .ret))))
def impl_rowOf_L : Live := [(0, [0]), (1, [1]), (2, [1, 3]), (3, [3, 6, 7]), (4, [3, 6, 7]), (5, [3, 5, 6, 7]), (6, [3, 6, 7]), (7, [3]), (100008, [3, 6, 7, 8])]
theorem impl_rowOf_body : Try.f72.body = some (Try.f72.body.getD .skip) := by kernel_rfl
theorem impl_rowOf_strip : strip [(2, 1), (3, 2)] (Try.f72.body.getD .skip) = impl_rowOf_c := by kernel_rfl
noncomputable def impl_rowOf_l1 (a0 : (Vec Int 64)) (x25 : Int) (x26 : (List Int)) : Option ((Int × (List Int)) ⊕ (List Int)) :=
  (if (decide (x25 < 64)) then (ifp (0 ≤ x25 ∧ x25 < ((64 : Nat) : Int)) ((ifp ((x26.length + ([IntKind.i64.wrap (rd a0.1 x25.toNat)] : List Int).length) * 8 ≤ 140737488355328) ((some (.inl ((IntKind.i64.wrap (x25 + 1), (x26 ++ ([IntKind.i64.wrap (rd a0.1 x25.toNat)])))))))))) else (some (.inr x26)))
noncomputable def impl_rowOf (a0 : (Vec Int 64)) : Option (List Int) :=
  (Option.bind (α := (List Int)) ((loopM (fun s : (Int × (List Int)) => impl_rowOf_l1 a0 s.1 s.2) (0, []))) fun x17 => (Option.bind (impl_row_trimmed x17) fun r37 => (some r37)))
set_option maxHeartbeats 16000000 in
theorem impl_rowOf_ok (a0 : (Vec Int 64)) (r : (List Int)) (h : impl_rowOf a0 = some r) : Den Try.prog 72 [(eA64u8 a0)] { r := (eSi64 r) } := by
  refine den_of (rs := [(eSi64 r)]) (ac := impl_rowOf_c) (L := impl_rowOf_L) (n := 18) (m := [(2, 1), (3, 2)]) good Try.func72 impl_rowOf_body (by kernel_rfl) Try.ntmps72 rfl rfl impl_rowOf_strip rfl rfl ?_
  refine a_st (σ' := ⟨[(0, (eA64u8 a0))], []⟩) (by kernel_rfl) ?_
  unfold impl_rowOf_c
  refine a_seq ?_
  refine a_region ?_
  refine a_val (v := (.own 1100 [] [])) (u := [(1100, some ⟨(eA64u8 a0), false⟩)]) rfl trivial rfl ?_
  refine a_val (v := (eSi64 ([]))) (u := []) rfl trivial rfl ?_
  refine a_nil ?_
  refine a_next (σ' := ⟨[(1, (.own 1 [] []))], [(1, some ⟨(eA64u8 a0), false⟩)]⟩) (by kernel_rfl) ?_
  refine a_seq ?_
  refine a_region ?_
  refine a_val (v := (.osl 1300)) (u := [(1300, some ⟨(.row 1 (([]).map (AV.int .i64))), false⟩)]) rfl trivial rfl ?_
  refine a_nil ?_
  refine a_next (σ' := ⟨[(1, (.own 1 [] [])), (3, (.osl 3))], [(1, some ⟨(eA64u8 a0), false⟩), (3, some ⟨(.row 1 (([]).map (AV.int .i64))), false⟩)]⟩) (by kernel_rfl) ?_
  obtain ⟨y18, hy19, hk20⟩ := bind_some h
  clear h
  refine a_join (emb := fun (s : (List Int)) => ⟨[(3, (.osl 3))], [(3, some ⟨(.row 1 (s.map (AV.int .i64))), false⟩)]⟩) (pre := fun s => s = y18) ?_ ?_
  · rintro x17 rfl
    have h := hk20
    refine a_st (σ' := ⟨[(3, (.osl 3))], [(3, some ⟨(.row 1 (x17.map (AV.int .i64))), false⟩)]⟩) (by kernel_rfl) ?_
    refine a_seq ?_
    refine a_region ?_
    refine a_val (v := (.osl 3)) (u := []) rfl trivial rfl ?_
    obtain ⟨r37, hr38, h⟩ := bind_some h
    refine a_call (args := [(eSi64 x17)]) (u := [(3, some ⟨(.row 1 (x17.map (AV.int .i64))), true⟩)]) (r := (eSi64 r37)) rfl rfl (impl_row_trimmed_ok x17 r37 hr38) rfl ?_
    refine a_val (v := (eSi64 r37)) (u := []) rfl trivial rfl ?_
    refine a_nil ?_
    refine a_next rfl ?_
    refine a_ret ?_
    refine ⟨.inr rfl, ?_⟩
    rw [Try.results72]
    cases h
    exact ⟨_, _, _, _, _, rfl, trivial, .inl ⟨rfl, .inl rfl⟩, rfl, rfl⟩
  · have h := hy19
    refine a_seq ?_
    refine a_region ?_
    have hl21 : LdOk [] (eA64u8 a0) [] 64 true (eA64u8 a0) := (.nil rfl rfl rfl)
    refine a_val (v := (eA64u8 a0)) (u := []) (ld_own (i := ⟨.arr 64 5, 64, 64, (eA64u8 (vrep 64 (0 : Int)))⟩) rfl rfl rfl hl21) hl21.c rfl ?_
    refine a_val (v := (.int .i64 0)) (u := []) rfl trivial rfl ?_
    refine a_nil ?_
    refine a_next (σ' := ⟨[(3, (.osl 3)), (6, (eA64u8 a0)), (7, (.int .i64 0))], [(3, some ⟨(.row 1 (([]).map (AV.int .i64))), false⟩)]⟩) (by kernel_rfl) ?_
    refine a_block ?_
    refine a_loop (emb := fun (s : (Int × (List Int))) => ⟨[(3, (.osl 3)), (6, (eA64u8 a0)), (7, (.int .i64 s.1))], [(3, some ⟨(.row 1 (s.2.map (AV.int .i64))), false⟩)]⟩) (body := (fun s : (Int × (List Int)) => impl_rowOf_l1 a0 s.1 s.2)) (G := fun q => some q = some y18) h rfl ?_ (by kernel_rfl)
    rintro X30 ⟨x25, x26⟩ x31 h hX32
    have h : impl_rowOf_l1 a0 x25 x26 = some x31 := h
    refine a_st (σ' := ⟨[(3, (.osl 3)), (6, (eA64u8 a0)), (7, (.int .i64 x25))], [(3, some ⟨(.row 1 (x26.map (AV.int .i64))), false⟩)]⟩) (by kernel_rfl) ?_
    refine a_seq ?_
    refine a_region ?_
    refine a_val (v := (.bool ((decide (x25 < 64))))) (u := []) rfl trivial rfl ?_
    refine a_nil ?_
    refine a_next (σ' := ⟨[(3, (.osl 3)), (6, (eA64u8 a0)), (7, (.int .i64 x25)), (8, (.bool ((decide (x25 < 64)))))], [(3, some ⟨(.row 1 (x26.map (AV.int .i64))), false⟩)]⟩) (by kernel_rfl) ?_
    refine a_seq ?_
    cases hb33 : (decide (x25 < 64))
    · have h := ite_f hb33 h
      refine a_cond_f rfl ?_
      refine a_exit ?_
      refine t_exit ?_
      cases h
      have h := hX32
      refine t_exit ?_
      refine b_exit ?_
      exact j_leaf x26 (Option.some.inj h) (by kernel_rfl)
    · have h := ite_t hb33 h
      refine a_cond_t rfl ?_
      refine a_skip ?_
      refine a_next (σ' := ⟨[(3, (.osl 3)), (6, (eA64u8 a0)), (7, (.int .i64 x25))], [(3, some ⟨(.row 1 (x26.map (AV.int .i64))), false⟩)]⟩) (by kernel_rfl) ?_
      refine a_seq ?_
      refine a_block ?_
      refine a_seq ?_
      refine a_region ?_
      obtain ⟨hc34, h⟩ := ifp_some h
      refine a_val (v := (.int .u8 (rd a0.1 x25.toNat))) (u := []) (ix_run (i := ⟨.int .u8, 1, 1, (.int .u8 0)⟩) (f := (AV.int .u8)) rfl rfl rfl rfl (vlt a0 hc34)) ⟨hc34.1, hc34.2, rfl, rfl, rfl, rfl⟩ rfl ?_
      refine a_val (v := (.int .u8 (rd a0.1 x25.toNat))) (u := []) rfl trivial rfl ?_
      refine a_nil ?_
      refine a_next (σ' := ⟨[(3, (.osl 3)), (5, (.int .u8 (rd a0.1 x25.toNat))), (6, (eA64u8 a0)), (7, (.int .i64 x25))], [(3, some ⟨(.row 1 (x26.map (AV.int .i64))), false⟩)]⟩) (by kernel_rfl) ?_
      refine a_region ?_
      refine a_val (v := (.osl 3)) (u := []) rfl trivial rfl ?_
      refine a_val (v := (.int .u8 (rd a0.1 x25.toNat))) (u := []) rfl trivial rfl ?_
      refine a_val (v := (.int .i64 (IntKind.i64.wrap (rd a0.1 x25.toNat)))) (u := []) rfl trivial rfl ?_
      refine a_val (v := (.sl 1 true (([IntKind.i64.wrap (rd a0.1 x25.toNat)]).map (AV.int .i64)))) (u := []) rfl ⟨(Nat.le_of_ble_eq_true rfl), (Nat.le_of_ble_eq_true rfl), (all_cons ⟨(Nat.le_of_ble_eq_true rfl), rfl⟩ all_nil)⟩ rfl ?_
      obtain ⟨hc35, h⟩ := ifp_some h
      refine a_val (v := (.osl 2400)) (u := [(2400, some ⟨(.row 1 (((x26 ++ ([IntKind.i64.wrap (rd a0.1 x25.toNat)]))).map (AV.int .i64))), false⟩), (3, none)]) (app_run (i := ⟨.int .i64, 1, 8, (.int .i64 0)⟩) (f := (AV.int .i64)) (l := x26) (l2 := [IntKind.i64.wrap (rd a0.1 x25.toNat)]) rfl rfl rfl rfl (fun _ => rfl) rfl rfl) (app_c (f := (AV.int .i64)) (s := 1) (sz := 1) (by' := 8) (u := []) (id := 3) hc35 (.inr rfl) rfl rfl rfl) rfl ?_
      refine a_val (v := (.osl 2400)) (u := []) rfl trivial rfl ?_
      refine a_nil ?_
      refine b_norm ?_
      refine a_next (σ' := ⟨[(3, (.osl 3)), (6, (eA64u8 a0)), (7, (.int .i64 x25))], [(3, some ⟨(.row 1 (((x26 ++ ([IntKind.i64.wrap (rd a0.1 x25.toNat)]))).map (AV.int .i64))), false⟩)]⟩) (by kernel_rfl) ?_
      refine a_region ?_
      refine a_val (v := (.int .i64 (IntKind.i64.wrap (x25 + 1)))) (u := []) rfl trivial rfl ?_
      refine a_val (v := (.int .i64 (IntKind.i64.wrap (x25 + 1)))) (u := []) rfl trivial rfl ?_
      refine a_nil ?_
      cases h
      exact a_again (by kernel_rfl) hX32
def impl_within_c : ACode := (.seq (.region 0 [⟨some 6, .asg 0 (.const (.bool false)) 4, none, []⟩] false) (.seq (.region 1 [⟨some 7, .mov (.tmp 1), none, []⟩, ⟨some 8, .mov (.tmp 0), none, []⟩, ⟨some 9, .bin .leq 2 (.tmp 7) (.tmp 8), none, []⟩, ⟨some 10, .mov (.tmp 9), none, []⟩, ⟨some 11, .mov (.tmp 0), some (10, true), []⟩, ⟨some 12, .mov (.tmp 2), some (10, true), []⟩, ⟨some 13, .bin .leq 2 (.tmp 11) (.tmp 12), some (10, true), []⟩, ⟨some 14, .pick (.tmp 10) (.tmp 13) (.const (.bool false)), none, []⟩, ⟨some 6, .asg 0 (.tmp 14) 4, none, []⟩] false) .ret))
def impl_within_L : Live := [(0, [0, 1, 2]), (1, [0, 1, 2])]
theorem impl_within_body : Try.f100.body = some (Try.f100.body.getD .skip) := by kernel_rfl
theorem impl_within_strip : strip [] (Try.f100.body.getD .skip) = impl_within_c := by kernel_rfl
noncomputable def impl_within (a0 : Int) (a1 : Int) (a2 : Int) : Option Bool :=
  (if (decide (a1 ≤ a0)) then (some ((decide (a0 ≤ a2)))) else (some false))
set_option maxHeartbeats 16000000 in
theorem impl_within_ok (a0 : Int) (a1 : Int) (a2 : Int) (r : Bool) (h : impl_within a0 a1 a2 = some r) : Den Try.prog 100 [(.int .i64 a0), (.int .i64 a1), (.int .i64 a2)] { r := (.bool r) } := by
  refine den_of (rs := [(.bool r)]) (ac := impl_within_c) (L := impl_within_L) (n := 15) (m := []) good Try.func100 impl_within_body (by kernel_rfl) Try.ntmps100 rfl rfl impl_within_strip rfl rfl ?_
  refine a_st (σ' := ⟨[(0, (.int .i64 a0)), (1, (.int .i64 a1)), (2, (.int .i64 a2))], []⟩) (by kernel_rfl) ?_
  unfold impl_within_c
  refine a_seq ?_
  refine a_region ?_
  refine a_val (v := (.bool false)) (u := []) rfl trivial rfl ?_
  refine a_nil ?_
  refine a_next (σ' := ⟨[(0, (.int .i64 a0)), (1, (.int .i64 a1)), (2, (.int .i64 a2))], []⟩) (by kernel_rfl) ?_
  refine a_seq ?_
  refine a_region ?_
  refine a_val (v := (.int .i64 a1)) (u := []) rfl trivial rfl ?_
  refine a_val (v := (.int .i64 a0)) (u := []) rfl trivial rfl ?_
  refine a_val (v := (.bool ((decide (a1 ≤ a0))))) (u := []) rfl trivial rfl ?_
  refine a_val (v := (.bool ((decide (a1 ≤ a0))))) (u := []) rfl trivial rfl ?_
  cases hb1 : (decide (a1 ≤ a0))
  · have h := ite_f hb1 h
    refine a_gskip rfl ?_
    refine a_gskip rfl ?_
    refine a_gskip rfl ?_
    refine a_val (v := (.bool false)) (u := []) rfl trivial rfl ?_
    refine a_val (v := (.bool false)) (u := []) rfl trivial rfl ?_
    refine a_nil ?_
    refine a_next rfl ?_
    refine a_ret ?_
    refine ⟨.inr rfl, ?_⟩
    rw [Try.results100]
    cases h
    exact ⟨_, _, _, _, _, rfl, trivial, .inl ⟨rfl, .inl rfl⟩, rfl, rfl⟩
  · have h := ite_t hb1 h
    refine a_gval rfl (v := (.int .i64 a0)) (u := []) rfl trivial rfl ?_
    refine a_gval rfl (v := (.int .i64 a2)) (u := []) rfl trivial rfl ?_
    refine a_gval rfl (v := (.bool ((decide (a0 ≤ a2))))) (u := []) rfl trivial rfl ?_
    refine a_val (v := (.bool ((decide (a0 ≤ a2))))) (u := []) rfl trivial rfl ?_
    refine a_val (v := (.bool ((decide (a0 ≤ a2))))) (u := []) rfl trivial rfl ?_
    refine a_nil ?_
    refine a_next rfl ?_
    refine a_ret ?_
    refine ⟨.inr rfl, ?_⟩
    rw [Try.results100]
    cases h
    exact ⟨_, _, _, _, _, rfl, trivial, .inl ⟨rfl, .inl rfl⟩, rfl, rfl⟩
def impl_isDigits_c : ACode := (.seq (.region 0 [⟨some 2, .asg 0 (.const (.bool false)) 4, none, []⟩] false) (.seq (.region 1 [⟨some 3, .mov (.tmp 0), none, []⟩, ⟨some 4, .call 0 (.func 100) [(.tmp 3), (.const (.int .i64 0)), (.const (.int .i64 40))], none, []⟩, ⟨some 2, .asg 0 (.tmp 4) 4, none, []⟩] false) .ret))
def impl_isDigits_L : Live := [(0, [0]), (1, [0])]
theorem impl_isDigits_body : Try.f88.body = some (Try.f88.body.getD .skip) := by kernel_rfl
theorem impl_isDigits_strip : strip [] (Try.f88.body.getD .skip) = impl_isDigits_c := by kernel_rfl
noncomputable def impl_isDigits (a0 : Int) : Option Bool :=
  (Option.bind (impl_within a0 0 40) fun r1 => (some r1))
set_option maxHeartbeats 16000000 in
theorem impl_isDigits_ok (a0 : Int) (r : Bool) (h : impl_isDigits a0 = some r) : Den Try.prog 88 [(.int .i64 a0)] { r := (.bool r) } := by
  refine den_of (rs := [(.bool r)]) (ac := impl_isDigits_c) (L := impl_isDigits_L) (n := 5) (m := []) good Try.func88 impl_isDigits_body (by kernel_rfl) Try.ntmps88 rfl rfl impl_isDigits_strip rfl rfl ?_
  refine a_st (σ' := ⟨[(0, (.int .i64 a0))], []⟩) (by kernel_rfl) ?_
  unfold impl_isDigits_c
  refine a_seq ?_
  refine a_region ?_
  refine a_val (v := (.bool false)) (u := []) rfl trivial rfl ?_
  refine a_nil ?_
  refine a_next (σ' := ⟨[(0, (.int .i64 a0))], []⟩) (by kernel_rfl) ?_
  refine a_seq ?_
  refine a_region ?_
  refine a_val (v := (.int .i64 a0)) (u := []) rfl trivial rfl ?_
  obtain ⟨r1, hr2, h⟩ := bind_some h
  refine a_call (args := [(.int .i64 a0), (.int .i64 0), (.int .i64 40)]) (u := []) (r := (.bool r1)) rfl rfl (impl_within_ok a0 0 40 r1 hr2) rfl ?_
  refine a_val (v := (.bool r1)) (u := []) rfl trivial rfl ?_
  refine a_nil ?_
  refine a_next rfl ?_
  refine a_ret ?_
  refine ⟨.inr rfl, ?_⟩
  rw [Try.results88]
  cases h
  exact ⟨_, _, _, _, _, rfl, trivial, .inl ⟨rfl, .inl rfl⟩, rfl, rfl⟩
def impl_isPrime_c : ACode := (.seq (.region 0 [⟨some 2, .asg 0 (.const (.bool false)) 4, none, []⟩] false) (.seq (.region 1 [⟨some 3, .mov (.tmp 0), none, []⟩, ⟨some 4, .bin .eql 2 (.tmp 3) (.const (.int .i64 2)), none, []⟩, ⟨some 5, .mov (.tmp 4), none, []⟩, ⟨some 6, .mov (.tmp 0), some (5, false), []⟩, ⟨some 7, .bin .eql 2 (.tmp 6) (.const (.int .i64 3)), some (5, false), []⟩, ⟨some 8, .pick (.tmp 5) (.const (.bool true)) (.tmp 7), none, []⟩, ⟨some 9, .mov (.tmp 8), none, []⟩, ⟨some 10, .mov (.tmp 0), some (9, false), []⟩, ⟨some 11, .bin .eql 2 (.tmp 10) (.const (.int .i64 5)), some (9, false), []⟩, ⟨some 12, .pick (.tmp 9) (.const (.bool true)) (.tmp 11), none, []⟩, ⟨some 13, .mov (.tmp 12), none, []⟩, ⟨some 14, .mov (.tmp 0), some (13, false), []⟩, ⟨some 15, .bin .eql 2 (.tmp 14) (.const (.int .i64 7)), some (13, false), []⟩, ⟨some 16, .pick (.tmp 13) (.const (.bool true)) (.tmp 15), none, []⟩, ⟨some 2, .asg 0 (.tmp 16) 4, none, []⟩] false) .ret))
def impl_isPrime_L : Live := [(0, [0]), (1, [0])]
theorem impl_isPrime_body : Try.f53.body = some (Try.f53.body.getD .skip) := by kernel_rfl
theorem impl_isPrime_strip : strip [] (Try.f53.body.getD .skip) = impl_isPrime_c := by kernel_rfl
noncomputable def impl_isPrime (a0 : Int) : Option Bool :=
  (if (a0 == 2) then (some true) else (if (a0 == 3) then (some true) else (if (a0 == 5) then (some true) else (some (a0 == 7)))))
set_option maxHeartbeats 16000000 in
theorem impl_isPrime_ok (a0 : Int) (r : Bool) (h : impl_isPrime a0 = some r) : Den Try.prog 53 [(.int .i64 a0)] { r := (.bool r) } := by
  refine den_of (rs := [(.bool r)]) (ac := impl_isPrime_c) (L := impl_isPrime_L) (n := 17) (m := []) good Try.func53 impl_isPrime_body (by kernel_rfl) Try.ntmps53 rfl rfl impl_isPrime_strip rfl rfl ?_
  refine a_st (σ' := ⟨[(0, (.int .i64 a0))], []⟩) (by kernel_rfl) ?_
  unfold impl_isPrime_c
  refine a_seq ?_
  refine a_region ?_
  refine a_val (v := (.bool false)) (u := []) rfl trivial rfl ?_
  refine a_nil ?_
  refine a_next (σ' := ⟨[(0, (.int .i64 a0))], []⟩) (by kernel_rfl) ?_
  refine a_seq ?_
  refine a_region ?_
  refine a_val (v := (.int .i64 a0)) (u := []) rfl trivial rfl ?_
  refine a_val (v := (.bool (a0 == 2))) (u := []) rfl trivial rfl ?_
  refine a_val (v := (.bool (a0 == 2))) (u := []) rfl trivial rfl ?_
  cases hb1 : (a0 == 2)
  · have h := ite_f hb1 h
    refine a_gval rfl (v := (.int .i64 a0)) (u := []) rfl trivial rfl ?_
    refine a_gval rfl (v := (.bool (a0 == 3))) (u := []) rfl trivial rfl ?_
    refine a_val (v := (.bool (a0 == 3))) (u := []) rfl trivial rfl ?_
    refine a_val (v := (.bool (a0 == 3))) (u := []) rfl trivial rfl ?_
    cases hb2 : (a0 == 3)
    · have h := ite_f hb2 h
      refine a_gval rfl (v := (.int .i64 a0)) (u := []) rfl trivial rfl ?_
      refine a_gval rfl (v := (.bool (a0 == 5))) (u := []) rfl trivial rfl ?_
      refine a_val (v := (.bool (a0 == 5))) (u := []) rfl trivial rfl ?_
      refine a_val (v := (.bool (a0 == 5))) (u := []) rfl trivial rfl ?_
      cases hb3 : (a0 == 5)
      · have h := ite_f hb3 h
        refine a_gval rfl (v := (.int .i64 a0)) (u := []) rfl trivial rfl ?_
        refine a_gval rfl (v := (.bool (a0 == 7))) (u := []) rfl trivial rfl ?_
        refine a_val (v := (.bool (a0 == 7))) (u := []) rfl trivial rfl ?_
        refine a_val (v := (.bool (a0 == 7))) (u := []) rfl trivial rfl ?_
        refine a_nil ?_
        refine a_next rfl ?_
        refine a_ret ?_
        refine ⟨.inr rfl, ?_⟩
        rw [Try.results53]
        cases h
        exact ⟨_, _, _, _, _, rfl, trivial, .inl ⟨rfl, .inl rfl⟩, rfl, rfl⟩
      · have h := ite_t hb3 h
        refine a_gskip rfl ?_
        refine a_gskip rfl ?_
        refine a_val (v := (.bool true)) (u := []) rfl trivial rfl ?_
        refine a_val (v := (.bool true)) (u := []) rfl trivial rfl ?_
        refine a_nil ?_
        refine a_next rfl ?_
        refine a_ret ?_
        refine ⟨.inr rfl, ?_⟩
        rw [Try.results53]
        cases h
        exact ⟨_, _, _, _, _, rfl, trivial, .inl ⟨rfl, .inl rfl⟩, rfl, rfl⟩
    · have h := ite_t hb2 h
      refine a_gskip rfl ?_
      refine a_gskip rfl ?_
      refine a_val (v := (.bool true)) (u := []) rfl trivial rfl ?_
      refine a_val (v := (.bool true)) (u := []) rfl trivial rfl ?_
      refine a_gskip rfl ?_
      refine a_gskip rfl ?_
      refine a_val (v := (.bool true)) (u := []) rfl trivial rfl ?_
      refine a_val (v := (.bool true)) (u := []) rfl trivial rfl ?_
      refine a_nil ?_
      refine a_next rfl ?_
      refine a_ret ?_
      refine ⟨.inr rfl, ?_⟩
      rw [Try.results53]
      cases h
      exact ⟨_, _, _, _, _, rfl, trivial, .inl ⟨rfl, .inl rfl⟩, rfl, rfl⟩
  · have h := ite_t hb1 h
    refine a_gskip rfl ?_
    refine a_gskip rfl ?_
    refine a_val (v := (.bool true)) (u := []) rfl trivial rfl ?_
    refine a_val (v := (.bool true)) (u := []) rfl trivial rfl ?_
    refine a_gskip rfl ?_
    refine a_gskip rfl ?_
    refine a_val (v := (.bool true)) (u := []) rfl trivial rfl ?_
    refine a_val (v := (.bool true)) (u := []) rfl trivial rfl ?_
    refine a_gskip rfl ?_
    refine a_gskip rfl ?_
    refine a_val (v := (.bool true)) (u := []) rfl trivial rfl ?_
    refine a_val (v := (.bool true)) (u := []) rfl trivial rfl ?_
    refine a_nil ?_
    refine a_next rfl ?_
    refine a_ret ?_
    refine ⟨.inr rfl, ?_⟩
    rw [Try.results53]
    cases h
    exact ⟨_, _, _, _, _, rfl, trivial, .inl ⟨rfl, .inl rfl⟩, rfl, rfl⟩
def impl_isPoly_c1_of_p_c : ACode := (.seq (.region 0 [⟨some 3, .asg 0 (.const (.bool false)) 4, none, []⟩] false) (.seq (.region 1 [⟨some 4, .mov (.tmp 0), none, []⟩, ⟨some 5, .conv 5 2 (.tmp 4), none, []⟩, ⟨some 6, .load 2 (.tmp 1), none, []⟩, ⟨some 7, .bin .lss 2 (.tmp 5) (.tmp 6), none, []⟩, ⟨some 3, .asg 0 (.tmp 7) 4, none, []⟩] false) .ret))
def impl_isPoly_c1_of_p_L : Live := [(0, [0, 1]), (1, [0, 1])]
theorem impl_isPoly_c1_of_p_body : Try.f143.body = some (Try.f143.body.getD .skip) := by kernel_rfl
theorem impl_isPoly_c1_of_p_strip : strip [] (Try.f143.body.getD .skip) = impl_isPoly_c1_of_p_c := by kernel_rfl
noncomputable def impl_isPoly_c1_of_p (a0 : Int) (a1 : Int) : Option Bool :=
  (some ((decide ((IntKind.i64.wrap a0) < a1))))
set_option maxHeartbeats 16000000 in
theorem impl_isPoly_c1_of_p_ok (a0 : Int) (a1 : Int) (r : Bool) (h : impl_isPoly_c1_of_p a0 a1 = some r) : Den Try.prog 143 [(.int .u8 a0), (.ref (.int .i64 a1) [] [])] { r := (.bool r) } := by
  refine den_of (rs := [(.bool r)]) (ac := impl_isPoly_c1_of_p_c) (L := impl_isPoly_c1_of_p_L) (n := 8) (m := []) good Try.func143 impl_isPoly_c1_of_p_body (by kernel_rfl) Try.ntmps143 rfl rfl impl_isPoly_c1_of_p_strip rfl rfl ?_
  refine a_st (σ' := ⟨[(0, (.int .u8 a0)), (1, (.ref (.int .i64 a1) [] []))], []⟩) (by kernel_rfl) ?_
  unfold impl_isPoly_c1_of_p_c
  refine a_seq ?_
  refine a_region ?_
  refine a_val (v := (.bool false)) (u := []) rfl trivial rfl ?_
  refine a_nil ?_
  refine a_next (σ' := ⟨[(0, (.int .u8 a0)), (1, (.ref (.int .i64 a1) [] []))], []⟩) (by kernel_rfl) ?_
  refine a_seq ?_
  refine a_region ?_
  refine a_val (v := (.int .u8 a0)) (u := []) rfl trivial rfl ?_
  refine a_val (v := (.int .i64 (IntKind.i64.wrap a0))) (u := []) rfl trivial rfl ?_
  have hl1 : LdOk [] (.int .i64 a1) [] 1 false (.int .i64 a1) := (.nil rfl rfl rfl)
  refine a_val (v := (.int .i64 a1)) (u := []) (ld_ref (i := ⟨.int .i64, 1, 8, (.int .i64 0)⟩) rfl rfl hl1) hl1.c rfl ?_
  refine a_val (v := (.bool ((decide ((IntKind.i64.wrap a0) < a1))))) (u := []) rfl trivial rfl ?_
  refine a_val (v := (.bool ((decide ((IntKind.i64.wrap a0) < a1))))) (u := []) rfl trivial rfl ?_
  refine a_nil ?_
  refine a_next rfl ?_
  refine a_ret ?_
  refine ⟨.inr rfl, ?_⟩
  rw [Try.results143]
  cases h
  exact ⟨_, _, _, _, _, rfl, trivial, .inl ⟨rfl, .inl rfl⟩, rfl, rfl⟩
def impl_areAll_byte__c1_of_p_c : ACode := (.seq (.region 0 [⟨some 3, .asg 0 (.const (.bool false)) 4, none, []⟩] false) (.seq (.region 1 [⟨some 4, .load 141 (.tmp 1), none, []⟩, ⟨some 5, .mov (.tmp 0), none, []⟩, ⟨some 6, .call 0 (.tmp 4) [(.tmp 5)], none, []⟩, ⟨some 7, .un .not (.tmp 6), none, []⟩, ⟨some 3, .asg 0 (.tmp 7) 4, none, []⟩] false) .ret))
def impl_areAll_byte__c1_of_p_L : Live := [(0, [0, 1]), (1, [0, 1])]
theorem impl_areAll_byte__c1_of_p_body : Try.f159.body = some (Try.f159.body.getD .skip) := by kernel_rfl
theorem impl_areAll_byte__c1_of_p_strip : strip [] (Try.f159.body.getD .skip) = impl_areAll_byte__c1_of_p_c := by kernel_rfl
noncomputable def impl_areAll_byte__c1_of_p (a0 : Int) (a1c0 : Int) : Option Bool :=
  (Option.bind (impl_isPoly_c1_of_p a0 a1c0) fun r2 => (some (!r2)))
set_option maxHeartbeats 16000000 in
theorem impl_areAll_byte__c1_of_p_ok (a0 : Int) (a1c0 : Int) (r : Bool) (h : impl_areAll_byte__c1_of_p a0 a1c0 = some r) : Den Try.prog 159 [(.int .u8 a0), (.ref (.clo 143 [] [(.ref (.int .i64 a1c0) [] [])]) [] [])] { r := (.bool r) } := by
  refine den_of (rs := [(.bool r)]) (ac := impl_areAll_byte__c1_of_p_c) (L := impl_areAll_byte__c1_of_p_L) (n := 8) (m := []) good Try.func159 impl_areAll_byte__c1_of_p_body (by kernel_rfl) Try.ntmps159 rfl rfl impl_areAll_byte__c1_of_p_strip rfl rfl ?_
  refine a_st (σ' := ⟨[(0, (.int .u8 a0)), (1, (.ref (.clo 143 [] [(.ref (.int .i64 a1c0) [] [])]) [] []))], []⟩) (by kernel_rfl) ?_
  unfold impl_areAll_byte__c1_of_p_c
  refine a_seq ?_
  refine a_region ?_
  refine a_val (v := (.bool false)) (u := []) rfl trivial rfl ?_
  refine a_nil ?_
  refine a_next (σ' := ⟨[(0, (.int .u8 a0)), (1, (.ref (.clo 143 [] [(.ref (.int .i64 a1c0) [] [])]) [] []))], []⟩) (by kernel_rfl) ?_
  refine a_seq ?_
  refine a_region ?_
  have hl1 : LdOk [] (.clo 143 [] [(.ref (.int .i64 a1c0) [] [])]) [] 1 false (.clo 143 [] [(.ref (.int .i64 a1c0) [] [])]) := (.nil rfl rfl rfl)
  refine a_val (v := (.clo 143 [] [(.ref (.int .i64 a1c0) [] [])])) (u := []) (ld_ref (i := ⟨.other, 1, 8, (.raw .nilFunc)⟩) rfl rfl hl1) hl1.c rfl ?_
  refine a_val (v := (.int .u8 a0)) (u := []) rfl trivial rfl ?_
  obtain ⟨r2, hr3, h⟩ := bind_some h
  refine a_call (args := [(.int .u8 a0), (.ref (.int .i64 a1c0) [] [])]) (u := []) (r := (.bool r2)) rfl rfl (impl_isPoly_c1_of_p_ok a0 a1c0 r2 hr3) rfl ?_
  refine a_val (v := (.bool (!r2))) (u := []) rfl trivial rfl ?_
  refine a_val (v := (.bool (!r2))) (u := []) rfl trivial rfl ?_
  refine a_nil ?_
  refine a_next rfl ?_
  refine a_ret ?_
  refine ⟨.inr rfl, ?_⟩
  rw [Try.results159]
  cases h
  exact ⟨_, _, _, _, _, rfl, trivial, .inl ⟨rfl, .inl rfl⟩, rfl, rfl⟩
end Go.Proofs.Ytgodhgbnjlflmaa
