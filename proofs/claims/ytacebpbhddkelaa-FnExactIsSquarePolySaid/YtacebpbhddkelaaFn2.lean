/- Functions of the program: plain Lean functions, and that the program computes them. Printed by gen.py. -/
import Derived.Test.YtacebpbhddkelaaFnT
import Derived.Test.YtacebpbhddkelaaFn1
namespace Go.Proofs.Ytacebpbhddkelaa
open Go.Abs Go.Proofs
set_option linter.unusedSimpArgs false
set_option linter.unusedVariables false

def spec_l01Times_c : ACode := (.seq (.region 0 [⟨some 4, .box 23 (.tmp 1), none, []⟩, ⟨some 5, .box 23 (.tmp 2), none, []⟩, ⟨some 6, .alloc 23, none, []⟩, ⟨some 7, .asg 0 (.const (.bool false)) 4, none, []⟩] false) (.seq (.region 1 [⟨some 13, .load 23 (.tmp 4), none, []⟩, ⟨some 14, .call 0 (.func 71) [(.tmp 13)], none, [0]⟩, ⟨some 15, .load 23 (.tmp 5), none, []⟩, ⟨some 16, .call 0 (.func 71) [(.tmp 15)], none, [2, 1]⟩, ⟨some 17, .build 23 [], none, []⟩, ⟨some 10, .alloc 23, none, []⟩, ⟨some 8, .asg 0 (.tmp 14) 2, none, [1, 3, 0, 1, 5]⟩, ⟨some 9, .asg 0 (.tmp 16) 2, none, [3, 6, 0, 1, 2, 3, 5, 6]⟩, ⟨none, .store 23 (.tmp 10) (.tmp 17), none, [5, 4, 7, 0, 1, 2, 3, 4, 5, 6, 7]⟩] true) (.seq (.seq (.region 2 [⟨some 18, .mov (.tmp 8), none, []⟩, ⟨some 19, .bin .lss 2 (.tmp 18) (.const (.int .i64 0)), none, []⟩, ⟨some 20, .mov (.tmp 19), none, []⟩, ⟨some 21, .mov (.tmp 9), some (20, false), []⟩, ⟨some 22, .bin .lss 2 (.tmp 21) (.const (.int .i64 0)), some (20, false), []⟩, ⟨some 23, .pick (.tmp 20) (.const (.bool true)) (.tmp 22), none, []⟩] false) (.cond (.tmp 23) (.seq (.region 3 [⟨some 24, .load 23 (.tmp 10), none, []⟩, ⟨none, .store 23 (.tmp 6) (.tmp 24), none, []⟩, ⟨some 7, .asg 0 (.const (.bool true)) 4, none, []⟩] false) .ret) .skip)) (.seq (.seq (.region 4 [⟨some 25, .mov (.tmp 8), none, []⟩, ⟨some 26, .mov (.tmp 9), none, []⟩, ⟨some 27, .bin .add 2 (.tmp 25) (.tmp 26), none, []⟩, ⟨some 28, .bin .gtr 2 (.tmp 27) (.const (.int .i64 63)), none, []⟩] false) (.cond (.tmp 28) (.seq (.region 5 [⟨some 29, .load 23 (.tmp 10), none, []⟩, ⟨none, .store 23 (.tmp 6) (.tmp 29), none, []⟩, ⟨some 7, .asg 0 (.const (.bool false)) 4, none, []⟩] false) .ret) .skip)) (.seq (.seq (.region 6 [⟨some 11, .asg 0 (.const (.int .i64 0)) 2, none, []⟩] false) (.block 0 (.loop (.seq (.seq (.region 7 [⟨some 30, .mov (.tmp 11), none, []⟩, ⟨some 31, .mov (.tmp 8), none, []⟩, ⟨some 32, .bin .leq 2 (.tmp 30) (.tmp 31), none, []⟩] false) (.cond (.tmp 32) .skip (.exit 0))) (.seq (.block 1 (.seq (.region 9 [⟨some 12, .asg 0 (.const (.int .i64 0)) 2, none, []⟩] false) (.block 2 (.loop (.seq (.seq (.region 10 [⟨some 35, .mov (.tmp 12), none, []⟩, ⟨some 36, .mov (.tmp 9), none, []⟩, ⟨some 37, .bin .leq 2 (.tmp 35) (.tmp 36), none, []⟩, ⟨some 38, .mov (.tmp 37), none, []⟩, ⟨some 39, .mov (.tmp 11), some (38, true), []⟩, ⟨some 40, .indexAddr 23 (.tmp 4) (.tmp 39), some (38, true), []⟩, ⟨some 41, .load 5 (.tmp 40), some (38, true), []⟩, ⟨some 42, .bin .neq 5 (.tmp 41) (.const (.int .u8 0)), some (38, true), []⟩, ⟨some 43, .pick (.tmp 38) (.tmp 42) (.const (.bool false)), none, []⟩] false) (.cond (.tmp 43) .skip (.exit 2))) (.seq (.block 3 (.region 12 [⟨some 46, .mov (.tmp 11), none, []⟩, ⟨some 47, .mov (.tmp 12), none, []⟩, ⟨some 48, .bin .add 2 (.tmp 46) (.tmp 47), none, [0, 1]⟩, ⟨some 49, .mov (.tmp 11), none, []⟩, ⟨some 50, .mov (.tmp 12), none, []⟩, ⟨some 51, .bin .add 2 (.tmp 49) (.tmp 50), none, [3, 4]⟩, ⟨some 52, .indexAddr 23 (.tmp 10) (.tmp 51), none, [5]⟩, ⟨some 53, .load 5 (.tmp 52), none, [6]⟩, ⟨some 54, .conv 5 2 (.tmp 53), none, [7]⟩, ⟨some 55, .mov (.tmp 11), none, []⟩, ⟨some 56, .indexAddr 23 (.tmp 4) (.tmp 55), none, [9]⟩, ⟨some 57, .load 5 (.tmp 56), none, [10]⟩, ⟨some 58, .conv 5 2 (.tmp 57), none, [11]⟩, ⟨some 59, .mov (.tmp 12), none, []⟩, ⟨some 60, .indexAddr 23 (.tmp 5) (.tmp 59), none, [13]⟩, ⟨some 61, .load 5 (.tmp 60), none, [14]⟩, ⟨some 62, .conv 5 2 (.tmp 61), none, [15]⟩, ⟨some 63, .bin .mul 2 (.tmp 58) (.tmp 62), none, [12, 16]⟩, ⟨some 64, .bin .add 2 (.tmp 54) (.tmp 63), none, [8, 17]⟩, ⟨some 65, .mov (.tmp 0), none, []⟩, ⟨some 66, .bin .rem 2 (.tmp 64) (.tmp 65), none, [18, 19]⟩, ⟨some 67, .conv 2 5 (.tmp 66), none, [20]⟩, ⟨some 68, .indexAddr 23 (.tmp 10) (.tmp 48), none, [2, 0, 1, 2, 3, 4, 5, 6, 7, 8, 9, 10, 11, 12, 13, 14, 15, 16, 17, 18, 19, 20, 21]⟩, ⟨none, .store 5 (.tmp 68) (.tmp 67), none, [22, 21, 0, 1, 2, 3, 4, 5, 6, 7, 8, 9, 10, 11, 12, 13, 14, 15, 16, 17, 18, 19, 20, 21]⟩] true)) (.region 11 [⟨some 44, .mov (.tmp 12), none, []⟩, ⟨some 45, .bin .add 2 (.tmp 44) (.const (.int .i64 1)), none, []⟩, ⟨some 12, .asg 0 (.tmp 45) 2, none, []⟩] false))))))) (.region 8 [⟨some 33, .mov (.tmp 11), none, []⟩, ⟨some 34, .bin .add 2 (.tmp 33) (.const (.int .i64 1)), none, []⟩, ⟨some 11, .asg 0 (.tmp 34) 2, none, []⟩] false)))))) (.seq (.region 13 [⟨some 69, .load 23 (.tmp 10), none, []⟩, ⟨none, .store 23 (.tmp 6) (.tmp 69), none, []⟩, ⟨some 7, .asg 0 (.const (.bool true)) 4, none, []⟩] false) .ret))))))
def spec_l01Times_L : Live := [(0, [0, 1, 2]), (1, [0, 4, 5, 6]), (2, [0, 4, 5, 6, 8, 9, 10]), (3, [6, 10]), (4, [0, 4, 5, 6, 8, 9, 10]), (5, [6, 10]), (6, [0, 4, 5, 6, 8, 9, 10]), (7, [0, 4, 5, 6, 8, 9, 10, 11]), (8, [0, 4, 5, 6, 8, 9, 10, 11]), (9, [0, 4, 5, 6, 8, 9, 10, 11]), (10, [0, 4, 5, 6, 8, 9, 10, 11, 12]), (11, [0, 4, 5, 6, 8, 9, 10, 11, 12]), (12, [0, 4, 5, 6, 8, 9, 10, 11, 12]), (13, [6, 10]), (100023, [0, 4, 5, 6, 8, 9, 10, 23]), (100028, [0, 4, 5, 6, 8, 9, 10, 28]), (100032, [0, 4, 5, 6, 8, 9, 10, 11, 32]), (100043, [0, 4, 5, 6, 8, 9, 10, 11, 12, 43])]
theorem spec_l01Times_body : Try.f84.body = some (Try.f84.body.getD .skip) := by kernel_rfl
theorem spec_l01Times_strip : strip [] (Try.f84.body.getD .skip) = spec_l01Times_c := by kernel_rfl
noncomputable def spec_l01Times_l2 (r12 : Int) (x1081 : Int) (a1 : (Vec Int 64)) (a2 : (Vec Int 64)) (a0 : Int) (x1524 : Int) (x1525 : (Vec Int 64)) : Option ((Int × (Vec Int 64)) ⊕ (Vec Int 64)) :=
  (Option.bind (α := Bool) ((if (decide (x1524 ≤ r12)) then (ifp (0 ≤ x1081 ∧ x1081 < ((64 : Nat) : Int)) ((some (((rd a1.1 x1081.toNat) != 0))))) else (some false))) fun x1573 => (if x1573 then (ifp (0 ≤ IntKind.i64.wrap (x1081 + x1524) ∧ IntKind.i64.wrap (x1081 + x1524) < ((64 : Nat) : Int)) ((letp (IntKind.i64.wrap ((rd x1525.1 (IntKind.i64.wrap (x1081 + x1524)).toNat))) fun x1598 => (ifp (0 ≤ x1081 ∧ x1081 < ((64 : Nat) : Int)) ((ifp (0 ≤ x1524 ∧ x1524 < ((64 : Nat) : Int)) ((letp (IntKind.i64.wrap ((IntKind.i64.wrap (rd a1.1 x1081.toNat)) * (IntKind.i64.wrap (rd a2.1 x1524.toNat)))) fun x1604 => (ifp (a0 ≠ 0) ((letp (IntKind.u8.wrap (Int.tmod (IntKind.i64.wrap (x1598 + x1604)) a0)) fun x1607 => (ifp (0 ≤ IntKind.i64.wrap (x1081 + x1524) ∧ IntKind.i64.wrap (x1081 + x1524) < ((64 : Nat) : Int)) ((some (.inl ((IntKind.i64.wrap (x1524 + 1), (vset x1525 (IntKind.i64.wrap (x1081 + x1524)).toNat x1607)))))))))))))))))) else (some (.inr x1525))))
noncomputable def spec_l01Times_l1 (r9 : Int) (r12 : Int) (a1 : (Vec Int 64)) (a2 : (Vec Int 64)) (a0 : Int) (x1081 : Int) (x1082 : (Vec Int 64)) : Option ((Int × (Vec Int 64)) ⊕ (Vec Int 64)) :=
  (if (decide (x1081 ≤ r9)) then (Option.bind (α := (Vec Int 64)) ((loopM (fun s : (Int × (Vec Int 64)) => spec_l01Times_l2 r12 x1081 a1 a2 a0 s.1 s.2) (0, x1082))) fun x1479 => (some (.inl ((IntKind.i64.wrap (x1081 + 1), x1479))))) else (some (.inr x1082)))
noncomputable def spec_l01Times (a0 : Int) (a1 : (Vec Int 64)) (a2 : (Vec Int 64)) : Option ((Vec Int 64) × Bool) :=
  (Option.bind (spec_l01Deg a1) fun r9 => (Option.bind (spec_l01Deg a2) fun r12 => (Option.bind (α := Bool) ((if (decide (r9 < 0)) then (some true) else (some ((decide (r12 < 0)))))) fun x16 => (if x16 then (some (((vrep 64 (0 : Int)), true))) else (if (decide ((IntKind.i64.wrap (r9 + r12)) > 63)) then (some (((vrep 64 (0 : Int)), false))) else (Option.bind (α := (Vec Int 64)) ((loopM (fun s : (Int × (Vec Int 64)) => spec_l01Times_l1 r9 r12 a1 a2 a0 s.1 s.2) (0, (vrep 64 (0 : Int))))) fun x814 => (some (x814, true))))))))
set_option maxHeartbeats 16000000 in
theorem spec_l01Times_ok (a0 : Int) (a1 : (Vec Int 64)) (a2 : (Vec Int 64)) (r : ((Vec Int 64) × Bool)) (h : spec_l01Times a0 a1 a2 = some r) : Den Try.prog 84 [(.int .i64 a0), (eA64u8 a1), (eA64u8 a2)] { r := (.tuple [(eA64u8 r.1), (.bool r.2)]) } := by
  refine den_of (rs := [(eA64u8 r.1), (.bool r.2)]) (ac := spec_l01Times_c) (L := spec_l01Times_L) (n := 70) (m := []) good Try.func84 spec_l01Times_body (by kernel_rfl) Try.ntmps84 rfl rfl spec_l01Times_strip rfl rfl ?_
  refine a_st (σ' := ⟨[(0, (.int .i64 a0)), (1, (eA64u8 a1)), (2, (eA64u8 a2))], []⟩) rfl ?_
  unfold spec_l01Times_c
  refine a_seq ?_
  refine a_region ?_
  refine a_val (v := (.own 1400 [] [])) (u := [(1400, some ⟨(eA64u8 a1), false⟩)]) rfl trivial rfl ?_
  refine a_val (v := (.own 1500 [] [])) (u := [(1500, some ⟨(eA64u8 a2), false⟩)]) rfl trivial rfl ?_
  refine a_val (v := (.own 1600 [] [])) (u := [(1600, some ⟨(eA64u8 ((vrep 64 (0 : Int)))), false⟩)]) rfl trivial rfl ?_
  refine a_val (v := (.bool false)) (u := []) rfl trivial rfl ?_
  refine a_nil ?_
  refine a_next (σ' := ⟨[(0, (.int .i64 a0)), (4, (.own 4 [] [])), (5, (.own 5 [] [])), (6, (.own 6 [] []))], [(4, some ⟨(eA64u8 a1), false⟩), (5, some ⟨(eA64u8 a2), false⟩), (6, some ⟨(eA64u8 ((vrep 64 (0 : Int)))), false⟩)]⟩) rfl ?_
  refine a_seq ?_
  refine a_draw [⟨[4], [], [], []⟩, ⟨[], [], [], [0]⟩, ⟨[5], [], [], []⟩, ⟨[], [], [], [0, 1, 2]⟩, ⟨[], [], [], []⟩, ⟨[2000], [2000], [2000], []⟩, ⟨[], [], [], [0, 1, 2, 3, 5]⟩, ⟨[], [], [], [0, 1, 2, 3, 5, 6]⟩, ⟨[2000], [2000], [], [0, 1, 2, 3, 4, 5, 6, 7]⟩] (by kernel_rfl) ?_
  refine d_cons ?_
  have hl8 : LdOk [] (eA64u8 a1) [] 64 true (eA64u8 a1) := (.nil rfl rfl rfl)
  refine a_val (v := (eA64u8 a1)) (u := []) (ld_own (i := ⟨.arr 64 5, 64, 64, (eA64u8 (vrep 64 (0 : Int)))⟩) rfl rfl rfl hl8) hl8.c rfl ?_
  refine d_next rfl ?_
  refine d_cons ?_
  obtain ⟨r9, hr10, h⟩ := bind_some h
  refine a_call (args := [(eA64u8 a1)]) (u := []) (r := (.int .i64 r9)) rfl rfl (spec_l01Deg_ok a1 r9 hr10) rfl ?_
  refine d_next rfl ?_
  refine d_cons ?_
  have hl11 : LdOk [] (eA64u8 a2) [] 64 true (eA64u8 a2) := (.nil rfl rfl rfl)
  refine a_val (v := (eA64u8 a2)) (u := []) (ld_own (i := ⟨.arr 64 5, 64, 64, (eA64u8 (vrep 64 (0 : Int)))⟩) rfl rfl rfl hl11) hl11.c rfl ?_
  refine d_next rfl ?_
  refine d_cons ?_
  obtain ⟨r12, hr13, h⟩ := bind_some h
  refine a_call (args := [(eA64u8 a2)]) (u := []) (r := (.int .i64 r12)) rfl rfl (spec_l01Deg_ok a2 r12 hr13) rfl ?_
  refine d_next rfl ?_
  refine d_cons ?_
  refine a_val (v := (eA64u8 ((vrep 64 (0 : Int))))) (u := []) rfl ⟨⟨_, rfl, rfl⟩, all_nil⟩ rfl ?_
  refine d_next rfl ?_
  refine d_cons ?_
  refine a_val (v := (.own 2000 [] [])) (u := [(2000, some ⟨(eA64u8 ((vrep 64 (0 : Int)))), false⟩)]) rfl trivial rfl ?_
  refine d_next rfl ?_
  refine d_cons ?_
  refine a_val (v := (.int .i64 r9)) (u := []) rfl trivial rfl ?_
  refine d_next rfl ?_
  refine d_cons ?_
  refine a_val (v := (.int .i64 r12)) (u := []) rfl trivial rfl ?_
  refine d_next rfl ?_
  refine d_cons ?_
  have hs14 : StOk [] (eA64u8 ((vrep 64 (0 : Int)))) [] 64 (eA64u8 ((vrep 64 (0 : Int)))) (eA64u8 ((vrep 64 (0 : Int)))) := (.nil rfl rfl rfl rfl)
  refine a_val (v := .top) (u := [(2000, some ⟨(eA64u8 ((vrep 64 (0 : Int)))), false⟩)]) (st_own (i := ⟨.arr 64 5, 64, 64, (eA64u8 (vrep 64 (0 : Int)))⟩) rfl rfl (fun _ => rfl) rfl hs14) (hs14.c rfl) rfl ?_
  refine d_next rfl ?_
  refine d_nil ?_
  refine a_next (σ' := ⟨[(0, (.int .i64 a0)), (4, (.own 4 [] [])), (5, (.own 5 [] [])), (6, (.own 6 [] [])), (8, (.int .i64 r9)), (9, (.int .i64 r12)), (10, (.own 10 [] []))], [(4, some ⟨(eA64u8 a1), false⟩), (5, some ⟨(eA64u8 a2), false⟩), (6, some ⟨(eA64u8 ((vrep 64 (0 : Int)))), false⟩), (10, some ⟨(eA64u8 ((vrep 64 (0 : Int)))), false⟩)]⟩) rfl ?_
  refine a_seq ?_
  obtain ⟨y17, hy18, hk19⟩ := bind_some h
  clear h
  refine a_join (emb := fun (s : Bool) => ⟨[(0, (.int .i64 a0)), (4, (.own 4 [] [])), (5, (.own 5 [] [])), (6, (.own 6 [] [])), (8, (.int .i64 r9)), (9, (.int .i64 r12)), (10, (.own 10 [] [])), (23, (.bool s))], [(4, some ⟨(eA64u8 a1), false⟩), (5, some ⟨(eA64u8 a2), false⟩), (6, some ⟨(eA64u8 ((vrep 64 (0 : Int)))), false⟩), (10, some ⟨(eA64u8 ((vrep 64 (0 : Int)))), false⟩)]⟩) (pre := fun s => s = y17) ?_ ?_
  · rintro x16 rfl
    have h := hk19
    refine a_st (σ' := ⟨[(0, (.int .i64 a0)), (4, (.own 4 [] [])), (5, (.own 5 [] [])), (6, (.own 6 [] [])), (8, (.int .i64 r9)), (9, (.int .i64 r12)), (10, (.own 10 [] [])), (23, (.bool x16))], [(4, some ⟨(eA64u8 a1), false⟩), (5, some ⟨(eA64u8 a2), false⟩), (6, some ⟨(eA64u8 ((vrep 64 (0 : Int)))), false⟩), (10, some ⟨(eA64u8 ((vrep 64 (0 : Int)))), false⟩)]⟩) rfl ?_
    cases hb21 : x16
    · have h := ite_f hb21 h
      refine a_cond_f rfl ?_
      refine a_skip ?_
      refine a_next (σ' := ⟨[(0, (.int .i64 a0)), (4, (.own 4 [] [])), (5, (.own 5 [] [])), (6, (.own 6 [] [])), (8, (.int .i64 r9)), (9, (.int .i64 r12)), (10, (.own 10 [] []))], [(4, some ⟨(eA64u8 a1), false⟩), (5, some ⟨(eA64u8 a2), false⟩), (6, some ⟨(eA64u8 ((vrep 64 (0 : Int)))), false⟩), (10, some ⟨(eA64u8 ((vrep 64 (0 : Int)))), false⟩)]⟩) rfl ?_
      refine a_seq ?_
      refine a_seq ?_
      refine a_region ?_
      refine a_val (v := (.int .i64 r9)) (u := []) rfl trivial rfl ?_
      refine a_val (v := (.int .i64 r12)) (u := []) rfl trivial rfl ?_
      refine a_val (v := (.int .i64 (IntKind.i64.wrap (r9 + r12)))) (u := []) rfl trivial rfl ?_
      refine a_val (v := (.bool ((decide ((IntKind.i64.wrap (r9 + r12)) > 63))))) (u := []) rfl trivial rfl ?_
      refine a_nil ?_
      refine a_next (σ' := ⟨[(0, (.int .i64 a0)), (4, (.own 4 [] [])), (5, (.own 5 [] [])), (6, (.own 6 [] [])), (8, (.int .i64 r9)), (9, (.int .i64 r12)), (10, (.own 10 [] [])), (28, (.bool ((decide ((IntKind.i64.wrap (r9 + r12)) > 63)))))], [(4, some ⟨(eA64u8 a1), false⟩), (5, some ⟨(eA64u8 a2), false⟩), (6, some ⟨(eA64u8 ((vrep 64 (0 : Int)))), false⟩), (10, some ⟨(eA64u8 ((vrep 64 (0 : Int)))), false⟩)]⟩) rfl ?_
      cases hb22 : (decide ((IntKind.i64.wrap (r9 + r12)) > 63))
      · have h := ite_f hb22 h
        refine a_cond_f rfl ?_
        refine a_skip ?_
        refine a_next (σ' := ⟨[(0, (.int .i64 a0)), (4, (.own 4 [] [])), (5, (.own 5 [] [])), (6, (.own 6 [] [])), (8, (.int .i64 r9)), (9, (.int .i64 r12)), (10, (.own 10 [] []))], [(4, some ⟨(eA64u8 a1), false⟩), (5, some ⟨(eA64u8 a2), false⟩), (6, some ⟨(eA64u8 ((vrep 64 (0 : Int)))), false⟩), (10, some ⟨(eA64u8 ((vrep 64 (0 : Int)))), false⟩)]⟩) rfl ?_
        obtain ⟨y815, hy816, hk817⟩ := bind_some h
        clear h
        refine a_join (emb := fun (s : (Vec Int 64)) => ⟨[(6, (.own 6 [] [])), (10, (.own 10 [] []))], [(6, some ⟨(eA64u8 ((vrep 64 (0 : Int)))), false⟩), (10, some ⟨(eA64u8 s), false⟩)]⟩) (pre := fun s => s = y815) ?_ ?_
        · rintro x814 rfl
          have h := hk817
          refine a_st (σ' := ⟨[(6, (.own 6 [] [])), (10, (.own 10 [] []))], [(6, some ⟨(eA64u8 ((vrep 64 (0 : Int)))), false⟩), (10, some ⟨(eA64u8 x814), false⟩)]⟩) rfl ?_
          refine a_seq ?_
          refine a_region ?_
          have hl1613 : LdOk [] (eA64u8 x814) [] 64 true (eA64u8 x814) := (.nil rfl rfl rfl)
          refine a_val (v := (eA64u8 x814)) (u := []) (ld_own (i := ⟨.arr 64 5, 64, 64, (eA64u8 (vrep 64 (0 : Int)))⟩) rfl rfl rfl hl1613) hl1613.c rfl ?_
          have hs1614 : StOk [] (eA64u8 ((vrep 64 (0 : Int)))) [] 64 (eA64u8 x814) (eA64u8 x814) := (.nil rfl rfl rfl rfl)
          refine a_val (v := .top) (u := [(6, some ⟨(eA64u8 x814), false⟩)]) (st_own (i := ⟨.arr 64 5, 64, 64, (eA64u8 (vrep 64 (0 : Int)))⟩) rfl rfl (fun _ => rfl) rfl hs1614) (hs1614.c rfl) rfl ?_
          refine a_val (v := (.bool true)) (u := []) rfl trivial rfl ?_
          refine a_nil ?_
          refine a_next rfl ?_
          refine a_ret ?_
          have hl1615 : LdOk [] (eA64u8 x814) [] 64 true (eA64u8 x814) := (.nil rfl rfl rfl)
          refine ⟨.inr rfl, ?_⟩
          rw [Try.results84]
          cases h
          exact ⟨_, _, _, _, _, ld_own (i := ⟨.arr 64 5, 64, 64, (eA64u8 (vrep 64 (0 : Int)))⟩) rfl rfl rfl hl1615, hl1615.c, .inl ⟨rfl, .inl rfl⟩, rfl, ⟨_, _, _, _, _, rfl, trivial, .inl ⟨rfl, .inl rfl⟩, rfl, rfl⟩⟩
        · have h := hy816
          refine a_seq ?_
          refine a_region ?_
          refine a_val (v := (.int .i64 0)) (u := []) rfl trivial rfl ?_
          refine a_nil ?_
          refine a_next (σ' := ⟨[(0, (.int .i64 a0)), (4, (.own 4 [] [])), (5, (.own 5 [] [])), (6, (.own 6 [] [])), (8, (.int .i64 r9)), (9, (.int .i64 r12)), (10, (.own 10 [] [])), (11, (.int .i64 0))], [(4, some ⟨(eA64u8 a1), false⟩), (5, some ⟨(eA64u8 a2), false⟩), (6, some ⟨(eA64u8 ((vrep 64 (0 : Int)))), false⟩), (10, some ⟨(eA64u8 ((vrep 64 (0 : Int)))), false⟩)]⟩) rfl ?_
          refine a_block ?_
          refine a_loop (emb := fun (s : (Int × (Vec Int 64))) => ⟨[(0, (.int .i64 a0)), (4, (.own 4 [] [])), (5, (.own 5 [] [])), (6, (.own 6 [] [])), (8, (.int .i64 r9)), (9, (.int .i64 r12)), (10, (.own 10 [] [])), (11, (.int .i64 s.1))], [(4, some ⟨(eA64u8 a1), false⟩), (5, some ⟨(eA64u8 a2), false⟩), (6, some ⟨(eA64u8 ((vrep 64 (0 : Int)))), false⟩), (10, some ⟨(eA64u8 s.2), false⟩)]⟩) (body := (fun s : (Int × (Vec Int 64)) => spec_l01Times_l1 r9 r12 a1 a2 a0 s.1 s.2)) (G := fun q => some q = some y815) h rfl ?_ rfl
          rintro X1346 ⟨x1081, x1082⟩ x1347 h hX1348
          have h : spec_l01Times_l1 r9 r12 a1 a2 a0 x1081 x1082 = some x1347 := h
          refine a_st (σ' := ⟨[(0, (.int .i64 a0)), (4, (.own 4 [] [])), (5, (.own 5 [] [])), (6, (.own 6 [] [])), (8, (.int .i64 r9)), (9, (.int .i64 r12)), (10, (.own 10 [] [])), (11, (.int .i64 x1081))], [(4, some ⟨(eA64u8 a1), false⟩), (5, some ⟨(eA64u8 a2), false⟩), (6, some ⟨(eA64u8 ((vrep 64 (0 : Int)))), false⟩), (10, some ⟨(eA64u8 x1082), false⟩)]⟩) rfl ?_
          refine a_seq ?_
          refine a_seq ?_
          refine a_region ?_
          refine a_val (v := (.int .i64 x1081)) (u := []) rfl trivial rfl ?_
          refine a_val (v := (.int .i64 r9)) (u := []) rfl trivial rfl ?_
          refine a_val (v := (.bool ((decide (x1081 ≤ r9))))) (u := []) rfl trivial rfl ?_
          refine a_nil ?_
          refine a_next (σ' := ⟨[(0, (.int .i64 a0)), (4, (.own 4 [] [])), (5, (.own 5 [] [])), (6, (.own 6 [] [])), (8, (.int .i64 r9)), (9, (.int .i64 r12)), (10, (.own 10 [] [])), (11, (.int .i64 x1081)), (32, (.bool ((decide (x1081 ≤ r9)))))], [(4, some ⟨(eA64u8 a1), false⟩), (5, some ⟨(eA64u8 a2), false⟩), (6, some ⟨(eA64u8 ((vrep 64 (0 : Int)))), false⟩), (10, some ⟨(eA64u8 x1082), false⟩)]⟩) rfl ?_
          cases hb1349 : (decide (x1081 ≤ r9))
          · have h := ite_f hb1349 h
            refine a_cond_f rfl ?_
            refine a_exit ?_
            refine t_exit ?_
            cases h
            have h := hX1348
            refine t_exit ?_
            refine b_exit ?_
            exact j_leaf x1082 (Option.some.inj h) rfl
          · have h := ite_t hb1349 h
            refine a_cond_t rfl ?_
            refine a_skip ?_
            refine a_next (σ' := ⟨[(0, (.int .i64 a0)), (4, (.own 4 [] [])), (5, (.own 5 [] [])), (6, (.own 6 [] [])), (8, (.int .i64 r9)), (9, (.int .i64 r12)), (10, (.own 10 [] [])), (11, (.int .i64 x1081))], [(4, some ⟨(eA64u8 a1), false⟩), (5, some ⟨(eA64u8 a2), false⟩), (6, some ⟨(eA64u8 ((vrep 64 (0 : Int)))), false⟩), (10, some ⟨(eA64u8 x1082), false⟩)]⟩) rfl ?_
            obtain ⟨y1480, hy1481, hk1482⟩ := bind_some h
            clear h
            refine a_join (emb := fun (s : (Vec Int 64)) => ⟨[(0, (.int .i64 a0)), (4, (.own 4 [] [])), (5, (.own 5 [] [])), (6, (.own 6 [] [])), (8, (.int .i64 r9)), (9, (.int .i64 r12)), (10, (.own 10 [] [])), (11, (.int .i64 x1081))], [(4, some ⟨(eA64u8 a1), false⟩), (5, some ⟨(eA64u8 a2), false⟩), (6, some ⟨(eA64u8 ((vrep 64 (0 : Int)))), false⟩), (10, some ⟨(eA64u8 s), false⟩)]⟩) (pre := fun s => s = y1480) ?_ ?_
            · rintro x1479 rfl
              have h := hk1482
              refine a_st (σ' := ⟨[(0, (.int .i64 a0)), (4, (.own 4 [] [])), (5, (.own 5 [] [])), (6, (.own 6 [] [])), (8, (.int .i64 r9)), (9, (.int .i64 r12)), (10, (.own 10 [] [])), (11, (.int .i64 x1081))], [(4, some ⟨(eA64u8 a1), false⟩), (5, some ⟨(eA64u8 a2), false⟩), (6, some ⟨(eA64u8 ((vrep 64 (0 : Int)))), false⟩), (10, some ⟨(eA64u8 x1479), false⟩)]⟩) rfl ?_
              refine a_region ?_
              refine a_val (v := (.int .i64 x1081)) (u := []) rfl trivial rfl ?_
              refine a_val (v := (.int .i64 (IntKind.i64.wrap (x1081 + 1)))) (u := []) rfl trivial rfl ?_
              refine a_val (v := (.int .i64 (IntKind.i64.wrap (x1081 + 1)))) (u := []) rfl trivial rfl ?_
              refine a_nil ?_
              cases h
              exact a_again rfl hX1348
            · have h := hy1481
              refine a_block ?_
              refine a_seq ?_
              refine a_region ?_
              refine a_val (v := (.int .i64 0)) (u := []) rfl trivial rfl ?_
              refine a_nil ?_
              refine a_next (σ' := ⟨[(0, (.int .i64 a0)), (4, (.own 4 [] [])), (5, (.own 5 [] [])), (6, (.own 6 [] [])), (8, (.int .i64 r9)), (9, (.int .i64 r12)), (10, (.own 10 [] [])), (11, (.int .i64 x1081)), (12, (.int .i64 0))], [(4, some ⟨(eA64u8 a1), false⟩), (5, some ⟨(eA64u8 a2), false⟩), (6, some ⟨(eA64u8 ((vrep 64 (0 : Int)))), false⟩), (10, some ⟨(eA64u8 x1082), false⟩)]⟩) rfl ?_
              refine a_block ?_
              refine a_loop (emb := fun (s : (Int × (Vec Int 64))) => ⟨[(0, (.int .i64 a0)), (4, (.own 4 [] [])), (5, (.own 5 [] [])), (6, (.own 6 [] [])), (8, (.int .i64 r9)), (9, (.int .i64 r12)), (10, (.own 10 [] [])), (11, (.int .i64 x1081)), (12, (.int .i64 s.1))], [(4, some ⟨(eA64u8 a1), false⟩), (5, some ⟨(eA64u8 a2), false⟩), (6, some ⟨(eA64u8 ((vrep 64 (0 : Int)))), false⟩), (10, some ⟨(eA64u8 s.2), false⟩)]⟩) (body := (fun s : (Int × (Vec Int 64)) => spec_l01Times_l2 r12 x1081 a1 a2 a0 s.1 s.2)) (G := fun q => some q = some y1480) h rfl ?_ rfl
              rintro X1567 ⟨x1524, x1525⟩ x1568 h hX1569
              have h : spec_l01Times_l2 r12 x1081 a1 a2 a0 x1524 x1525 = some x1568 := h
              refine a_st (σ' := ⟨[(0, (.int .i64 a0)), (4, (.own 4 [] [])), (5, (.own 5 [] [])), (6, (.own 6 [] [])), (8, (.int .i64 r9)), (9, (.int .i64 r12)), (10, (.own 10 [] [])), (11, (.int .i64 x1081)), (12, (.int .i64 x1524))], [(4, some ⟨(eA64u8 a1), false⟩), (5, some ⟨(eA64u8 a2), false⟩), (6, some ⟨(eA64u8 ((vrep 64 (0 : Int)))), false⟩), (10, some ⟨(eA64u8 x1525), false⟩)]⟩) rfl ?_
              refine a_seq ?_
              obtain ⟨y1574, hy1575, hk1576⟩ := bind_some h
              clear h
              refine a_join (emb := fun (s : Bool) => ⟨[(0, (.int .i64 a0)), (4, (.own 4 [] [])), (5, (.own 5 [] [])), (6, (.own 6 [] [])), (8, (.int .i64 r9)), (9, (.int .i64 r12)), (10, (.own 10 [] [])), (11, (.int .i64 x1081)), (12, (.int .i64 x1524)), (43, (.bool s))], [(4, some ⟨(eA64u8 a1), false⟩), (5, some ⟨(eA64u8 a2), false⟩), (6, some ⟨(eA64u8 ((vrep 64 (0 : Int)))), false⟩), (10, some ⟨(eA64u8 x1525), false⟩)]⟩) (pre := fun s => s = y1574) ?_ ?_
              · rintro x1573 rfl
                have h := hk1576
                refine a_st (σ' := ⟨[(0, (.int .i64 a0)), (4, (.own 4 [] [])), (5, (.own 5 [] [])), (6, (.own 6 [] [])), (8, (.int .i64 r9)), (9, (.int .i64 r12)), (10, (.own 10 [] [])), (11, (.int .i64 x1081)), (12, (.int .i64 x1524)), (43, (.bool x1573))], [(4, some ⟨(eA64u8 a1), false⟩), (5, some ⟨(eA64u8 a2), false⟩), (6, some ⟨(eA64u8 ((vrep 64 (0 : Int)))), false⟩), (10, some ⟨(eA64u8 x1525), false⟩)]⟩) rfl ?_
                cases hb1580 : x1573
                · have h := ite_f hb1580 h
                  refine a_cond_f rfl ?_
                  refine a_exit ?_
                  refine t_exit ?_
                  cases h
                  have h := hX1569
                  refine t_exit ?_
                  refine b_exit ?_
                  refine b_norm ?_
                  exact j_leaf x1525 (Option.some.inj h) rfl
                · have h := ite_t hb1580 h
                  refine a_cond_t rfl ?_
                  refine a_skip ?_
                  refine a_next (σ' := ⟨[(0, (.int .i64 a0)), (4, (.own 4 [] [])), (5, (.own 5 [] [])), (6, (.own 6 [] [])), (8, (.int .i64 r9)), (9, (.int .i64 r12)), (10, (.own 10 [] [])), (11, (.int .i64 x1081)), (12, (.int .i64 x1524))], [(4, some ⟨(eA64u8 a1), false⟩), (5, some ⟨(eA64u8 a2), false⟩), (6, some ⟨(eA64u8 ((vrep 64 (0 : Int)))), false⟩), (10, some ⟨(eA64u8 x1525), false⟩)]⟩) rfl ?_
                  refine a_seq ?_
                  refine a_block ?_
                  refine a_draw [⟨[], [], [], []⟩, ⟨[], [], [], []⟩, ⟨[], [], [], [0, 1]⟩, ⟨[], [], [], []⟩, ⟨[], [], [], []⟩, ⟨[], [], [], [3, 4]⟩, ⟨[10], [], [10], [3, 4, 5]⟩, ⟨[10], [], [], [3, 4, 5, 6]⟩, ⟨[], [], [], [3, 4, 5, 6, 7]⟩, ⟨[], [], [], []⟩, ⟨[4], [], [4], [9]⟩, ⟨[4], [], [], [9, 10]⟩, ⟨[], [], [], [9, 10, 11]⟩, ⟨[], [], [], []⟩, ⟨[5], [], [5], [13]⟩, ⟨[5], [], [], [13, 14]⟩, ⟨[], [], [], [13, 14, 15]⟩, ⟨[], [], [], [9, 10, 11, 12, 13, 14, 15, 16]⟩, ⟨[], [], [], [3, 4, 5, 6, 7, 8, 9, 10, 11, 12, 13, 14, 15, 16, 17]⟩, ⟨[], [], [], []⟩, ⟨[], [], [], [3, 4, 5, 6, 7, 8, 9, 10, 11, 12, 13, 14, 15, 16, 17, 18, 19]⟩, ⟨[], [], [], [3, 4, 5, 6, 7, 8, 9, 10, 11, 12, 13, 14, 15, 16, 17, 18, 19, 20]⟩, ⟨[10], [], [10], [0, 1, 2, 3, 4, 5, 6, 7, 8, 9, 10, 11, 12, 13, 14, 15, 16, 17, 18, 19, 20, 21]⟩, ⟨[10], [10], [], [0, 1, 2, 3, 4, 5, 6, 7, 8, 9, 10, 11, 12, 13, 14, 15, 16, 17, 18, 19, 20, 21, 22]⟩] (by kernel_rfl) ?_
                  refine d_cons ?_
                  refine a_val (v := (.int .i64 x1081)) (u := []) rfl trivial rfl ?_
                  refine d_next rfl ?_
                  refine d_cons ?_
                  refine a_val (v := (.int .i64 x1524)) (u := []) rfl trivial rfl ?_
                  refine d_next rfl ?_
                  refine d_cons ?_
                  refine a_val (v := (.int .i64 (IntKind.i64.wrap (x1081 + x1524)))) (u := []) rfl trivial rfl ?_
                  refine d_next rfl ?_
                  refine d_cons ?_
                  refine a_val (v := (.int .i64 x1081)) (u := []) rfl trivial rfl ?_
                  refine d_next rfl ?_
                  refine d_cons ?_
                  refine a_val (v := (.int .i64 x1524)) (u := []) rfl trivial rfl ?_
                  refine d_next rfl ?_
                  refine d_cons ?_
                  refine a_val (v := (.int .i64 (IntKind.i64.wrap (x1081 + x1524)))) (u := []) rfl trivial rfl ?_
                  refine d_next rfl ?_
                  refine d_cons ?_
                  obtain ⟨hc1596, h⟩ := ifp_some h
                  refine a_val (v := (.own 10 [(IntKind.i64.wrap (x1081 + x1524)).toNat] [(IntKind.i64.wrap (x1081 + x1524)).toNat * 1])) (u := []) rfl hc1596 rfl ?_
                  refine d_next rfl ?_
                  refine d_cons ?_
                  have hl1597 : LdOk [(IntKind.i64.wrap (x1081 + x1524)).toNat] (eA64u8 x1525) [(IntKind.i64.wrap (x1081 + x1524)).toNat * 1] 1 false (.int .u8 ((rd x1525.1 (IntKind.i64.wrap (x1081 + x1524)).toNat))) := (.arr (vlt x1525 hc1596) rfl (.nil rfl rfl rfl))
                  refine a_val (v := (.int .u8 ((rd x1525.1 (IntKind.i64.wrap (x1081 + x1524)).toNat)))) (u := []) (ld_own (i := ⟨.int .u8, 1, 1, (.int .u8 0)⟩) rfl rfl rfl hl1597) hl1597.c rfl ?_
                  refine d_next rfl ?_
                  refine d_cons ?_
                  obtain ⟨x1598, hx1599, h⟩ := letp_some h
                  refine a_val' (v := (.int .i64 (IntKind.i64.wrap ((rd x1525.1 (IntKind.i64.wrap (x1081 + x1524)).toNat))))) (v' := (.int .i64 x1598)) (u := []) (u' := []) rfl (congrArg (fun z => ((.int .i64 z) : AV)) hx1599) rfl trivial rfl ?_
                  refine d_next rfl ?_
                  refine d_cons ?_
                  refine a_val (v := (.int .i64 x1081)) (u := []) rfl trivial rfl ?_
                  refine d_next rfl ?_
                  refine d_cons ?_
                  obtain ⟨hc1600, h⟩ := ifp_some h
                  refine a_val (v := (.own 4 [x1081.toNat] [x1081.toNat * 1])) (u := []) rfl hc1600 rfl ?_
                  refine d_next rfl ?_
                  refine d_cons ?_
                  have hl1601 : LdOk [x1081.toNat] (eA64u8 a1) [x1081.toNat * 1] 1 false (.int .u8 (rd a1.1 x1081.toNat)) := (.arr (vlt a1 hc1600) rfl (.nil rfl rfl rfl))
                  refine a_val (v := (.int .u8 (rd a1.1 x1081.toNat))) (u := []) (ld_own (i := ⟨.int .u8, 1, 1, (.int .u8 0)⟩) rfl rfl rfl hl1601) hl1601.c rfl ?_
                  refine d_next rfl ?_
                  refine d_cons ?_
                  refine a_val (v := (.int .i64 (IntKind.i64.wrap (rd a1.1 x1081.toNat)))) (u := []) rfl trivial rfl ?_
                  refine d_next rfl ?_
                  refine d_cons ?_
                  refine a_val (v := (.int .i64 x1524)) (u := []) rfl trivial rfl ?_
                  refine d_next rfl ?_
                  refine d_cons ?_
                  obtain ⟨hc1602, h⟩ := ifp_some h
                  refine a_val (v := (.own 5 [x1524.toNat] [x1524.toNat * 1])) (u := []) rfl hc1602 rfl ?_
                  refine d_next rfl ?_
                  refine d_cons ?_
                  have hl1603 : LdOk [x1524.toNat] (eA64u8 a2) [x1524.toNat * 1] 1 false (.int .u8 (rd a2.1 x1524.toNat)) := (.arr (vlt a2 hc1602) rfl (.nil rfl rfl rfl))
                  refine a_val (v := (.int .u8 (rd a2.1 x1524.toNat))) (u := []) (ld_own (i := ⟨.int .u8, 1, 1, (.int .u8 0)⟩) rfl rfl rfl hl1603) hl1603.c rfl ?_
                  refine d_next rfl ?_
                  refine d_cons ?_
                  refine a_val (v := (.int .i64 (IntKind.i64.wrap (rd a2.1 x1524.toNat)))) (u := []) rfl trivial rfl ?_
                  refine d_next rfl ?_
                  refine d_cons ?_
                  obtain ⟨x1604, hx1605, h⟩ := letp_some h
                  refine a_val' (v := (.int .i64 (IntKind.i64.wrap ((IntKind.i64.wrap (rd a1.1 x1081.toNat)) * (IntKind.i64.wrap (rd a2.1 x1524.toNat)))))) (v' := (.int .i64 x1604)) (u := []) (u' := []) rfl (congrArg (fun z => ((.int .i64 z) : AV)) hx1605) rfl trivial rfl ?_
                  refine d_next rfl ?_
                  refine d_cons ?_
                  refine a_val (v := (.int .i64 (IntKind.i64.wrap (x1598 + x1604)))) (u := []) rfl trivial rfl ?_
                  refine d_next rfl ?_
                  refine d_cons ?_
                  refine a_val (v := (.int .i64 a0)) (u := []) rfl trivial rfl ?_
                  refine d_next rfl ?_
                  refine d_cons ?_
                  obtain ⟨hc1606, h⟩ := ifp_some h
                  refine a_val (v := (.int .i64 (Int.tmod (IntKind.i64.wrap (x1598 + x1604)) a0))) (u := []) rfl hc1606 rfl ?_
                  refine d_next rfl ?_
                  refine d_cons ?_
                  obtain ⟨x1607, hx1608, h⟩ := letp_some h
                  refine a_val' (v := (.int .u8 (IntKind.u8.wrap (Int.tmod (IntKind.i64.wrap (x1598 + x1604)) a0)))) (v' := (.int .u8 x1607)) (u := []) (u' := []) rfl (congrArg (fun z => ((.int .u8 z) : AV)) hx1608) rfl trivial rfl ?_
                  refine d_next rfl ?_
                  refine d_cons ?_
                  obtain ⟨hc1609, h⟩ := ifp_some h
                  refine a_val (v := (.own 10 [(IntKind.i64.wrap (x1081 + x1524)).toNat] [(IntKind.i64.wrap (x1081 + x1524)).toNat * 1])) (u := []) rfl hc1609 rfl ?_
                  refine d_next rfl ?_
                  refine d_cons ?_
                  have hs1610 : StOk [(IntKind.i64.wrap (x1081 + x1524)).toNat] (eA64u8 x1525) [(IntKind.i64.wrap (x1081 + x1524)).toNat * 1] 1 (.int .u8 x1607) (eA64u8 ((vset x1525 (IntKind.i64.wrap (x1081 + x1524)).toNat x1607))) := (.arr (y := x1607) (vlt x1525 hc1609) rfl (.nil rfl rfl rfl rfl))
                  refine a_val (v := .top) (u := [(10, some ⟨(eA64u8 ((vset x1525 (IntKind.i64.wrap (x1081 + x1524)).toNat x1607))), false⟩)]) (st_own (i := ⟨.int .u8, 1, 1, (.int .u8 0)⟩) rfl rfl (fun _ => rfl) rfl hs1610) (hs1610.c rfl) rfl ?_
                  refine d_next rfl ?_
                  refine d_nil ?_
                  refine b_norm ?_
                  refine a_next (σ' := ⟨[(0, (.int .i64 a0)), (4, (.own 4 [] [])), (5, (.own 5 [] [])), (6, (.own 6 [] [])), (8, (.int .i64 r9)), (9, (.int .i64 r12)), (10, (.own 10 [] [])), (11, (.int .i64 x1081)), (12, (.int .i64 x1524))], [(4, some ⟨(eA64u8 a1), false⟩), (5, some ⟨(eA64u8 a2), false⟩), (6, some ⟨(eA64u8 ((vrep 64 (0 : Int)))), false⟩), (10, some ⟨(eA64u8 ((vset x1525 (IntKind.i64.wrap (x1081 + x1524)).toNat x1607))), false⟩)]⟩) rfl ?_
                  refine a_region ?_
                  refine a_val (v := (.int .i64 x1524)) (u := []) rfl trivial rfl ?_
                  refine a_val (v := (.int .i64 (IntKind.i64.wrap (x1524 + 1)))) (u := []) rfl trivial rfl ?_
                  refine a_val (v := (.int .i64 (IntKind.i64.wrap (x1524 + 1)))) (u := []) rfl trivial rfl ?_
                  refine a_nil ?_
                  cases h
                  exact a_again rfl hX1569
              · have h := hy1575
                refine a_region ?_
                refine a_val (v := (.int .i64 x1524)) (u := []) rfl trivial rfl ?_
                refine a_val (v := (.int .i64 r12)) (u := []) rfl trivial rfl ?_
                refine a_val (v := (.bool ((decide (x1524 ≤ r12))))) (u := []) rfl trivial rfl ?_
                refine a_val (v := (.bool ((decide (x1524 ≤ r12))))) (u := []) rfl trivial rfl ?_
                cases hb1577 : (decide (x1524 ≤ r12))
                · have h := ite_f hb1577 h
                  refine a_gskip rfl ?_
                  refine a_gskip rfl ?_
                  refine a_gskip rfl ?_
                  refine a_gskip rfl ?_
                  refine a_val (v := (.bool false)) (u := []) rfl trivial rfl ?_
                  refine a_nil ?_
                  exact j_leaf false (Option.some.inj h) rfl
                · have h := ite_t hb1577 h
                  refine a_gval rfl (v := (.int .i64 x1081)) (u := []) rfl trivial rfl ?_
                  obtain ⟨hc1578, h⟩ := ifp_some h
                  refine a_gval rfl (v := (.own 4 [x1081.toNat] [x1081.toNat * 1])) (u := []) rfl hc1578 rfl ?_
                  have hl1579 : LdOk [x1081.toNat] (eA64u8 a1) [x1081.toNat * 1] 1 false (.int .u8 (rd a1.1 x1081.toNat)) := (.arr (vlt a1 hc1578) rfl (.nil rfl rfl rfl))
                  refine a_gval rfl (v := (.int .u8 (rd a1.1 x1081.toNat))) (u := []) (ld_own (i := ⟨.int .u8, 1, 1, (.int .u8 0)⟩) rfl rfl rfl hl1579) hl1579.c rfl ?_
                  refine a_gval rfl (v := (.bool (((rd a1.1 x1081.toNat) != 0)))) (u := []) rfl trivial rfl ?_
                  refine a_val (v := (.bool (((rd a1.1 x1081.toNat) != 0)))) (u := []) rfl trivial rfl ?_
                  refine a_nil ?_
                  exact j_leaf (((rd a1.1 x1081.toNat) != 0)) (Option.some.inj h) rfl
      · have h := ite_t hb22 h
        refine a_cond_t rfl ?_
        refine a_seq ?_
        refine a_region ?_
        have hl1616 : LdOk [] (eA64u8 ((vrep 64 (0 : Int)))) [] 64 true (eA64u8 ((vrep 64 (0 : Int)))) := (.nil rfl rfl rfl)
        refine a_val (v := (eA64u8 ((vrep 64 (0 : Int))))) (u := []) (ld_own (i := ⟨.arr 64 5, 64, 64, (eA64u8 (vrep 64 (0 : Int)))⟩) rfl rfl rfl hl1616) hl1616.c rfl ?_
        have hs1617 : StOk [] (eA64u8 ((vrep 64 (0 : Int)))) [] 64 (eA64u8 ((vrep 64 (0 : Int)))) (eA64u8 ((vrep 64 (0 : Int)))) := (.nil rfl rfl rfl rfl)
        refine a_val (v := .top) (u := [(6, some ⟨(eA64u8 ((vrep 64 (0 : Int)))), false⟩)]) (st_own (i := ⟨.arr 64 5, 64, 64, (eA64u8 (vrep 64 (0 : Int)))⟩) rfl rfl (fun _ => rfl) rfl hs1617) (hs1617.c rfl) rfl ?_
        refine a_val (v := (.bool false)) (u := []) rfl trivial rfl ?_
        refine a_nil ?_
        refine a_next rfl ?_
        refine a_ret ?_
        refine t_ret ?_
        have hl1618 : LdOk [] (eA64u8 ((vrep 64 (0 : Int)))) [] 64 true (eA64u8 ((vrep 64 (0 : Int)))) := (.nil rfl rfl rfl)
        refine ⟨.inr rfl, ?_⟩
        rw [Try.results84]
        cases h
        exact ⟨_, _, _, _, _, ld_own (i := ⟨.arr 64 5, 64, 64, (eA64u8 (vrep 64 (0 : Int)))⟩) rfl rfl rfl hl1618, hl1618.c, .inl ⟨rfl, .inl rfl⟩, rfl, ⟨_, _, _, _, _, rfl, trivial, .inl ⟨rfl, .inl rfl⟩, rfl, rfl⟩⟩
    · have h := ite_t hb21 h
      refine a_cond_t rfl ?_
      refine a_seq ?_
      refine a_region ?_
      have hl1619 : LdOk [] (eA64u8 ((vrep 64 (0 : Int)))) [] 64 true (eA64u8 ((vrep 64 (0 : Int)))) := (.nil rfl rfl rfl)
      refine a_val (v := (eA64u8 ((vrep 64 (0 : Int))))) (u := []) (ld_own (i := ⟨.arr 64 5, 64, 64, (eA64u8 (vrep 64 (0 : Int)))⟩) rfl rfl rfl hl1619) hl1619.c rfl ?_
      have hs1620 : StOk [] (eA64u8 ((vrep 64 (0 : Int)))) [] 64 (eA64u8 ((vrep 64 (0 : Int)))) (eA64u8 ((vrep 64 (0 : Int)))) := (.nil rfl rfl rfl rfl)
      refine a_val (v := .top) (u := [(6, some ⟨(eA64u8 ((vrep 64 (0 : Int)))), false⟩)]) (st_own (i := ⟨.arr 64 5, 64, 64, (eA64u8 (vrep 64 (0 : Int)))⟩) rfl rfl (fun _ => rfl) rfl hs1620) (hs1620.c rfl) rfl ?_
      refine a_val (v := (.bool true)) (u := []) rfl trivial rfl ?_
      refine a_nil ?_
      refine a_next rfl ?_
      refine a_ret ?_
      refine t_ret ?_
      have hl1621 : LdOk [] (eA64u8 ((vrep 64 (0 : Int)))) [] 64 true (eA64u8 ((vrep 64 (0 : Int)))) := (.nil rfl rfl rfl)
      refine ⟨.inr rfl, ?_⟩
      rw [Try.results84]
      cases h
      exact ⟨_, _, _, _, _, ld_own (i := ⟨.arr 64 5, 64, 64, (eA64u8 (vrep 64 (0 : Int)))⟩) rfl rfl rfl hl1621, hl1621.c, .inl ⟨rfl, .inl rfl⟩, rfl, ⟨_, _, _, _, _, rfl, trivial, .inl ⟨rfl, .inl rfl⟩, rfl, rfl⟩⟩
  · have h := hy18
    refine a_region ?_
    refine a_val (v := (.int .i64 r9)) (u := []) rfl trivial rfl ?_
    refine a_val (v := (.bool ((decide (r9 < 0))))) (u := []) rfl trivial rfl ?_
    refine a_val (v := (.bool ((decide (r9 < 0))))) (u := []) rfl trivial rfl ?_
    cases hb20 : (decide (r9 < 0))
    · have h := ite_f hb20 h
      refine a_gval rfl (v := (.int .i64 r12)) (u := []) rfl trivial rfl ?_
      refine a_gval rfl (v := (.bool ((decide (r12 < 0))))) (u := []) rfl trivial rfl ?_
      refine a_val (v := (.bool ((decide (r12 < 0))))) (u := []) rfl trivial rfl ?_
      refine a_nil ?_
      exact j_leaf ((decide (r12 < 0))) (Option.some.inj h) rfl
    · have h := ite_t hb20 h
      refine a_gskip rfl ?_
      refine a_gskip rfl ?_
      refine a_val (v := (.bool true)) (u := []) rfl trivial rfl ?_
      refine a_nil ?_
      exact j_leaf true (Option.some.inj h) rfl
def spec_IsSquarePoly_c : ACode := (.seq (.region 0 [⟨some 3, .box 23 (.tmp 1), none, []⟩, ⟨some 4, .asg 0 (.const (.bool false)) 4, none, []⟩, ⟨some 5, .asg 0 (.const (.int .i64 0)) 2, none, []⟩] false) (.seq (.seq (.region 1 [⟨some 10, .mov (.tmp 0), none, []⟩, ⟨some 11, .load 23 (.tmp 3), none, []⟩, ⟨some 12, .call 0 (.func 70) [(.tmp 10), (.tmp 11)], none, []⟩, ⟨some 6, .asg 0 (.tmp 12) 2, none, []⟩] false) (.seq (.region 2 [⟨some 13, .mov (.tmp 6), none, []⟩, ⟨some 14, .bin .neq 2 (.tmp 13) (.const (.int .i64 0)), none, []⟩] false) (.cond (.tmp 14) (.seq (.region 3 [⟨some 15, .mov (.tmp 6), none, []⟩, ⟨some 4, .asg 0 (.const (.bool false)) 4, none, []⟩, ⟨some 5, .asg 0 (.tmp 15) 2, none, []⟩] false) .ret) .skip))) (.seq (.region 4 [⟨some 16, .mov (.tmp 0), none, []⟩, ⟨some 17, .load 23 (.tmp 3), none, []⟩, ⟨some 18, .call 0 (.func 83) [(.tmp 16), (.tmp 17)], none, []⟩, ⟨some 7, .alloc 23, none, []⟩, ⟨none, .store 23 (.tmp 7) (.tmp 18), none, []⟩] false) (.seq (.region 5 [⟨some 20, .mov (.tmp 0), none, []⟩, ⟨some 21, .load 23 (.tmp 7), none, []⟩, ⟨some 22, .load 23 (.tmp 7), none, []⟩, ⟨some 23, .call 0 (.func 84) [(.tmp 20), (.tmp 21), (.tmp 22)], none, []⟩, ⟨some 19, .mov (.tmp 23), none, []⟩, ⟨some 24, .extract (.tmp 19) 0, none, []⟩, ⟨some 25, .extract (.tmp 19) 1, none, []⟩, ⟨some 8, .alloc 23, none, []⟩, ⟨none, .store 23 (.tmp 8) (.tmp 24), none, []⟩, ⟨some 9, .asg 0 (.tmp 25) 4, none, []⟩] false) (.seq (.region 6 [⟨some 26, .load 23 (.tmp 8), none, []⟩, ⟨some 27, .load 23 (.tmp 3), none, []⟩, ⟨some 28, .bin .eql 23 (.tmp 26) (.tmp 27), none, []⟩, ⟨some 4, .asg 0 (.tmp 28) 4, none, []⟩, ⟨some 5, .asg 0 (.const (.int .i64 0)) 2, none, []⟩] false) .ret)))))
def spec_IsSquarePoly_L : Live := [(0, [0, 1]), (1, [0, 3]), (2, [0, 3, 6]), (3, [6]), (4, [0, 3]), (5, [0, 3, 7]), (6, [3, 8]), (100014, [0, 3, 6, 14])]
theorem spec_IsSquarePoly_body : Try.f40.body = some (Try.f40.body.getD .skip) := by kernel_rfl
theorem spec_IsSquarePoly_strip : strip [] (Try.f40.body.getD .skip) = spec_IsSquarePoly_c := by kernel_rfl
noncomputable def spec_IsSquarePoly (a0 : Int) (a1 : (Vec Int 64)) : Option (Bool × Int) :=
  (Option.bind (spec_l10Case a0 a1) fun r2 => (if (r2 != 0) then (some (false, r2)) else (Option.bind (spec_l10Part a0 a1) fun r6 => (Option.bind (spec_l01Times a0 r6 r6) fun r11 => (some (((decide (r11.1 = a1)), 0)))))))
set_option maxHeartbeats 16000000 in
theorem spec_IsSquarePoly_ok (a0 : Int) (a1 : (Vec Int 64)) (r : (Bool × Int)) (h : spec_IsSquarePoly a0 a1 = some r) : Den Try.prog 40 [(.int .i64 a0), (eA64u8 a1)] { r := (.tuple [(.bool r.1), (.int .i64 r.2)]) } := by
  refine den_of (rs := [(.bool r.1), (.int .i64 r.2)]) (ac := spec_IsSquarePoly_c) (L := spec_IsSquarePoly_L) (n := 29) (m := []) good Try.func40 spec_IsSquarePoly_body (by kernel_rfl) Try.ntmps40 rfl rfl spec_IsSquarePoly_strip rfl rfl ?_
  refine a_st (σ' := ⟨[(0, (.int .i64 a0)), (1, (eA64u8 a1))], []⟩) rfl ?_
  unfold spec_IsSquarePoly_c
  refine a_seq ?_
  refine a_region ?_
  refine a_val (v := (.own 1300 [] [])) (u := [(1300, some ⟨(eA64u8 a1), false⟩)]) rfl trivial rfl ?_
  refine a_val (v := (.bool false)) (u := []) rfl trivial rfl ?_
  refine a_val (v := (.int .i64 0)) (u := []) rfl trivial rfl ?_
  refine a_nil ?_
  refine a_next (σ' := ⟨[(0, (.int .i64 a0)), (3, (.own 3 [] []))], [(3, some ⟨(eA64u8 a1), false⟩)]⟩) rfl ?_
  refine a_seq ?_
  refine a_seq ?_
  refine a_region ?_
  refine a_val (v := (.int .i64 a0)) (u := []) rfl trivial rfl ?_
  have hl1 : LdOk [] (eA64u8 a1) [] 64 true (eA64u8 a1) := (.nil rfl rfl rfl)
  refine a_val (v := (eA64u8 a1)) (u := []) (ld_own (i := ⟨.arr 64 5, 64, 64, (eA64u8 (vrep 64 (0 : Int)))⟩) rfl rfl rfl hl1) hl1.c rfl ?_
  obtain ⟨r2, hr3, h⟩ := bind_some h
  refine a_call (args := [(.int .i64 a0), (eA64u8 a1)]) (u := []) (r := (.int .i64 r2)) rfl rfl (spec_l10Case_ok a0 a1 r2 hr3) rfl ?_
  refine a_val (v := (.int .i64 r2)) (u := []) rfl trivial rfl ?_
  refine a_nil ?_
  refine a_next (σ' := ⟨[(0, (.int .i64 a0)), (3, (.own 3 [] [])), (6, (.int .i64 r2))], [(3, some ⟨(eA64u8 a1), false⟩)]⟩) rfl ?_
  refine a_seq ?_
  refine a_region ?_
  refine a_val (v := (.int .i64 r2)) (u := []) rfl trivial rfl ?_
  refine a_val (v := (.bool (r2 != 0))) (u := []) rfl trivial rfl ?_
  refine a_nil ?_
  refine a_next (σ' := ⟨[(0, (.int .i64 a0)), (3, (.own 3 [] [])), (6, (.int .i64 r2)), (14, (.bool (r2 != 0)))], [(3, some ⟨(eA64u8 a1), false⟩)]⟩) rfl ?_
  cases hb4 : (r2 != 0)
  · have h := ite_f hb4 h
    refine a_cond_f rfl ?_
    refine a_skip ?_
    refine a_next (σ' := ⟨[(0, (.int .i64 a0)), (3, (.own 3 [] []))], [(3, some ⟨(eA64u8 a1), false⟩)]⟩) rfl ?_
    refine a_seq ?_
    refine a_region ?_
    refine a_val (v := (.int .i64 a0)) (u := []) rfl trivial rfl ?_
    have hl5 : LdOk [] (eA64u8 a1) [] 64 true (eA64u8 a1) := (.nil rfl rfl rfl)
    refine a_val (v := (eA64u8 a1)) (u := []) (ld_own (i := ⟨.arr 64 5, 64, 64, (eA64u8 (vrep 64 (0 : Int)))⟩) rfl rfl rfl hl5) hl5.c rfl ?_
    obtain ⟨r6, hr7, h⟩ := bind_some h
    refine a_call (args := [(.int .i64 a0), (eA64u8 a1)]) (u := []) (r := (eA64u8 r6)) rfl rfl (spec_l10Part_ok a0 a1 r6 hr7) rfl ?_
    refine a_val (v := (.own 1700 [] [])) (u := [(1700, some ⟨(eA64u8 ((vrep 64 (0 : Int)))), false⟩)]) rfl trivial rfl ?_
    have hs8 : StOk [] (eA64u8 ((vrep 64 (0 : Int)))) [] 64 (eA64u8 r6) (eA64u8 r6) := (.nil rfl rfl rfl rfl)
    refine a_val (v := .top) (u := [(1700, some ⟨(eA64u8 r6), false⟩)]) (st_own (i := ⟨.arr 64 5, 64, 64, (eA64u8 (vrep 64 (0 : Int)))⟩) rfl rfl (fun _ => rfl) rfl hs8) (hs8.c rfl) rfl ?_
    refine a_nil ?_
    refine a_next (σ' := ⟨[(0, (.int .i64 a0)), (3, (.own 3 [] [])), (7, (.own 7 [] []))], [(3, some ⟨(eA64u8 a1), false⟩), (7, some ⟨(eA64u8 r6), false⟩)]⟩) rfl ?_
    refine a_seq ?_
    refine a_region ?_
    refine a_val (v := (.int .i64 a0)) (u := []) rfl trivial rfl ?_
    have hl9 : LdOk [] (eA64u8 r6) [] 64 true (eA64u8 r6) := (.nil rfl rfl rfl)
    refine a_val (v := (eA64u8 r6)) (u := []) (ld_own (i := ⟨.arr 64 5, 64, 64, (eA64u8 (vrep 64 (0 : Int)))⟩) rfl rfl rfl hl9) hl9.c rfl ?_
    have hl10 : LdOk [] (eA64u8 r6) [] 64 true (eA64u8 r6) := (.nil rfl rfl rfl)
    refine a_val (v := (eA64u8 r6)) (u := []) (ld_own (i := ⟨.arr 64 5, 64, 64, (eA64u8 (vrep 64 (0 : Int)))⟩) rfl rfl rfl hl10) hl10.c rfl ?_
    obtain ⟨r11, hr12, h⟩ := bind_some h
    refine a_call (args := [(.int .i64 a0), (eA64u8 r6), (eA64u8 r6)]) (u := []) (r := (.tuple [(eA64u8 r11.1), (.bool r11.2)])) rfl rfl (spec_l01Times_ok a0 r6 r6 r11 hr12) rfl ?_
    refine a_val (v := (.tuple [(eA64u8 r11.1), (.bool r11.2)])) (u := []) rfl trivial rfl ?_
    refine a_val (v := (eA64u8 r11.1)) (u := []) rfl (Nat.le_of_ble_eq_true rfl) rfl ?_
    refine a_val (v := (.bool r11.2)) (u := []) rfl (Nat.le_of_ble_eq_true rfl) rfl ?_
    refine a_val (v := (.own 1800 [] [])) (u := [(1800, some ⟨(eA64u8 ((vrep 64 (0 : Int)))), false⟩)]) rfl trivial rfl ?_
    have hs13 : StOk [] (eA64u8 ((vrep 64 (0 : Int)))) [] 64 (eA64u8 r11.1) (eA64u8 r11.1) := (.nil rfl rfl rfl rfl)
    refine a_val (v := .top) (u := [(1800, some ⟨(eA64u8 r11.1), false⟩)]) (st_own (i := ⟨.arr 64 5, 64, 64, (eA64u8 (vrep 64 (0 : Int)))⟩) rfl rfl (fun _ => rfl) rfl hs13) (hs13.c rfl) rfl ?_
    refine a_val (v := (.bool r11.2)) (u := []) rfl trivial rfl ?_
    refine a_nil ?_
    refine a_next (σ' := ⟨[(3, (.own 3 [] [])), (8, (.own 8 [] []))], [(3, some ⟨(eA64u8 a1), false⟩), (8, some ⟨(eA64u8 r11.1), false⟩)]⟩) rfl ?_
    refine a_seq ?_
    refine a_region ?_
    have hl14 : LdOk [] (eA64u8 r11.1) [] 64 true (eA64u8 r11.1) := (.nil rfl rfl rfl)
    refine a_val (v := (eA64u8 r11.1)) (u := []) (ld_own (i := ⟨.arr 64 5, 64, 64, (eA64u8 (vrep 64 (0 : Int)))⟩) rfl rfl rfl hl14) hl14.c rfl ?_
    have hl15 : LdOk [] (eA64u8 a1) [] 64 true (eA64u8 a1) := (.nil rfl rfl rfl)
    refine a_val (v := (eA64u8 a1)) (u := []) (ld_own (i := ⟨.arr 64 5, 64, 64, (eA64u8 (vrep 64 (0 : Int)))⟩) rfl rfl rfl hl15) hl15.c rfl ?_
    refine a_val (v := (.bool ((decide (r11.1 = a1))))) (u := []) (eqa_run (f := (AV.int .u8)) (a := r11.1.1) (b := a1.1) rfl rfl (eqb_vec (fun _ _ => eqb_int _ _) r11.1 a1)) (cmp_arr (g := 8) (f := (AV.int .u8)) (x := r11.1) (y := a1) rfl rfl rfl (fun _ _ => rfl) (fun _ _ => cmp_int rfl)) rfl ?_
    refine a_val (v := (.bool ((decide (r11.1 = a1))))) (u := []) rfl trivial rfl ?_
    refine a_val (v := (.int .i64 0)) (u := []) rfl trivial rfl ?_
    refine a_nil ?_
    refine a_next rfl ?_
    refine a_ret ?_
    refine ⟨.inr rfl, ?_⟩
    rw [Try.results40]
    cases h
    exact ⟨_, _, _, _, _, rfl, trivial, .inl ⟨rfl, .inl rfl⟩, rfl, ⟨_, _, _, _, _, rfl, trivial, .inl ⟨rfl, .inl rfl⟩, rfl, rfl⟩⟩
  · have h := ite_t hb4 h
    refine a_cond_t rfl ?_
    refine a_seq ?_
    refine a_region ?_
    refine a_val (v := (.int .i64 r2)) (u := []) rfl trivial rfl ?_
    refine a_val (v := (.bool false)) (u := []) rfl trivial rfl ?_
    refine a_val (v := (.int .i64 r2)) (u := []) rfl trivial rfl ?_
    refine a_nil ?_
    refine a_next rfl ?_
    refine a_ret ?_
    refine t_ret ?_
    refine ⟨.inr rfl, ?_⟩
    rw [Try.results40]
    cases h
    exact ⟨_, _, _, _, _, rfl, trivial, .inl ⟨rfl, .inl rfl⟩, rfl, ⟨_, _, _, _, _, rfl, trivial, .inl ⟨rfl, .inl rfl⟩, rfl, rfl⟩⟩
def impl_isPrime_c : ACode := (.seq (.region 0 [⟨some 2, .asg 0 (.const (.bool false)) 4, none, []⟩] false) (.seq (.region 1 [⟨some 3, .mov (.tmp 0), none, []⟩, ⟨some 4, .bin .eql 2 (.tmp 3) (.const (.int .i64 2)), none, []⟩, ⟨some 5, .mov (.tmp 4), none, []⟩, ⟨some 6, .mov (.tmp 0), some (5, false), []⟩, ⟨some 7, .bin .eql 2 (.tmp 6) (.const (.int .i64 3)), some (5, false), []⟩, ⟨some 8, .pick (.tmp 5) (.const (.bool true)) (.tmp 7), none, []⟩, ⟨some 9, .mov (.tmp 8), none, []⟩, ⟨some 10, .mov (.tmp 0), some (9, false), []⟩, ⟨some 11, .bin .eql 2 (.tmp 10) (.const (.int .i64 5)), some (9, false), []⟩, ⟨some 12, .pick (.tmp 9) (.const (.bool true)) (.tmp 11), none, []⟩, ⟨some 13, .mov (.tmp 12), none, []⟩, ⟨some 14, .mov (.tmp 0), some (13, false), []⟩, ⟨some 15, .bin .eql 2 (.tmp 14) (.const (.int .i64 7)), some (13, false), []⟩, ⟨some 16, .pick (.tmp 13) (.const (.bool true)) (.tmp 15), none, []⟩, ⟨some 2, .asg 0 (.tmp 16) 4, none, []⟩] false) .ret))
def impl_isPrime_L : Live := [(0, [0]), (1, [0])]
theorem impl_isPrime_body : Try.f59.body = some (Try.f59.body.getD .skip) := by kernel_rfl
theorem impl_isPrime_strip : strip [] (Try.f59.body.getD .skip) = impl_isPrime_c := by kernel_rfl
noncomputable def impl_isPrime (a0 : Int) : Option Bool :=
  (if (a0 == 2) then (some true) else (if (a0 == 3) then (some true) else (if (a0 == 5) then (some true) else (some (a0 == 7)))))
set_option maxHeartbeats 16000000 in
theorem impl_isPrime_ok (a0 : Int) (r : Bool) (h : impl_isPrime a0 = some r) : Den Try.prog 59 [(.int .i64 a0)] { r := (.bool r) } := by
  refine den_of (rs := [(.bool r)]) (ac := impl_isPrime_c) (L := impl_isPrime_L) (n := 17) (m := []) good Try.func59 impl_isPrime_body (by kernel_rfl) Try.ntmps59 rfl rfl impl_isPrime_strip rfl rfl ?_
  refine a_st (σ' := ⟨[(0, (.int .i64 a0))], []⟩) rfl ?_
  unfold impl_isPrime_c
  refine a_seq ?_
  refine a_region ?_
  refine a_val (v := (.bool false)) (u := []) rfl trivial rfl ?_
  refine a_nil ?_
  refine a_next (σ' := ⟨[(0, (.int .i64 a0))], []⟩) rfl ?_
  refine a_seq ?_
  refine a_region ?_
  refine a_val (v := (.int .i64 a0)) (u := []) rfl trivial rfl ?_
  refine a_val (v := (.bool (a0 == 2))) (u := []) rfl trivial rfl ?_
  refine a_val (v := (.bool (a0 == 2))) (u := []) rfl trivial rfl ?_
  cases hb1 : (a0 == 2)
  · have h := ite_f hb1 h
    refine a_gval rfl (v := (.int .i64 a0)) (u := []) rfl trivial rfl ?_
    refine a_gval rfl (v := (.bool (a0 == 3))) (u := []) rfl trivial rfl ?_
    refine a_val (v := (.bool (a0 == 3))) (u := []) rfl trivial rfl ?_
    refine a_val (v := (.bool (a0 == 3))) (u := []) rfl trivial rfl ?_
    cases hb2 : (a0 == 3)
    · have h := ite_f hb2 h
      refine a_gval rfl (v := (.int .i64 a0)) (u := []) rfl trivial rfl ?_
      refine a_gval rfl (v := (.bool (a0 == 5))) (u := []) rfl trivial rfl ?_
      refine a_val (v := (.bool (a0 == 5))) (u := []) rfl trivial rfl ?_
      refine a_val (v := (.bool (a0 == 5))) (u := []) rfl trivial rfl ?_
      cases hb3 : (a0 == 5)
      · have h := ite_f hb3 h
        refine a_gval rfl (v := (.int .i64 a0)) (u := []) rfl trivial rfl ?_
        refine a_gval rfl (v := (.bool (a0 == 7))) (u := []) rfl trivial rfl ?_
        refine a_val (v := (.bool (a0 == 7))) (u := []) rfl trivial rfl ?_
        refine a_val (v := (.bool (a0 == 7))) (u := []) rfl trivial rfl ?_
        refine a_nil ?_
        refine a_next rfl ?_
        refine a_ret ?_
        refine ⟨.inr rfl, ?_⟩
        rw [Try.results59]
        cases h
        exact ⟨_, _, _, _, _, rfl, trivial, .inl ⟨rfl, .inl rfl⟩, rfl, rfl⟩
      · have h := ite_t hb3 h
        refine a_gskip rfl ?_
        refine a_gskip rfl ?_
        refine a_val (v := (.bool true)) (u := []) rfl trivial rfl ?_
        refine a_val (v := (.bool true)) (u := []) rfl trivial rfl ?_
        refine a_nil ?_
        refine a_next rfl ?_
        refine a_ret ?_
        refine ⟨.inr rfl, ?_⟩
        rw [Try.results59]
        cases h
        exact ⟨_, _, _, _, _, rfl, trivial, .inl ⟨rfl, .inl rfl⟩, rfl, rfl⟩
    · have h := ite_t hb2 h
      refine a_gskip rfl ?_
      refine a_gskip rfl ?_
      refine a_val (v := (.bool true)) (u := []) rfl trivial rfl ?_
      refine a_val (v := (.bool true)) (u := []) rfl trivial rfl ?_
      refine a_gskip rfl ?_
      refine a_gskip rfl ?_
      refine a_val (v := (.bool true)) (u := []) rfl trivial rfl ?_
      refine a_val (v := (.bool true)) (u := []) rfl trivial rfl ?_
      refine a_nil ?_
      refine a_next rfl ?_
      refine a_ret ?_
      refine ⟨.inr rfl, ?_⟩
      rw [Try.results59]
      cases h
      exact ⟨_, _, _, _, _, rfl, trivial, .inl ⟨rfl, .inl rfl⟩, rfl, rfl⟩
  · have h := ite_t hb1 h
    refine a_gskip rfl ?_
    refine a_gskip rfl ?_
    refine a_val (v := (.bool true)) (u := []) rfl trivial rfl ?_
    refine a_val (v := (.bool true)) (u := []) rfl trivial rfl ?_
    refine a_gskip rfl ?_
    refine a_gskip rfl ?_
    refine a_val (v := (.bool true)) (u := []) rfl trivial rfl ?_
    refine a_val (v := (.bool true)) (u := []) rfl trivial rfl ?_
    refine a_gskip rfl ?_
    refine a_gskip rfl ?_
    refine a_val (v := (.bool true)) (u := []) rfl trivial rfl ?_
    refine a_val (v := (.bool true)) (u := []) rfl trivial rfl ?_
    refine a_nil ?_
    refine a_next rfl ?_
    refine a_ret ?_
    refine ⟨.inr rfl, ?_⟩
    rw [Try.results59]
    cases h
    exact ⟨_, _, _, _, _, rfl, trivial, .inl ⟨rfl, .inl rfl⟩, rfl, rfl⟩
def impl_isPoly_c1_of_p_c : ACode := (.seq (.region 0 [⟨some 3, .asg 0 (.const (.bool false)) 4, none, []⟩] false) (.seq (.region 1 [⟨some 4, .mov (.tmp 0), none, []⟩, ⟨some 5, .conv 5 2 (.tmp 4), none, []⟩, ⟨some 6, .load 2 (.tmp 1), none, []⟩, ⟨some 7, .bin .lss 2 (.tmp 5) (.tmp 6), none, []⟩, ⟨some 3, .asg 0 (.tmp 7) 4, none, []⟩] false) .ret))
def impl_isPoly_c1_of_p_L : Live := [(0, [0, 1]), (1, [0, 1])]
theorem impl_isPoly_c1_of_p_body : Try.f133.body = some (Try.f133.body.getD .skip) := by kernel_rfl
theorem impl_isPoly_c1_of_p_strip : strip [] (Try.f133.body.getD .skip) = impl_isPoly_c1_of_p_c := by kernel_rfl
noncomputable def impl_isPoly_c1_of_p (a0 : Int) (a1 : Int) : Option Bool :=
  (some ((decide ((IntKind.i64.wrap a0) < a1))))
set_option maxHeartbeats 16000000 in
theorem impl_isPoly_c1_of_p_ok (a0 : Int) (a1 : Int) (r : Bool) (h : impl_isPoly_c1_of_p a0 a1 = some r) : Den Try.prog 133 [(.int .u8 a0), (.ref (.int .i64 a1) [] [])] { r := (.bool r) } := by
  refine den_of (rs := [(.bool r)]) (ac := impl_isPoly_c1_of_p_c) (L := impl_isPoly_c1_of_p_L) (n := 8) (m := []) good Try.func133 impl_isPoly_c1_of_p_body (by kernel_rfl) Try.ntmps133 rfl rfl impl_isPoly_c1_of_p_strip rfl rfl ?_
  refine a_st (σ' := ⟨[(0, (.int .u8 a0)), (1, (.ref (.int .i64 a1) [] []))], []⟩) rfl ?_
  unfold impl_isPoly_c1_of_p_c
  refine a_seq ?_
  refine a_region ?_
  refine a_val (v := (.bool false)) (u := []) rfl trivial rfl ?_
  refine a_nil ?_
  refine a_next (σ' := ⟨[(0, (.int .u8 a0)), (1, (.ref (.int .i64 a1) [] []))], []⟩) rfl ?_
  refine a_seq ?_
  refine a_region ?_
  refine a_val (v := (.int .u8 a0)) (u := []) rfl trivial rfl ?_
  refine a_val (v := (.int .i64 (IntKind.i64.wrap a0))) (u := []) rfl trivial rfl ?_
  have hl1 : LdOk [] (.int .i64 a1) [] 1 false (.int .i64 a1) := (.nil rfl rfl rfl)
  refine a_val (v := (.int .i64 a1)) (u := []) (ld_ref (i := ⟨.int .i64, 1, 8, (.int .i64 0)⟩) rfl rfl hl1) hl1.c rfl ?_
  refine a_val (v := (.bool ((decide ((IntKind.i64.wrap a0) < a1))))) (u := []) rfl trivial rfl ?_
  refine a_val (v := (.bool ((decide ((IntKind.i64.wrap a0) < a1))))) (u := []) rfl trivial rfl ?_
  refine a_nil ?_
  refine a_next rfl ?_
  refine a_ret ?_
  refine ⟨.inr rfl, ?_⟩
  rw [Try.results133]
  cases h
  exact ⟨_, _, _, _, _, rfl, trivial, .inl ⟨rfl, .inl rfl⟩, rfl, rfl⟩
def impl_areAll_byte__c1_of_p_c : ACode := (.seq (.region 0 [⟨some 3, .asg 0 (.const (.bool false)) 4, none, []⟩] false) (.seq (.region 1 [⟨some 4, .load 127 (.tmp 1), none, []⟩, ⟨some 5, .mov (.tmp 0), none, []⟩, ⟨some 6, .call 0 (.tmp 4) [(.tmp 5)], none, []⟩, ⟨some 7, .un .not (.tmp 6), none, []⟩, ⟨some 3, .asg 0 (.tmp 7) 4, none, []⟩] false) .ret))
def impl_areAll_byte__c1_of_p_L : Live := [(0, [0, 1]), (1, [0, 1])]
theorem impl_areAll_byte__c1_of_p_body : Try.f149.body = some (Try.f149.body.getD .skip) := by kernel_rfl
theorem impl_areAll_byte__c1_of_p_strip : strip [] (Try.f149.body.getD .skip) = impl_areAll_byte__c1_of_p_c := by kernel_rfl
noncomputable def impl_areAll_byte__c1_of_p (a0 : Int) (a1c0 : Int) : Option Bool :=
  (Option.bind (impl_isPoly_c1_of_p a0 a1c0) fun r2 => (some (!r2)))
set_option maxHeartbeats 16000000 in
theorem impl_areAll_byte__c1_of_p_ok (a0 : Int) (a1c0 : Int) (r : Bool) (h : impl_areAll_byte__c1_of_p a0 a1c0 = some r) : Den Try.prog 149 [(.int .u8 a0), (.ref (.clo 133 [] [(.ref (.int .i64 a1c0) [] [])]) [] [])] { r := (.bool r) } := by
  refine den_of (rs := [(.bool r)]) (ac := impl_areAll_byte__c1_of_p_c) (L := impl_areAll_byte__c1_of_p_L) (n := 8) (m := []) good Try.func149 impl_areAll_byte__c1_of_p_body (by kernel_rfl) Try.ntmps149 rfl rfl impl_areAll_byte__c1_of_p_strip rfl rfl ?_
  refine a_st (σ' := ⟨[(0, (.int .u8 a0)), (1, (.ref (.clo 133 [] [(.ref (.int .i64 a1c0) [] [])]) [] []))], []⟩) rfl ?_
  unfold impl_areAll_byte__c1_of_p_c
  refine a_seq ?_
  refine a_region ?_
  refine a_val (v := (.bool false)) (u := []) rfl trivial rfl ?_
  refine a_nil ?_
  refine a_next (σ' := ⟨[(0, (.int .u8 a0)), (1, (.ref (.clo 133 [] [(.ref (.int .i64 a1c0) [] [])]) [] []))], []⟩) rfl ?_
  refine a_seq ?_
  refine a_region ?_
  have hl1 : LdOk [] (.clo 133 [] [(.ref (.int .i64 a1c0) [] [])]) [] 1 false (.clo 133 [] [(.ref (.int .i64 a1c0) [] [])]) := (.nil rfl rfl rfl)
  refine a_val (v := (.clo 133 [] [(.ref (.int .i64 a1c0) [] [])])) (u := []) (ld_ref (i := ⟨.other, 1, 8, (.raw .nilFunc)⟩) rfl rfl hl1) hl1.c rfl ?_
  refine a_val (v := (.int .u8 a0)) (u := []) rfl trivial rfl ?_
  obtain ⟨r2, hr3, h⟩ := bind_some h
  refine a_call (args := [(.int .u8 a0), (.ref (.int .i64 a1c0) [] [])]) (u := []) (r := (.bool r2)) rfl rfl (impl_isPoly_c1_of_p_ok a0 a1c0 r2 hr3) rfl ?_
  refine a_val (v := (.bool (!r2))) (u := []) rfl trivial rfl ?_
  refine a_val (v := (.bool (!r2))) (u := []) rfl trivial rfl ?_
  refine a_nil ?_
  refine a_next rfl ?_
  refine a_ret ?_
  refine ⟨.inr rfl, ?_⟩
  rw [Try.results149]
  cases h
  exact ⟨_, _, _, _, _, rfl, trivial, .inl ⟨rfl, .inl rfl⟩, rfl, rfl⟩
def slices_IndexFunc_byte_byte_of_impl_areAll_byte__c1_p_c : ACode := (.seq (.region 0 [⟨some 4, .asg 0 (.const (.int .i64 0)) 3, none, []⟩] false) (.seq (.seq (.region 1 [⟨some 6, .mov (.tmp 0), none, []⟩, ⟨some 7, .blt 0 .len [(.tmp 6)] [126], none, []⟩, ⟨some 8, .mov (.const (.int .i64 0)), none, []⟩] false) (.block 0 (.loop (.seq (.region 2 [⟨some 9, .bin .lss 3 (.tmp 8) (.tmp 7), none, []⟩] false) (.seq (.cond (.tmp 9) .skip (.exit 0)) (.seq (.block 1 (.seq (.region 3 [⟨some 10, .mov (.tmp 8), none, []⟩, ⟨some 5, .asg 0 (.tmp 10) 3, none, []⟩] false) (.seq (.region 4 [⟨some 11, .mov (.tmp 1), none, []⟩, ⟨some 12, .mov (.tmp 0), none, []⟩, ⟨some 13, .mov (.tmp 5), none, []⟩, ⟨some 14, .indexAddr 126 (.tmp 12) (.tmp 13), none, []⟩, ⟨some 15, .load 5 (.tmp 14), none, []⟩, ⟨some 16, .call 0 (.tmp 11) [(.tmp 15)], none, []⟩] false) (.cond (.tmp 16) (.seq (.region 5 [⟨some 17, .mov (.tmp 5), none, []⟩, ⟨some 4, .asg 0 (.tmp 17) 3, none, []⟩] false) .ret) .skip)))) (.region 6 [⟨some 18, .bin .add 3 (.tmp 8) (.const (.int .i64 1)), none, []⟩, ⟨some 8, .mov (.tmp 18), none, []⟩] false))))))) (.seq (.region 7 [⟨some 4, .asg 0 (.const (.int .i64 (-1))) 3, none, []⟩] false) .ret)))
def slices_IndexFunc_byte_byte_of_impl_areAll_byte__c1_p_L : Live := [(0, [0, 1]), (1, [0, 1]), (2, [0, 1, 7, 8]), (3, [0, 1, 7, 8]), (4, [0, 1, 5, 7, 8]), (5, [5]), (6, [0, 1, 7, 8]), (7, []), (100009, [0, 1, 7, 8, 9]), (100016, [0, 1, 5, 7, 8, 16])]
theorem slices_IndexFunc_byte_byte_of_impl_areAll_byte__c1_p_body : Try.f155.body = some (Try.f155.body.getD .skip) := by kernel_rfl
theorem slices_IndexFunc_byte_byte_of_impl_areAll_byte__c1_p_strip : strip [] (Try.f155.body.getD .skip) = slices_IndexFunc_byte_byte_of_impl_areAll_byte__c1_p_c := by kernel_rfl
noncomputable def slices_IndexFunc_byte_byte_of_impl_areAll_byte__c1_p_l1 (a0 : (List Int)) (a1c0c0 : Int) (x33 : Int) : Option (Int ⊕ (Unit ⊕ Int)) :=
  (if (decide (x33 < (a0.length : Int))) then (ifp (0 ≤ x33 ∧ x33 < ((a0.length : Nat) : Int)) ((Option.bind (impl_areAll_byte__c1_of_p (rd a0 x33.toNat) a1c0c0) fun r46 => (if r46 then (some (.inr (.inr x33))) else (some (.inl (IntKind.i64.wrap (x33 + 1)))))))) else (some (.inr (((.inl ()))))))
noncomputable def slices_IndexFunc_byte_byte_of_impl_areAll_byte__c1_p (a0 : (List Int)) (a1c0c0 : Int) : Option Int :=
  (Option.bind (α := (Unit ⊕ Int)) ((loopM (fun s : Int => slices_IndexFunc_byte_byte_of_impl_areAll_byte__c1_p_l1 a0 a1c0c0 s) 0)) fun z => match z with | .inl _ => (some (-1)) | .inr r50 => (some r50))
set_option maxHeartbeats 16000000 in
theorem slices_IndexFunc_byte_byte_of_impl_areAll_byte__c1_p_ok (a0 : (List Int)) (a1c0c0 : Int) (r : Int) (h : slices_IndexFunc_byte_byte_of_impl_areAll_byte__c1_p a0 a1c0c0 = some r) : Den Try.prog 155 [(eSu8 a0), (.clo 149 [] [(.ref (.clo 133 [] [(.ref (.int .i64 a1c0c0) [] [])]) [] [])])] { r := (.int .i64 r) } := by
  refine den_of (rs := [(.int .i64 r)]) (ac := slices_IndexFunc_byte_byte_of_impl_areAll_byte__c1_p_c) (L := slices_IndexFunc_byte_byte_of_impl_areAll_byte__c1_p_L) (n := 19) (m := []) good Try.func155 slices_IndexFunc_byte_byte_of_impl_areAll_byte__c1_p_body (by kernel_rfl) Try.ntmps155 rfl rfl slices_IndexFunc_byte_byte_of_impl_areAll_byte__c1_p_strip rfl rfl ?_
  refine a_st (σ' := ⟨[(0, (eSu8 a0)), (1, (.clo 149 [] [(.ref (.clo 133 [] [(.ref (.int .i64 a1c0c0) [] [])]) [] [])]))], []⟩) rfl ?_
  unfold slices_IndexFunc_byte_byte_of_impl_areAll_byte__c1_p_c
  refine a_seq ?_
  refine a_region ?_
  refine a_val (v := (.int .i64 0)) (u := []) rfl trivial rfl ?_
  refine a_nil ?_
  refine a_next (σ' := ⟨[(0, (eSu8 a0)), (1, (.clo 149 [] [(.ref (.clo 133 [] [(.ref (.int .i64 a1c0c0) [] [])]) [] [])]))], []⟩) rfl ?_
  obtain ⟨y24, hy25, hk26⟩ := bind_some h
  clear h
  refine a_join (emb := fun (s : Unit) => ⟨[], []⟩) (pre := fun s => (.inl s) = y24) ?_ ?_
  · rintro _ rfl
    have h := hk26
    refine a_st (σ' := ⟨[], []⟩) rfl ?_
    refine a_seq ?_
    refine a_region ?_
    refine a_val (v := (.int .i64 (-1))) (u := []) rfl trivial rfl ?_
    refine a_nil ?_
    refine a_next rfl ?_
    refine a_ret ?_
    refine ⟨.inr rfl, ?_⟩
    rw [Try.results155]
    cases h
    exact ⟨_, _, _, _, _, rfl, trivial, .inl ⟨rfl, .inl rfl⟩, rfl, rfl⟩
  · have h := hy25
    refine a_seq ?_
    refine a_region ?_
    refine a_val (v := (eSu8 a0)) (u := []) rfl trivial rfl ?_
    refine a_val (v := (.int .i64 (a0.length : Int))) (u := []) (len_run rfl rfl) trivial rfl ?_
    refine a_val (v := (.int .i64 0)) (u := []) rfl trivial rfl ?_
    refine a_nil ?_
    refine a_next (σ' := ⟨[(0, (eSu8 a0)), (1, (.clo 149 [] [(.ref (.clo 133 [] [(.ref (.int .i64 a1c0c0) [] [])]) [] [])])), (7, (.int .i64 (a0.length : Int))), (8, (.int .i64 0))], []⟩) rfl ?_
    refine a_block ?_
    refine a_loop (emb := fun (s : Int) => ⟨[(0, (eSu8 a0)), (1, (.clo 149 [] [(.ref (.clo 133 [] [(.ref (.int .i64 a1c0c0) [] [])]) [] [])])), (7, (.int .i64 (a0.length : Int))), (8, (.int .i64 s))], []⟩) (body := (fun s : Int => slices_IndexFunc_byte_byte_of_impl_areAll_byte__c1_p_l1 a0 a1c0c0 s)) (G := fun q => some q = some y24) h rfl ?_ rfl
    rintro X40 x33 x41 h hX42
    have h : slices_IndexFunc_byte_byte_of_impl_areAll_byte__c1_p_l1 a0 a1c0c0 x33 = some x41 := h
    refine a_st (σ' := ⟨[(0, (eSu8 a0)), (1, (.clo 149 [] [(.ref (.clo 133 [] [(.ref (.int .i64 a1c0c0) [] [])]) [] [])])), (7, (.int .i64 (a0.length : Int))), (8, (.int .i64 x33))], []⟩) rfl ?_
    refine a_seq ?_
    refine a_region ?_
    refine a_val (v := (.bool ((decide (x33 < (a0.length : Int)))))) (u := []) rfl trivial rfl ?_
    refine a_nil ?_
    refine a_next (σ' := ⟨[(0, (eSu8 a0)), (1, (.clo 149 [] [(.ref (.clo 133 [] [(.ref (.int .i64 a1c0c0) [] [])]) [] [])])), (7, (.int .i64 (a0.length : Int))), (8, (.int .i64 x33)), (9, (.bool ((decide (x33 < (a0.length : Int))))))], []⟩) rfl ?_
    refine a_seq ?_
    cases hb43 : (decide (x33 < (a0.length : Int)))
    · have h := ite_f hb43 h
      refine a_cond_f rfl ?_
      refine a_exit ?_
      refine t_exit ?_
      cases h
      have h := hX42
      refine t_exit ?_
      refine b_exit ?_
      exact j_leaf () (Option.some.inj h) rfl
    · have h := ite_t hb43 h
      refine a_cond_t rfl ?_
      refine a_skip ?_
      refine a_next (σ' := ⟨[(0, (eSu8 a0)), (1, (.clo 149 [] [(.ref (.clo 133 [] [(.ref (.int .i64 a1c0c0) [] [])]) [] [])])), (7, (.int .i64 (a0.length : Int))), (8, (.int .i64 x33))], []⟩) rfl ?_
      refine a_seq ?_
      refine a_block ?_
      refine a_seq ?_
      refine a_region ?_
      refine a_val (v := (.int .i64 x33)) (u := []) rfl trivial rfl ?_
      refine a_val (v := (.int .i64 x33)) (u := []) rfl trivial rfl ?_
      refine a_nil ?_
      refine a_next (σ' := ⟨[(0, (eSu8 a0)), (1, (.clo 149 [] [(.ref (.clo 133 [] [(.ref (.int .i64 a1c0c0) [] [])]) [] [])])), (5, (.int .i64 x33)), (7, (.int .i64 (a0.length : Int))), (8, (.int .i64 x33))], []⟩) rfl ?_
      refine a_seq ?_
      refine a_region ?_
      refine a_val (v := (.clo 149 [] [(.ref (.clo 133 [] [(.ref (.int .i64 a1c0c0) [] [])]) [] [])])) (u := []) rfl trivial rfl ?_
      refine a_val (v := (eSu8 a0)) (u := []) rfl trivial rfl ?_
      refine a_val (v := (.int .i64 x33)) (u := []) rfl trivial rfl ?_
      obtain ⟨hc44, h⟩ := ifp_some h
      refine a_val (v := (.ref (.row 1 (a0.map (AV.int .u8))) [x33.toNat] [x33.toNat * 1])) (u := []) rfl (lmap hc44) rfl ?_
      have hl45 : LdOk [x33.toNat] (.row 1 (a0.map (AV.int .u8))) [x33.toNat * 1] 1 false (.int .u8 (rd a0 x33.toNat)) := (.row (llt hc44) rfl (.nil rfl rfl rfl))
      refine a_val (v := (.int .u8 (rd a0 x33.toNat))) (u := []) (ld_ref (i := ⟨.int .u8, 1, 1, (.int .u8 0)⟩) rfl rfl hl45) hl45.c rfl ?_
      obtain ⟨r46, hr47, h⟩ := bind_some h
      refine a_call (args := [(.int .u8 (rd a0 x33.toNat)), (.ref (.clo 133 [] [(.ref (.int .i64 a1c0c0) [] [])]) [] [])]) (u := []) (r := (.bool r46)) rfl rfl (impl_areAll_byte__c1_of_p_ok (rd a0 x33.toNat) a1c0c0 r46 hr47) rfl ?_
      refine a_nil ?_
      refine a_next (σ' := ⟨[(0, (eSu8 a0)), (1, (.clo 149 [] [(.ref (.clo 133 [] [(.ref (.int .i64 a1c0c0) [] [])]) [] [])])), (5, (.int .i64 x33)), (7, (.int .i64 (a0.length : Int))), (8, (.int .i64 x33)), (16, (.bool r46))], []⟩) rfl ?_
      cases hb48 : r46
      · have h := ite_f hb48 h
        refine a_cond_f rfl ?_
        refine a_skip ?_
        refine b_norm ?_
        refine a_next (σ' := ⟨[(0, (eSu8 a0)), (1, (.clo 149 [] [(.ref (.clo 133 [] [(.ref (.int .i64 a1c0c0) [] [])]) [] [])])), (7, (.int .i64 (a0.length : Int))), (8, (.int .i64 x33))], []⟩) rfl ?_
        refine a_region ?_
        refine a_val (v := (.int .i64 (IntKind.i64.wrap (x33 + 1)))) (u := []) rfl trivial rfl ?_
        refine a_val (v := (.int .i64 (IntKind.i64.wrap (x33 + 1)))) (u := []) rfl trivial rfl ?_
        refine a_nil ?_
        cases h
        exact a_again rfl hX42
      · have h := ite_t hb48 h
        refine a_cond_t rfl ?_
        refine a_seq ?_
        refine a_region ?_
        refine a_val (v := (.int .i64 x33)) (u := []) rfl trivial rfl ?_
        refine a_val (v := (.int .i64 x33)) (u := []) rfl trivial rfl ?_
        refine a_nil ?_
        refine a_next rfl ?_
        refine a_ret ?_
        refine b_ret ?_
        refine t_ret ?_
        cases h
        have h := hX42
        refine t_ret ?_
        refine b_ret ?_
        refine t_ret ?_
        cases h
        have h := hk26
        refine ⟨.inr rfl, ?_⟩
        rw [Try.results155]
        cases h
        exact ⟨_, _, _, _, _, rfl, trivial, .inl ⟨rfl, .inl rfl⟩, rfl, rfl⟩
def slices_ContainsFunc_byte_byte_of_impl_areAll_byte__c1_p_c : ACode := (.seq (.region 0 [⟨some 4, .asg 0 (.const (.bool false)) 4, none, []⟩] false) (.seq (.region 1 [⟨some 5, .mov (.tmp 0), none, []⟩, ⟨some 6, .mov (.tmp 1), none, []⟩, ⟨some 7, .call 0 (.func 155) [(.tmp 5), (.tmp 6)], none, []⟩, ⟨some 8, .bin .geq 3 (.tmp 7) (.const (.int .i64 0)), none, []⟩, ⟨some 4, .asg 0 (.tmp 8) 4, none, []⟩] false) .ret))
def slices_ContainsFunc_byte_byte_of_impl_areAll_byte__c1_p_L : Live := [(0, [0, 1]), (1, [0, 1])]
theorem slices_ContainsFunc_byte_byte_of_impl_areAll_byte__c1_p_body : Try.f148.body = some (Try.f148.body.getD .skip) := by kernel_rfl
theorem slices_ContainsFunc_byte_byte_of_impl_areAll_byte__c1_p_strip : strip [] (Try.f148.body.getD .skip) = slices_ContainsFunc_byte_byte_of_impl_areAll_byte__c1_p_c := by kernel_rfl
noncomputable def slices_ContainsFunc_byte_byte_of_impl_areAll_byte__c1_p (a0 : (List Int)) (a1c0c0 : Int) : Option Bool :=
  (Option.bind (slices_IndexFunc_byte_byte_of_impl_areAll_byte__c1_p a0 a1c0c0) fun r1 => (some ((decide (r1 ≥ 0)))))
set_option maxHeartbeats 16000000 in
theorem slices_ContainsFunc_byte_byte_of_impl_areAll_byte__c1_p_ok (a0 : (List Int)) (a1c0c0 : Int) (r : Bool) (h : slices_ContainsFunc_byte_byte_of_impl_areAll_byte__c1_p a0 a1c0c0 = some r) : Den Try.prog 148 [(eSu8 a0), (.clo 149 [] [(.ref (.clo 133 [] [(.ref (.int .i64 a1c0c0) [] [])]) [] [])])] { r := (.bool r) } := by
  refine den_of (rs := [(.bool r)]) (ac := slices_ContainsFunc_byte_byte_of_impl_areAll_byte__c1_p_c) (L := slices_ContainsFunc_byte_byte_of_impl_areAll_byte__c1_p_L) (n := 9) (m := []) good Try.func148 slices_ContainsFunc_byte_byte_of_impl_areAll_byte__c1_p_body (by kernel_rfl) Try.ntmps148 rfl rfl slices_ContainsFunc_byte_byte_of_impl_areAll_byte__c1_p_strip rfl rfl ?_
  refine a_st (σ' := ⟨[(0, (eSu8 a0)), (1, (.clo 149 [] [(.ref (.clo 133 [] [(.ref (.int .i64 a1c0c0) [] [])]) [] [])]))], []⟩) rfl ?_
  unfold slices_ContainsFunc_byte_byte_of_impl_areAll_byte__c1_p_c
  refine a_seq ?_
  refine a_region ?_
  refine a_val (v := (.bool false)) (u := []) rfl trivial rfl ?_
  refine a_nil ?_
  refine a_next (σ' := ⟨[(0, (eSu8 a0)), (1, (.clo 149 [] [(.ref (.clo 133 [] [(.ref (.int .i64 a1c0c0) [] [])]) [] [])]))], []⟩) rfl ?_
  refine a_seq ?_
  refine a_region ?_
  refine a_val (v := (eSu8 a0)) (u := []) rfl trivial rfl ?_
  refine a_val (v := (.clo 149 [] [(.ref (.clo 133 [] [(.ref (.int .i64 a1c0c0) [] [])]) [] [])])) (u := []) rfl trivial rfl ?_
  obtain ⟨r1, hr2, h⟩ := bind_some h
  refine a_call (args := [(eSu8 a0), (.clo 149 [] [(.ref (.clo 133 [] [(.ref (.int .i64 a1c0c0) [] [])]) [] [])])]) (u := []) (r := (.int .i64 r1)) rfl rfl (slices_IndexFunc_byte_byte_of_impl_areAll_byte__c1_p_ok a0 a1c0c0 r1 hr2) rfl ?_
  refine a_val (v := (.bool ((decide (r1 ≥ 0))))) (u := []) rfl trivial rfl ?_
  refine a_val (v := (.bool ((decide (r1 ≥ 0))))) (u := []) rfl trivial rfl ?_
  refine a_nil ?_
  refine a_next rfl ?_
  refine a_ret ?_
  refine ⟨.inr rfl, ?_⟩
  rw [Try.results148]
  cases h
  exact ⟨_, _, _, _, _, rfl, trivial, .inl ⟨rfl, .inl rfl⟩, rfl, rfl⟩
def impl_areAll_byte_of_impl_isPoly_c1_p_c : ACode := (.seq (.region 0 [⟨some 3, .box 127 (.tmp 1), none, []⟩, ⟨some 4, .asg 0 (.const (.bool false)) 4, none, []⟩] false) (.seq (.region 1 [⟨some 5, .mov (.tmp 0), none, []⟩, ⟨some 6, .mkfn 149 [] [(.tmp 3)], none, []⟩, ⟨some 7, .call 0 (.func 148) [(.tmp 5), (.tmp 6)], none, []⟩, ⟨some 8, .un .not (.tmp 7), none, []⟩, ⟨some 4, .asg 0 (.tmp 8) 4, none, []⟩] false) .ret))
def impl_areAll_byte_of_impl_isPoly_c1_p_L : Live := [(0, [0, 1]), (1, [0, 3])]
theorem impl_areAll_byte_of_impl_isPoly_c1_p_body : Try.f132.body = some (Try.f132.body.getD .skip) := by kernel_rfl
theorem impl_areAll_byte_of_impl_isPoly_c1_p_strip : strip [] (Try.f132.body.getD .skip) = impl_areAll_byte_of_impl_isPoly_c1_p_c := by kernel_rfl
noncomputable def impl_areAll_byte_of_impl_isPoly_c1_p (a0 : (List Int)) (a1c0 : Int) : Option Bool :=
  (Option.bind (slices_ContainsFunc_byte_byte_of_impl_areAll_byte__c1_p a0 a1c0) fun r1 => (some (!r1)))
set_option maxHeartbeats 16000000 in
theorem impl_areAll_byte_of_impl_isPoly_c1_p_ok (a0 : (List Int)) (a1c0 : Int) (r : Bool) (h : impl_areAll_byte_of_impl_isPoly_c1_p a0 a1c0 = some r) : Den Try.prog 132 [(eSu8 a0), (.clo 133 [] [(.ref (.int .i64 a1c0) [] [])])] { r := (.bool r) } := by
  refine den_of (rs := [(.bool r)]) (ac := impl_areAll_byte_of_impl_isPoly_c1_p_c) (L := impl_areAll_byte_of_impl_isPoly_c1_p_L) (n := 9) (m := []) good Try.func132 impl_areAll_byte_of_impl_isPoly_c1_p_body (by kernel_rfl) Try.ntmps132 rfl rfl impl_areAll_byte_of_impl_isPoly_c1_p_strip rfl rfl ?_
  refine a_st (σ' := ⟨[(0, (eSu8 a0)), (1, (.clo 133 [] [(.ref (.int .i64 a1c0) [] [])]))], []⟩) rfl ?_
  unfold impl_areAll_byte_of_impl_isPoly_c1_p_c
  refine a_seq ?_
  refine a_region ?_
  refine a_val (v := (.own 1300 [] [])) (u := [(1300, some ⟨(.clo 133 [] [(.ref (.int .i64 a1c0) [] [])]), false⟩)]) rfl trivial rfl ?_
  refine a_val (v := (.bool false)) (u := []) rfl trivial rfl ?_
  refine a_nil ?_
  refine a_next (σ' := ⟨[(0, (eSu8 a0)), (3, (.own 3 [] []))], [(3, some ⟨(.clo 133 [] [(.ref (.int .i64 a1c0) [] [])]), false⟩)]⟩) rfl ?_
  refine a_seq ?_
  refine a_region ?_
  refine a_val (v := (eSu8 a0)) (u := []) rfl trivial rfl ?_
  refine a_val (v := (.clo 149 [] [(.ref (.clo 133 [] [(.ref (.int .i64 a1c0) [] [])]) [] [])])) (u := [(3, some ⟨(.clo 133 [] [(.ref (.int .i64 a1c0) [] [])]), true⟩)]) rfl ⟨all_nil, (all_cons ⟨rfl, rfl⟩ all_nil)⟩ rfl ?_
  obtain ⟨r1, hr2, h⟩ := bind_some h
  refine a_call (args := [(eSu8 a0), (.clo 149 [] [(.ref (.clo 133 [] [(.ref (.int .i64 a1c0) [] [])]) [] [])])]) (u := []) (r := (.bool r1)) rfl rfl (slices_ContainsFunc_byte_byte_of_impl_areAll_byte__c1_p_ok a0 a1c0 r1 hr2) rfl ?_
  refine a_val (v := (.bool (!r1))) (u := []) rfl trivial rfl ?_
  refine a_val (v := (.bool (!r1))) (u := []) rfl trivial rfl ?_
  refine a_nil ?_
  refine a_next rfl ?_
  refine a_ret ?_
  refine ⟨.inr rfl, ?_⟩
  rw [Try.results132]
  cases h
  exact ⟨_, _, _, _, _, rfl, trivial, .inl ⟨rfl, .inl rfl⟩, rfl, rfl⟩
def impl_isPoly_c : ACode := (.seq (.region 0 [⟨some 2, .box 2 (.tmp 0), none, []⟩, ⟨some 3, .box 23 (.tmp 1), none, []⟩, ⟨some 4, .asg 0 (.const (.bool false)) 4, none, []⟩] false) (.seq (.region 1 [⟨some 5, .slice 23 (.tmp 3) none none none, none, []⟩, ⟨some 6, .mkfn 133 [] [(.tmp 2)], none, []⟩, ⟨some 7, .call 0 (.func 132) [(.tmp 5), (.tmp 6)], none, []⟩, ⟨some 4, .asg 0 (.tmp 7) 4, none, []⟩] false) .ret))
def impl_isPoly_L : Live := [(0, [0, 1]), (1, [2, 3])]
theorem impl_isPoly_body : Try.f106.body = some (Try.f106.body.getD .skip) := by kernel_rfl
theorem impl_isPoly_strip : strip [] (Try.f106.body.getD .skip) = impl_isPoly_c := by kernel_rfl
noncomputable def impl_isPoly (a0 : Int) (a1 : (Vec Int 64)) : Option Bool :=
  (Option.bind (impl_areAll_byte_of_impl_isPoly_c1_p a1.1 a0) fun r1 => (some r1))
set_option maxHeartbeats 16000000 in
theorem impl_isPoly_ok (a0 : Int) (a1 : (Vec Int 64)) (r : Bool) (h : impl_isPoly a0 a1 = some r) : Den Try.prog 106 [(.int .i64 a0), (eA64u8 a1)] { r := (.bool r) } := by
  refine den_of (rs := [(.bool r)]) (ac := impl_isPoly_c) (L := impl_isPoly_L) (n := 8) (m := []) good Try.func106 impl_isPoly_body (by kernel_rfl) Try.ntmps106 rfl rfl impl_isPoly_strip rfl rfl ?_
  refine a_st (σ' := ⟨[(0, (.int .i64 a0)), (1, (eA64u8 a1))], []⟩) rfl ?_
  unfold impl_isPoly_c
  refine a_seq ?_
  refine a_region ?_
  refine a_val (v := (.own 1200 [] [])) (u := [(1200, some ⟨(.int .i64 a0), false⟩)]) rfl trivial rfl ?_
  refine a_val (v := (.own 1300 [] [])) (u := [(1300, some ⟨(eA64u8 a1), false⟩)]) rfl trivial rfl ?_
  refine a_val (v := (.bool false)) (u := []) rfl trivial rfl ?_
  refine a_nil ?_
  refine a_next (σ' := ⟨[(2, (.own 2 [] [])), (3, (.own 3 [] []))], [(2, some ⟨(.int .i64 a0), false⟩), (3, some ⟨(eA64u8 a1), false⟩)]⟩) rfl ?_
  refine a_seq ?_
  refine a_region ?_
  refine a_val (v := (.sl 1 true (a1.1.map (AV.int .u8)))) (u := [(3, some ⟨(eA64u8 a1), true⟩)]) rfl ⟨rfl, trivial, rfl, rfl⟩ rfl ?_
  refine a_val (v := (.clo 133 [] [(.ref (.int .i64 a0) [] [])])) (u := [(2, some ⟨(.int .i64 a0), true⟩)]) rfl ⟨all_nil, (all_cons ⟨rfl, rfl⟩ all_nil)⟩ rfl ?_
  obtain ⟨r1, hr2, h⟩ := bind_some h
  refine a_call (args := [(.sl 1 true (a1.1.map (AV.int .u8))), (.clo 133 [] [(.ref (.int .i64 a0) [] [])])]) (u := []) (r := (.bool r1)) rfl rfl (Den.args (impl_areAll_byte_of_impl_isPoly_c1_p_ok a1.1 a0 r1 hr2) rfl rfl (.cons (.loose _) (.cons (.refl _) .nil))) rfl ?_
  refine a_val (v := (.bool r1)) (u := []) rfl trivial rfl ?_
  refine a_nil ?_
  refine a_next rfl ?_
  refine a_ret ?_
  refine ⟨.inr rfl, ?_⟩
  rw [Try.results106]
  cases h
  exact ⟨_, _, _, _, _, rfl, trivial, .inl ⟨rfl, .inl rfl⟩, rfl, rfl⟩
def impl_polysCode_c1_of_p_c : ACode := (.seq (.region 0 [⟨some 2, .box 23 (.tmp 0), none, []⟩, ⟨some 3, .asg 0 (.const (.bool false)) 4, none, []⟩] false) (.seq (.region 1 [⟨some 4, .load 2 (.tmp 1), none, []⟩, ⟨some 5, .load 23 (.tmp 2), none, []⟩, ⟨some 6, .call 0 (.func 106) [(.tmp 4), (.tmp 5)], none, []⟩, ⟨some 3, .asg 0 (.tmp 6) 4, none, []⟩] false) .ret))
def impl_polysCode_c1_of_p_L : Live := [(0, [0, 1]), (1, [1, 2])]
theorem impl_polysCode_c1_of_p_body : Try.f134.body = some (Try.f134.body.getD .skip) := by kernel_rfl
theorem impl_polysCode_c1_of_p_strip : strip [] (Try.f134.body.getD .skip) = impl_polysCode_c1_of_p_c := by kernel_rfl
noncomputable def impl_polysCode_c1_of_p (a0 : (Vec Int 64)) (a1 : Int) : Option Bool :=
  (Option.bind (impl_isPoly a1 a0) fun r3 => (some r3))
set_option maxHeartbeats 16000000 in
theorem impl_polysCode_c1_of_p_ok (a0 : (Vec Int 64)) (a1 : Int) (r : Bool) (h : impl_polysCode_c1_of_p a0 a1 = some r) : Den Try.prog 134 [(eA64u8 a0), (.ref (.int .i64 a1) [] [])] { r := (.bool r) } := by
  refine den_of (rs := [(.bool r)]) (ac := impl_polysCode_c1_of_p_c) (L := impl_polysCode_c1_of_p_L) (n := 7) (m := []) good Try.func134 impl_polysCode_c1_of_p_body (by kernel_rfl) Try.ntmps134 rfl rfl impl_polysCode_c1_of_p_strip rfl rfl ?_
  refine a_st (σ' := ⟨[(0, (eA64u8 a0)), (1, (.ref (.int .i64 a1) [] []))], []⟩) rfl ?_
  unfold impl_polysCode_c1_of_p_c
  refine a_seq ?_
  refine a_region ?_
  refine a_val (v := (.own 1200 [] [])) (u := [(1200, some ⟨(eA64u8 a0), false⟩)]) rfl trivial rfl ?_
  refine a_val (v := (.bool false)) (u := []) rfl trivial rfl ?_
  refine a_nil ?_
  refine a_next (σ' := ⟨[(1, (.ref (.int .i64 a1) [] [])), (2, (.own 2 [] []))], [(2, some ⟨(eA64u8 a0), false⟩)]⟩) rfl ?_
  refine a_seq ?_
  refine a_region ?_
  have hl1 : LdOk [] (.int .i64 a1) [] 1 false (.int .i64 a1) := (.nil rfl rfl rfl)
  refine a_val (v := (.int .i64 a1)) (u := []) (ld_ref (i := ⟨.int .i64, 1, 8, (.int .i64 0)⟩) rfl rfl hl1) hl1.c rfl ?_
  have hl2 : LdOk [] (eA64u8 a0) [] 64 true (eA64u8 a0) := (.nil rfl rfl rfl)
  refine a_val (v := (eA64u8 a0)) (u := []) (ld_own (i := ⟨.arr 64 5, 64, 64, (eA64u8 (vrep 64 (0 : Int)))⟩) rfl rfl rfl hl2) hl2.c rfl ?_
  obtain ⟨r3, hr4, h⟩ := bind_some h
  refine a_call (args := [(.int .i64 a1), (eA64u8 a0)]) (u := []) (r := (.bool r3)) rfl rfl (impl_isPoly_ok a1 a0 r3 hr4) rfl ?_
  refine a_val (v := (.bool r3)) (u := []) rfl trivial rfl ?_
  refine a_nil ?_
  refine a_next rfl ?_
  refine a_ret ?_
  refine ⟨.inr rfl, ?_⟩
  rw [Try.results134]
  cases h
  exact ⟨_, _, _, _, _, rfl, trivial, .inl ⟨rfl, .inl rfl⟩, rfl, rfl⟩
def impl_areAll_impl_Poly__c1_of_p_c : ACode := (.seq (.region 0 [⟨some 2, .box 23 (.tmp 0), none, []⟩, ⟨some 3, .asg 0 (.const (.bool false)) 4, none, []⟩] false) (.seq (.region 1 [⟨some 4, .load 77 (.tmp 1), none, []⟩, ⟨some 5, .load 23 (.tmp 2), none, []⟩, ⟨some 6, .call 0 (.tmp 4) [(.tmp 5)], none, []⟩, ⟨some 7, .un .not (.tmp 6), none, []⟩, ⟨some 3, .asg 0 (.tmp 7) 4, none, []⟩] false) .ret))
def impl_areAll_impl_Poly__c1_of_p_L : Live := [(0, [0, 1]), (1, [1, 2])]
theorem impl_areAll_impl_Poly__c1_of_p_body : Try.f140.body = some (Try.f140.body.getD .skip) := by kernel_rfl
theorem impl_areAll_impl_Poly__c1_of_p_strip : strip [] (Try.f140.body.getD .skip) = impl_areAll_impl_Poly__c1_of_p_c := by kernel_rfl
noncomputable def impl_areAll_impl_Poly__c1_of_p (a0 : (Vec Int 64)) (a1c0 : Int) : Option Bool :=
  (Option.bind (impl_polysCode_c1_of_p a0 a1c0) fun r3 => (some (!r3)))
set_option maxHeartbeats 16000000 in
theorem impl_areAll_impl_Poly__c1_of_p_ok (a0 : (Vec Int 64)) (a1c0 : Int) (r : Bool) (h : impl_areAll_impl_Poly__c1_of_p a0 a1c0 = some r) : Den Try.prog 140 [(eA64u8 a0), (.ref (.clo 134 [] [(.ref (.int .i64 a1c0) [] [])]) [] [])] { r := (.bool r) } := by
  refine den_of (rs := [(.bool r)]) (ac := impl_areAll_impl_Poly__c1_of_p_c) (L := impl_areAll_impl_Poly__c1_of_p_L) (n := 8) (m := []) good Try.func140 impl_areAll_impl_Poly__c1_of_p_body (by kernel_rfl) Try.ntmps140 rfl rfl impl_areAll_impl_Poly__c1_of_p_strip rfl rfl ?_
  refine a_st (σ' := ⟨[(0, (eA64u8 a0)), (1, (.ref (.clo 134 [] [(.ref (.int .i64 a1c0) [] [])]) [] []))], []⟩) rfl ?_
  unfold impl_areAll_impl_Poly__c1_of_p_c
  refine a_seq ?_
  refine a_region ?_
  refine a_val (v := (.own 1200 [] [])) (u := [(1200, some ⟨(eA64u8 a0), false⟩)]) rfl trivial rfl ?_
  refine a_val (v := (.bool false)) (u := []) rfl trivial rfl ?_
  refine a_nil ?_
  refine a_next (σ' := ⟨[(1, (.ref (.clo 134 [] [(.ref (.int .i64 a1c0) [] [])]) [] [])), (2, (.own 2 [] []))], [(2, some ⟨(eA64u8 a0), false⟩)]⟩) rfl ?_
  refine a_seq ?_
  refine a_region ?_
  have hl1 : LdOk [] (.clo 134 [] [(.ref (.int .i64 a1c0) [] [])]) [] 1 false (.clo 134 [] [(.ref (.int .i64 a1c0) [] [])]) := (.nil rfl rfl rfl)
  refine a_val (v := (.clo 134 [] [(.ref (.int .i64 a1c0) [] [])])) (u := []) (ld_ref (i := ⟨.other, 1, 8, (.raw .nilFunc)⟩) rfl rfl hl1) hl1.c rfl ?_
  have hl2 : LdOk [] (eA64u8 a0) [] 64 true (eA64u8 a0) := (.nil rfl rfl rfl)
  refine a_val (v := (eA64u8 a0)) (u := []) (ld_own (i := ⟨.arr 64 5, 64, 64, (eA64u8 (vrep 64 (0 : Int)))⟩) rfl rfl rfl hl2) hl2.c rfl ?_
  obtain ⟨r3, hr4, h⟩ := bind_some h
  refine a_call (args := [(eA64u8 a0), (.ref (.int .i64 a1c0) [] [])]) (u := []) (r := (.bool r3)) rfl rfl (impl_polysCode_c1_of_p_ok a0 a1c0 r3 hr4) rfl ?_
  refine a_val (v := (.bool (!r3))) (u := []) rfl trivial rfl ?_
  refine a_val (v := (.bool (!r3))) (u := []) rfl trivial rfl ?_
  refine a_nil ?_
  refine a_next rfl ?_
  refine a_ret ?_
  refine ⟨.inr rfl, ?_⟩
  rw [Try.results140]
  cases h
  exact ⟨_, _, _, _, _, rfl, trivial, .inl ⟨rfl, .inl rfl⟩, rfl, rfl⟩
def slices_IndexFunc_impl_Poly_impl_Poly_of_impl_areAll_impl_Poly__c1_p_c : ACode := (.seq (.region 0 [⟨some 4, .asg 0 (.const (.int .i64 0)) 3, none, []⟩] false) (.seq (.seq (.region 1 [⟨some 6, .mov (.tmp 0), none, []⟩, ⟨some 7, .blt 0 .len [(.tmp 6)] [40], none, []⟩, ⟨some 8, .mov (.const (.int .i64 0)), none, []⟩] false) (.block 0 (.loop (.seq (.region 2 [⟨some 9, .bin .lss 3 (.tmp 8) (.tmp 7), none, []⟩] false) (.seq (.cond (.tmp 9) .skip (.exit 0)) (.seq (.block 1 (.seq (.region 3 [⟨some 10, .mov (.tmp 8), none, []⟩, ⟨some 5, .asg 0 (.tmp 10) 3, none, []⟩] false) (.seq (.region 4 [⟨some 11, .mov (.tmp 1), none, []⟩, ⟨some 12, .mov (.tmp 0), none, []⟩, ⟨some 13, .mov (.tmp 5), none, []⟩, ⟨some 14, .indexAddr 40 (.tmp 12) (.tmp 13), none, []⟩, ⟨some 15, .load 23 (.tmp 14), none, []⟩, ⟨some 16, .call 0 (.tmp 11) [(.tmp 15)], none, []⟩] false) (.cond (.tmp 16) (.seq (.region 5 [⟨some 17, .mov (.tmp 5), none, []⟩, ⟨some 4, .asg 0 (.tmp 17) 3, none, []⟩] false) .ret) .skip)))) (.region 6 [⟨some 18, .bin .add 3 (.tmp 8) (.const (.int .i64 1)), none, []⟩, ⟨some 8, .mov (.tmp 18), none, []⟩] false))))))) (.seq (.region 7 [⟨some 4, .asg 0 (.const (.int .i64 (-1))) 3, none, []⟩] false) .ret)))
def slices_IndexFunc_impl_Poly_impl_Poly_of_impl_areAll_impl_Poly__c1_p_L : Live := [(0, [0, 1]), (1, [0, 1]), (2, [0, 1, 7, 8]), (3, [0, 1, 7, 8]), (4, [0, 1, 5, 7, 8]), (5, [5]), (6, [0, 1, 7, 8]), (7, []), (100009, [0, 1, 7, 8, 9]), (100016, [0, 1, 5, 7, 8, 16])]
theorem slices_IndexFunc_impl_Poly_impl_Poly_of_impl_areAll_impl_Poly__c1_p_body : Try.f154.body = some (Try.f154.body.getD .skip) := by kernel_rfl
theorem slices_IndexFunc_impl_Poly_impl_Poly_of_impl_areAll_impl_Poly__c1_p_strip : strip [] (Try.f154.body.getD .skip) = slices_IndexFunc_impl_Poly_impl_Poly_of_impl_areAll_impl_Poly__c1_p_c := by kernel_rfl
noncomputable def slices_IndexFunc_impl_Poly_impl_Poly_of_impl_areAll_impl_Poly__c1_p_l1 (a0 : (List (Vec Int 64))) (a1c0c0 : Int) (x33 : Int) : Option (Int ⊕ (Unit ⊕ Int)) :=
  (if (decide (x33 < (a0.length : Int))) then (ifp (0 ≤ x33 ∧ x33 < ((a0.length : Nat) : Int)) ((Option.bind (impl_areAll_impl_Poly__c1_of_p (rd a0 x33.toNat) a1c0c0) fun r46 => (if r46 then (some (.inr (.inr x33))) else (some (.inl (IntKind.i64.wrap (x33 + 1)))))))) else (some (.inr (((.inl ()))))))
noncomputable def slices_IndexFunc_impl_Poly_impl_Poly_of_impl_areAll_impl_Poly__c1_p (a0 : (List (Vec Int 64))) (a1c0c0 : Int) : Option Int :=
  (Option.bind (α := (Unit ⊕ Int)) ((loopM (fun s : Int => slices_IndexFunc_impl_Poly_impl_Poly_of_impl_areAll_impl_Poly__c1_p_l1 a0 a1c0c0 s) 0)) fun z => match z with | .inl _ => (some (-1)) | .inr r50 => (some r50))
set_option maxHeartbeats 16000000 in
theorem slices_IndexFunc_impl_Poly_impl_Poly_of_impl_areAll_impl_Poly__c1_p_ok (a0 : (List (Vec Int 64))) (a1c0c0 : Int) (r : Int) (h : slices_IndexFunc_impl_Poly_impl_Poly_of_impl_areAll_impl_Poly__c1_p a0 a1c0c0 = some r) : Den Try.prog 154 [(eSA64u8 a0), (.clo 140 [] [(.ref (.clo 134 [] [(.ref (.int .i64 a1c0c0) [] [])]) [] [])])] { r := (.int .i64 r) } := by
  refine den_of (rs := [(.int .i64 r)]) (ac := slices_IndexFunc_impl_Poly_impl_Poly_of_impl_areAll_impl_Poly__c1_p_c) (L := slices_IndexFunc_impl_Poly_impl_Poly_of_impl_areAll_impl_Poly__c1_p_L) (n := 19) (m := []) good Try.func154 slices_IndexFunc_impl_Poly_impl_Poly_of_impl_areAll_impl_Poly__c1_p_body (by kernel_rfl) Try.ntmps154 rfl rfl slices_IndexFunc_impl_Poly_impl_Poly_of_impl_areAll_impl_Poly__c1_p_strip rfl rfl ?_
  refine a_st (σ' := ⟨[(0, (eSA64u8 a0)), (1, (.clo 140 [] [(.ref (.clo 134 [] [(.ref (.int .i64 a1c0c0) [] [])]) [] [])]))], []⟩) rfl ?_
  unfold slices_IndexFunc_impl_Poly_impl_Poly_of_impl_areAll_impl_Poly__c1_p_c
  refine a_seq ?_
  refine a_region ?_
  refine a_val (v := (.int .i64 0)) (u := []) rfl trivial rfl ?_
  refine a_nil ?_
  refine a_next (σ' := ⟨[(0, (eSA64u8 a0)), (1, (.clo 140 [] [(.ref (.clo 134 [] [(.ref (.int .i64 a1c0c0) [] [])]) [] [])]))], []⟩) rfl ?_
  obtain ⟨y24, hy25, hk26⟩ := bind_some h
  clear h
  refine a_join (emb := fun (s : Unit) => ⟨[], []⟩) (pre := fun s => (.inl s) = y24) ?_ ?_
  · rintro _ rfl
    have h := hk26
    refine a_st (σ' := ⟨[], []⟩) rfl ?_
    refine a_seq ?_
    refine a_region ?_
    refine a_val (v := (.int .i64 (-1))) (u := []) rfl trivial rfl ?_
    refine a_nil ?_
    refine a_next rfl ?_
    refine a_ret ?_
    refine ⟨.inr rfl, ?_⟩
    rw [Try.results154]
    cases h
    exact ⟨_, _, _, _, _, rfl, trivial, .inl ⟨rfl, .inl rfl⟩, rfl, rfl⟩
  · have h := hy25
    refine a_seq ?_
    refine a_region ?_
    refine a_val (v := (eSA64u8 a0)) (u := []) rfl trivial rfl ?_
    refine a_val (v := (.int .i64 (a0.length : Int))) (u := []) (len_run rfl rfl) trivial rfl ?_
    refine a_val (v := (.int .i64 0)) (u := []) rfl trivial rfl ?_
    refine a_nil ?_
    refine a_next (σ' := ⟨[(0, (eSA64u8 a0)), (1, (.clo 140 [] [(.ref (.clo 134 [] [(.ref (.int .i64 a1c0c0) [] [])]) [] [])])), (7, (.int .i64 (a0.length : Int))), (8, (.int .i64 0))], []⟩) rfl ?_
    refine a_block ?_
    refine a_loop (emb := fun (s : Int) => ⟨[(0, (eSA64u8 a0)), (1, (.clo 140 [] [(.ref (.clo 134 [] [(.ref (.int .i64 a1c0c0) [] [])]) [] [])])), (7, (.int .i64 (a0.length : Int))), (8, (.int .i64 s))], []⟩) (body := (fun s : Int => slices_IndexFunc_impl_Poly_impl_Poly_of_impl_areAll_impl_Poly__c1_p_l1 a0 a1c0c0 s)) (G := fun q => some q = some y24) h rfl ?_ rfl
    rintro X40 x33 x41 h hX42
    have h : slices_IndexFunc_impl_Poly_impl_Poly_of_impl_areAll_impl_Poly__c1_p_l1 a0 a1c0c0 x33 = some x41 := h
    refine a_st (σ' := ⟨[(0, (eSA64u8 a0)), (1, (.clo 140 [] [(.ref (.clo 134 [] [(.ref (.int .i64 a1c0c0) [] [])]) [] [])])), (7, (.int .i64 (a0.length : Int))), (8, (.int .i64 x33))], []⟩) rfl ?_
    refine a_seq ?_
    refine a_region ?_
    refine a_val (v := (.bool ((decide (x33 < (a0.length : Int)))))) (u := []) rfl trivial rfl ?_
    refine a_nil ?_
    refine a_next (σ' := ⟨[(0, (eSA64u8 a0)), (1, (.clo 140 [] [(.ref (.clo 134 [] [(.ref (.int .i64 a1c0c0) [] [])]) [] [])])), (7, (.int .i64 (a0.length : Int))), (8, (.int .i64 x33)), (9, (.bool ((decide (x33 < (a0.length : Int))))))], []⟩) rfl ?_
    refine a_seq ?_
    cases hb43 : (decide (x33 < (a0.length : Int)))
    · have h := ite_f hb43 h
      refine a_cond_f rfl ?_
      refine a_exit ?_
      refine t_exit ?_
      cases h
      have h := hX42
      refine t_exit ?_
      refine b_exit ?_
      exact j_leaf () (Option.some.inj h) rfl
    · have h := ite_t hb43 h
      refine a_cond_t rfl ?_
      refine a_skip ?_
      refine a_next (σ' := ⟨[(0, (eSA64u8 a0)), (1, (.clo 140 [] [(.ref (.clo 134 [] [(.ref (.int .i64 a1c0c0) [] [])]) [] [])])), (7, (.int .i64 (a0.length : Int))), (8, (.int .i64 x33))], []⟩) rfl ?_
      refine a_seq ?_
      refine a_block ?_
      refine a_seq ?_
      refine a_region ?_
      refine a_val (v := (.int .i64 x33)) (u := []) rfl trivial rfl ?_
      refine a_val (v := (.int .i64 x33)) (u := []) rfl trivial rfl ?_
      refine a_nil ?_
      refine a_next (σ' := ⟨[(0, (eSA64u8 a0)), (1, (.clo 140 [] [(.ref (.clo 134 [] [(.ref (.int .i64 a1c0c0) [] [])]) [] [])])), (5, (.int .i64 x33)), (7, (.int .i64 (a0.length : Int))), (8, (.int .i64 x33))], []⟩) rfl ?_
      refine a_seq ?_
      refine a_region ?_
      refine a_val (v := (.clo 140 [] [(.ref (.clo 134 [] [(.ref (.int .i64 a1c0c0) [] [])]) [] [])])) (u := []) rfl trivial rfl ?_
      refine a_val (v := (eSA64u8 a0)) (u := []) rfl trivial rfl ?_
      refine a_val (v := (.int .i64 x33)) (u := []) rfl trivial rfl ?_
      obtain ⟨hc44, h⟩ := ifp_some h
      refine a_val (v := (.ref (.row 64 (a0.map eA64u8)) [x33.toNat] [x33.toNat * 64])) (u := []) rfl (lmap hc44) rfl ?_
      have hl45 : LdOk [x33.toNat] (.row 64 (a0.map eA64u8)) [x33.toNat * 64] 64 true (eA64u8 (rd a0 x33.toNat)) := (.row (llt hc44) rfl (.nil rfl rfl rfl))
      refine a_val (v := (eA64u8 (rd a0 x33.toNat))) (u := []) (ld_ref (i := ⟨.arr 64 5, 64, 64, (eA64u8 (vrep 64 (0 : Int)))⟩) rfl rfl hl45) hl45.c rfl ?_
      obtain ⟨r46, hr47, h⟩ := bind_some h
      refine a_call (args := [(eA64u8 (rd a0 x33.toNat)), (.ref (.clo 134 [] [(.ref (.int .i64 a1c0c0) [] [])]) [] [])]) (u := []) (r := (.bool r46)) rfl rfl (impl_areAll_impl_Poly__c1_of_p_ok (rd a0 x33.toNat) a1c0c0 r46 hr47) rfl ?_
      refine a_nil ?_
      refine a_next (σ' := ⟨[(0, (eSA64u8 a0)), (1, (.clo 140 [] [(.ref (.clo 134 [] [(.ref (.int .i64 a1c0c0) [] [])]) [] [])])), (5, (.int .i64 x33)), (7, (.int .i64 (a0.length : Int))), (8, (.int .i64 x33)), (16, (.bool r46))], []⟩) rfl ?_
      cases hb48 : r46
      · have h := ite_f hb48 h
        refine a_cond_f rfl ?_
        refine a_skip ?_
        refine b_norm ?_
        refine a_next (σ' := ⟨[(0, (eSA64u8 a0)), (1, (.clo 140 [] [(.ref (.clo 134 [] [(.ref (.int .i64 a1c0c0) [] [])]) [] [])])), (7, (.int .i64 (a0.length : Int))), (8, (.int .i64 x33))], []⟩) rfl ?_
        refine a_region ?_
        refine a_val (v := (.int .i64 (IntKind.i64.wrap (x33 + 1)))) (u := []) rfl trivial rfl ?_
        refine a_val (v := (.int .i64 (IntKind.i64.wrap (x33 + 1)))) (u := []) rfl trivial rfl ?_
        refine a_nil ?_
        cases h
        exact a_again rfl hX42
      · have h := ite_t hb48 h
        refine a_cond_t rfl ?_
        refine a_seq ?_
        refine a_region ?_
        refine a_val (v := (.int .i64 x33)) (u := []) rfl trivial rfl ?_
        refine a_val (v := (.int .i64 x33)) (u := []) rfl trivial rfl ?_
        refine a_nil ?_
        refine a_next rfl ?_
        refine a_ret ?_
        refine b_ret ?_
        refine t_ret ?_
        cases h
        have h := hX42
        refine t_ret ?_
        refine b_ret ?_
        refine t_ret ?_
        cases h
        have h := hk26
        refine ⟨.inr rfl, ?_⟩
        rw [Try.results154]
        cases h
        exact ⟨_, _, _, _, _, rfl, trivial, .inl ⟨rfl, .inl rfl⟩, rfl, rfl⟩
def slices_ContainsFunc_impl_Poly_impl_Poly_of_impl_areAll_impl_Poly__c1_p_c : ACode := (.seq (.region 0 [⟨some 4, .asg 0 (.const (.bool false)) 4, none, []⟩] false) (.seq (.region 1 [⟨some 5, .mov (.tmp 0), none, []⟩, ⟨some 6, .mov (.tmp 1), none, []⟩, ⟨some 7, .call 0 (.func 154) [(.tmp 5), (.tmp 6)], none, []⟩, ⟨some 8, .bin .geq 3 (.tmp 7) (.const (.int .i64 0)), none, []⟩, ⟨some 4, .asg 0 (.tmp 8) 4, none, []⟩] false) .ret))
def slices_ContainsFunc_impl_Poly_impl_Poly_of_impl_areAll_impl_Poly__c1_p_L : Live := [(0, [0, 1]), (1, [0, 1])]
theorem slices_ContainsFunc_impl_Poly_impl_Poly_of_impl_areAll_impl_Poly__c1_p_body : Try.f139.body = some (Try.f139.body.getD .skip) := by kernel_rfl
theorem slices_ContainsFunc_impl_Poly_impl_Poly_of_impl_areAll_impl_Poly__c1_p_strip : strip [] (Try.f139.body.getD .skip) = slices_ContainsFunc_impl_Poly_impl_Poly_of_impl_areAll_impl_Poly__c1_p_c := by kernel_rfl
noncomputable def slices_ContainsFunc_impl_Poly_impl_Poly_of_impl_areAll_impl_Poly__c1_p (a0 : (List (Vec Int 64))) (a1c0c0 : Int) : Option Bool :=
  (Option.bind (slices_IndexFunc_impl_Poly_impl_Poly_of_impl_areAll_impl_Poly__c1_p a0 a1c0c0) fun r1 => (some ((decide (r1 ≥ 0)))))
set_option maxHeartbeats 16000000 in
theorem slices_ContainsFunc_impl_Poly_impl_Poly_of_impl_areAll_impl_Poly__c1_p_ok (a0 : (List (Vec Int 64))) (a1c0c0 : Int) (r : Bool) (h : slices_ContainsFunc_impl_Poly_impl_Poly_of_impl_areAll_impl_Poly__c1_p a0 a1c0c0 = some r) : Den Try.prog 139 [(eSA64u8 a0), (.clo 140 [] [(.ref (.clo 134 [] [(.ref (.int .i64 a1c0c0) [] [])]) [] [])])] { r := (.bool r) } := by
  refine den_of (rs := [(.bool r)]) (ac := slices_ContainsFunc_impl_Poly_impl_Poly_of_impl_areAll_impl_Poly__c1_p_c) (L := slices_ContainsFunc_impl_Poly_impl_Poly_of_impl_areAll_impl_Poly__c1_p_L) (n := 9) (m := []) good Try.func139 slices_ContainsFunc_impl_Poly_impl_Poly_of_impl_areAll_impl_Poly__c1_p_body (by kernel_rfl) Try.ntmps139 rfl rfl slices_ContainsFunc_impl_Poly_impl_Poly_of_impl_areAll_impl_Poly__c1_p_strip rfl rfl ?_
  refine a_st (σ' := ⟨[(0, (eSA64u8 a0)), (1, (.clo 140 [] [(.ref (.clo 134 [] [(.ref (.int .i64 a1c0c0) [] [])]) [] [])]))], []⟩) rfl ?_
  unfold slices_ContainsFunc_impl_Poly_impl_Poly_of_impl_areAll_impl_Poly__c1_p_c
  refine a_seq ?_
  refine a_region ?_
  refine a_val (v := (.bool false)) (u := []) rfl trivial rfl ?_
  refine a_nil ?_
  refine a_next (σ' := ⟨[(0, (eSA64u8 a0)), (1, (.clo 140 [] [(.ref (.clo 134 [] [(.ref (.int .i64 a1c0c0) [] [])]) [] [])]))], []⟩) rfl ?_
  refine a_seq ?_
  refine a_region ?_
  refine a_val (v := (eSA64u8 a0)) (u := []) rfl trivial rfl ?_
  refine a_val (v := (.clo 140 [] [(.ref (.clo 134 [] [(.ref (.int .i64 a1c0c0) [] [])]) [] [])])) (u := []) rfl trivial rfl ?_
  obtain ⟨r1, hr2, h⟩ := bind_some h
  refine a_call (args := [(eSA64u8 a0), (.clo 140 [] [(.ref (.clo 134 [] [(.ref (.int .i64 a1c0c0) [] [])]) [] [])])]) (u := []) (r := (.int .i64 r1)) rfl rfl (slices_IndexFunc_impl_Poly_impl_Poly_of_impl_areAll_impl_Poly__c1_p_ok a0 a1c0c0 r1 hr2) rfl ?_
  refine a_val (v := (.bool ((decide (r1 ≥ 0))))) (u := []) rfl trivial rfl ?_
  refine a_val (v := (.bool ((decide (r1 ≥ 0))))) (u := []) rfl trivial rfl ?_
  refine a_nil ?_
  refine a_next rfl ?_
  refine a_ret ?_
  refine ⟨.inr rfl, ?_⟩
  rw [Try.results139]
  cases h
  exact ⟨_, _, _, _, _, rfl, trivial, .inl ⟨rfl, .inl rfl⟩, rfl, rfl⟩
def impl_areAll_impl_Poly_of_impl_polysCode_c1_p_c : ACode := (.seq (.region 0 [⟨some 3, .box 77 (.tmp 1), none, []⟩, ⟨some 4, .asg 0 (.const (.bool false)) 4, none, []⟩] false) (.seq (.region 1 [⟨some 5, .mov (.tmp 0), none, []⟩, ⟨some 6, .mkfn 140 [] [(.tmp 3)], none, []⟩, ⟨some 7, .call 0 (.func 139) [(.tmp 5), (.tmp 6)], none, []⟩, ⟨some 8, .un .not (.tmp 7), none, []⟩, ⟨some 4, .asg 0 (.tmp 8) 4, none, []⟩] false) .ret))
def impl_areAll_impl_Poly_of_impl_polysCode_c1_p_L : Live := [(0, [0, 1]), (1, [0, 3])]
theorem impl_areAll_impl_Poly_of_impl_polysCode_c1_p_body : Try.f116.body = some (Try.f116.body.getD .skip) := by kernel_rfl
theorem impl_areAll_impl_Poly_of_impl_polysCode_c1_p_strip : strip [] (Try.f116.body.getD .skip) = impl_areAll_impl_Poly_of_impl_polysCode_c1_p_c := by kernel_rfl
noncomputable def impl_areAll_impl_Poly_of_impl_polysCode_c1_p (a0 : (List (Vec Int 64))) (a1c0 : Int) : Option Bool :=
  (Option.bind (slices_ContainsFunc_impl_Poly_impl_Poly_of_impl_areAll_impl_Poly__c1_p a0 a1c0) fun r1 => (some (!r1)))
set_option maxHeartbeats 16000000 in
theorem impl_areAll_impl_Poly_of_impl_polysCode_c1_p_ok (a0 : (List (Vec Int 64))) (a1c0 : Int) (r : Bool) (h : impl_areAll_impl_Poly_of_impl_polysCode_c1_p a0 a1c0 = some r) : Den Try.prog 116 [(eSA64u8 a0), (.clo 134 [] [(.ref (.int .i64 a1c0) [] [])])] { r := (.bool r) } := by
  refine den_of (rs := [(.bool r)]) (ac := impl_areAll_impl_Poly_of_impl_polysCode_c1_p_c) (L := impl_areAll_impl_Poly_of_impl_polysCode_c1_p_L) (n := 9) (m := []) good Try.func116 impl_areAll_impl_Poly_of_impl_polysCode_c1_p_body (by kernel_rfl) Try.ntmps116 rfl rfl impl_areAll_impl_Poly_of_impl_polysCode_c1_p_strip rfl rfl ?_
  refine a_st (σ' := ⟨[(0, (eSA64u8 a0)), (1, (.clo 134 [] [(.ref (.int .i64 a1c0) [] [])]))], []⟩) rfl ?_
  unfold impl_areAll_impl_Poly_of_impl_polysCode_c1_p_c
  refine a_seq ?_
  refine a_region ?_
  refine a_val (v := (.own 1300 [] [])) (u := [(1300, some ⟨(.clo 134 [] [(.ref (.int .i64 a1c0) [] [])]), false⟩)]) rfl trivial rfl ?_
  refine a_val (v := (.bool false)) (u := []) rfl trivial rfl ?_
  refine a_nil ?_
  refine a_next (σ' := ⟨[(0, (eSA64u8 a0)), (3, (.own 3 [] []))], [(3, some ⟨(.clo 134 [] [(.ref (.int .i64 a1c0) [] [])]), false⟩)]⟩) rfl ?_
  refine a_seq ?_
  refine a_region ?_
  refine a_val (v := (eSA64u8 a0)) (u := []) rfl trivial rfl ?_
  refine a_val (v := (.clo 140 [] [(.ref (.clo 134 [] [(.ref (.int .i64 a1c0) [] [])]) [] [])])) (u := [(3, some ⟨(.clo 134 [] [(.ref (.int .i64 a1c0) [] [])]), true⟩)]) rfl ⟨all_nil, (all_cons ⟨rfl, rfl⟩ all_nil)⟩ rfl ?_
  obtain ⟨r1, hr2, h⟩ := bind_some h
  refine a_call (args := [(eSA64u8 a0), (.clo 140 [] [(.ref (.clo 134 [] [(.ref (.int .i64 a1c0) [] [])]) [] [])])]) (u := []) (r := (.bool r1)) rfl rfl (slices_ContainsFunc_impl_Poly_impl_Poly_of_impl_areAll_impl_Poly__c1_p_ok a0 a1c0 r1 hr2) rfl ?_
  refine a_val (v := (.bool (!r1))) (u := []) rfl trivial rfl ?_
  refine a_val (v := (.bool (!r1))) (u := []) rfl trivial rfl ?_
  refine a_nil ?_
  refine a_next rfl ?_
  refine a_ret ?_
  refine ⟨.inr rfl, ?_⟩
  rw [Try.results116]
  cases h
  exact ⟨_, _, _, _, _, rfl, trivial, .inl ⟨rfl, .inl rfl⟩, rfl, rfl⟩
def impl_polysCode_c : ACode := (.seq (.region 0 [⟨some 2, .box 2 (.tmp 0), none, []⟩, ⟨some 4, .asg 0 (.const (.int .i64 0)) 2, none, []⟩] false) (.seq (.seq (.region 1 [⟨some 5, .load 2 (.tmp 2), none, []⟩, ⟨some 6, .call 0 (.func 59) [(.tmp 5)], none, []⟩, ⟨some 7, .un .not (.tmp 6), none, []⟩, ⟨some 8, .mov (.tmp 7), none, []⟩, ⟨some 9, .mov (.tmp 1), some (8, false), []⟩, ⟨some 10, .mkfn 134 [] [(.tmp 2)], some (8, false), []⟩, ⟨some 11, .call 0 (.func 116) [(.tmp 9), (.tmp 10)], some (8, false), []⟩, ⟨some 12, .un .not (.tmp 11), some (8, false), []⟩, ⟨some 13, .pick (.tmp 8) (.const (.bool true)) (.tmp 12), none, []⟩] false) (.cond (.tmp 13) (.seq (.region 2 [⟨some 4, .asg 0 (.const (.int .i64 1)) 2, none, []⟩] false) .ret) .skip)) (.seq (.region 3 [⟨some 4, .asg 0 (.const (.int .i64 0)) 2, none, []⟩] false) .ret)))
def impl_polysCode_L : Live := [(0, [0, 1]), (1, [1, 2]), (2, []), (3, []), (100013, [13])]
theorem impl_polysCode_body : Try.f108.body = some (Try.f108.body.getD .skip) := by kernel_rfl
theorem impl_polysCode_strip : strip [] (Try.f108.body.getD .skip) = impl_polysCode_c := by kernel_rfl
noncomputable def impl_polysCode (a0 : Int) (a1 : (List (Vec Int 64))) : Option Int :=
  (Option.bind (α := Bool) ((Option.bind (impl_isPrime a0) fun r12 => (if (!r12) then (some true) else (Option.bind (impl_areAll_impl_Poly_of_impl_polysCode_c1_p a1 a0) fun r15 => (some (!r15)))))) fun x7 => (if x7 then (some 1) else (some 0)))
set_option maxHeartbeats 16000000 in
theorem impl_polysCode_ok (a0 : Int) (a1 : (List (Vec Int 64))) (r : Int) (h : impl_polysCode a0 a1 = some r) : Den Try.prog 108 [(.int .i64 a0), (eSA64u8 a1)] { r := (.int .i64 r) } := by
  refine den_of (rs := [(.int .i64 r)]) (ac := impl_polysCode_c) (L := impl_polysCode_L) (n := 14) (m := []) good Try.func108 impl_polysCode_body (by kernel_rfl) Try.ntmps108 rfl rfl impl_polysCode_strip rfl rfl ?_
  refine a_st (σ' := ⟨[(0, (.int .i64 a0)), (1, (eSA64u8 a1))], []⟩) rfl ?_
  unfold impl_polysCode_c
  refine a_seq ?_
  refine a_region ?_
  refine a_val (v := (.own 1200 [] [])) (u := [(1200, some ⟨(.int .i64 a0), false⟩)]) rfl trivial rfl ?_
  refine a_val (v := (.int .i64 0)) (u := []) rfl trivial rfl ?_
  refine a_nil ?_
  refine a_next (σ' := ⟨[(1, (eSA64u8 a1)), (2, (.own 2 [] []))], [(2, some ⟨(.int .i64 a0), false⟩)]⟩) rfl ?_
  refine a_seq ?_
  obtain ⟨y8, hy9, hk10⟩ := bind_some h
  clear h
  refine a_join (emb := fun (s : Bool) => ⟨[(13, (.bool s))], []⟩) (pre := fun s => s = y8) ?_ ?_
  · rintro x7 rfl
    have h := hk10
    refine a_st (σ' := ⟨[(13, (.bool x7))], []⟩) rfl ?_
    cases hb17 : x7
    · have h := ite_f hb17 h
      refine a_cond_f rfl ?_
      refine a_skip ?_
      refine a_next (σ' := ⟨[], []⟩) rfl ?_
      refine a_seq ?_
      refine a_region ?_
      refine a_val (v := (.int .i64 0)) (u := []) rfl trivial rfl ?_
      refine a_nil ?_
      refine a_next rfl ?_
      refine a_ret ?_
      refine ⟨.inr rfl, ?_⟩
      rw [Try.results108]
      cases h
      exact ⟨_, _, _, _, _, rfl, trivial, .inl ⟨rfl, .inl rfl⟩, rfl, rfl⟩
    · have h := ite_t hb17 h
      refine a_cond_t rfl ?_
      refine a_seq ?_
      refine a_region ?_
      refine a_val (v := (.int .i64 1)) (u := []) rfl trivial rfl ?_
      refine a_nil ?_
      refine a_next rfl ?_
      refine a_ret ?_
      refine t_ret ?_
      refine ⟨.inr rfl, ?_⟩
      rw [Try.results108]
      cases h
      exact ⟨_, _, _, _, _, rfl, trivial, .inl ⟨rfl, .inl rfl⟩, rfl, rfl⟩
  · have h := hy9
    refine a_region ?_
    have hl11 : LdOk [] (.int .i64 a0) [] 1 false (.int .i64 a0) := (.nil rfl rfl rfl)
    refine a_val (v := (.int .i64 a0)) (u := []) (ld_own (i := ⟨.int .i64, 1, 8, (.int .i64 0)⟩) rfl rfl rfl hl11) hl11.c rfl ?_
    obtain ⟨r12, hr13, h⟩ := bind_some h
    refine a_call (args := [(.int .i64 a0)]) (u := []) (r := (.bool r12)) rfl rfl (impl_isPrime_ok a0 r12 hr13) rfl ?_
    refine a_val (v := (.bool (!r12))) (u := []) rfl trivial rfl ?_
    refine a_val (v := (.bool (!r12))) (u := []) rfl trivial rfl ?_
    cases hb14 : (!r12)
    · have h := ite_f hb14 h
      refine a_gval rfl (v := (eSA64u8 a1)) (u := []) rfl trivial rfl ?_
      refine a_gval rfl (v := (.clo 134 [] [(.ref (.int .i64 a0) [] [])])) (u := [(2, some ⟨(.int .i64 a0), true⟩)]) rfl ⟨all_nil, (all_cons ⟨rfl, rfl⟩ all_nil)⟩ rfl ?_
      obtain ⟨r15, hr16, h⟩ := bind_some h
      refine a_gcall rfl (args := [(eSA64u8 a1), (.clo 134 [] [(.ref (.int .i64 a0) [] [])])]) (u := []) (r := (.bool r15)) rfl rfl (impl_areAll_impl_Poly_of_impl_polysCode_c1_p_ok a1 a0 r15 hr16) rfl ?_
      refine a_gval rfl (v := (.bool (!r15))) (u := []) rfl trivial rfl ?_
      refine a_val (v := (.bool (!r15))) (u := []) rfl trivial rfl ?_
      refine a_nil ?_
      exact j_leaf (!r15) (Option.some.inj h) rfl
    · have h := ite_t hb14 h
      refine a_gskip rfl ?_
      refine a_gskip rfl ?_
      refine a_gskip rfl ?_
      refine a_gskip rfl ?_
      refine a_val (v := (.bool true)) (u := []) rfl trivial rfl ?_
      refine a_nil ?_
      exact j_leaf true (Option.some.inj h) rfl
end Go.Proofs.Ytacebpbhddkelaa
