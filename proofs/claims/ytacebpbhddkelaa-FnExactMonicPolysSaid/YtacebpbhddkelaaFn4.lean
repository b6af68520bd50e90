/- Functions of the program: plain Lean functions, and that the program computes them. Printed by gen.py. -/
import Derived.Test.YtacebpbhddkelaaFnT
import Derived.Test.YtacebpbhddkelaaFn1
import Derived.Test.YtacebpbhddkelaaFn3
namespace Go.Proofs.Ytacebpbhddkelaa
open Go.Abs Go.Proofs
set_option linter.unusedSimpArgs false
set_option linter.unusedVariables false

def spec_l01Times_c : ACode := (.seq (.region 0 [⟨some 4, .box 23 (.tmp 1), none, []⟩, ⟨some 5, .box 23 (.tmp 2), none, []⟩, ⟨some 6, .alloc 23, none, []⟩, ⟨some 7, .asg 0 (.const (.bool false)) 4, none, []⟩] false) (.seq (.region 1 [⟨some 13, .load 23 (.tmp 4), none, []⟩, ⟨some 14, .call 0 (.func 71) [(.tmp 13)], none, [0]⟩, ⟨some 15, .load 23 (.tmp 5), none, []⟩, ⟨some 16, .call 0 (.func 71) [(.tmp 15)], none, [2, 1]⟩, ⟨some 17, .build 23 [], none, []⟩, ⟨some 10, .alloc 23, none, []⟩, ⟨some 8, .asg 0 (.tmp 14) 2, none, [1, 3, 0, 1, 5]⟩, ⟨some 9, .asg 0 (.tmp 16) 2, none, [3, 6, 0, 1, 2, 3, 5, 6]⟩, ⟨none, .store 23 (.tmp 10) (.tmp 17), none, [5, 4, 7, 0, 1, 2, 3, 4, 5, 6, 7]⟩] true) (.seq (.seq (.region 2 [⟨some 18, .mov (.tmp 8), none, []⟩, ⟨some 19, .bin .lss 2 (.tmp 18) (.const (.int .i64 0)), none, []⟩, ⟨some 20, .mov (.tmp 19), none, []⟩, ⟨some 21, .mov (.tmp 9), some (20, false), []⟩, ⟨some 22, .bin .lss 2 (.tmp 21) (.const (.int .i64 0)), some (20, false), []⟩, ⟨some 23, .pick (.tmp 20) (.const (.bool true)) (.tmp 22), none, []⟩] false) (.cond (.tmp 23) (.seq (.region 3 [⟨some 24, .load 23 (.tmp 10), none, []⟩, ⟨none, .store 23 (.tmp 6) (.tmp 24), none, []⟩, ⟨some 7, .asg 0 (.const (.bool true)) 4, none, []⟩] false) .ret) .skip)) (.seq (.seq (.region 4 [⟨some 25, .mov (.tmp 8), none, []⟩, ⟨some 26, .mov (.tmp 9), none, []⟩, ⟨some 27, .bin .add 2 (.tmp 25) (.tmp 26), none, []⟩, ⟨some 28, .bin .gtr 2 (.tmp 27) (.const (.int .i64 63)), none, []⟩] false) (.cond (.tmp 28) (.seq (.region 5 [⟨some 29, .load 23 (.tmp 10), none, []⟩, ⟨none, .store 23 (.tmp 6) (.tmp 29), none, []⟩, ⟨some 7, .asg 0 (.const (.bool false)) 4, none, []⟩] false) .ret) .skip)) (.seq (.seq (.region 6 [⟨some 11, .asg 0 (.const (.int .i64 0)) 2, none, []⟩] false) (.block 0 (.loop (.seq (.seq (.region 7 [⟨some 30, .mov (.tmp 11), none, []⟩, ⟨some 31, .mov (.tmp 8), none, []⟩, ⟨some 32, .bin .leq 2 (.tmp 30) (.tmp 31), none, []⟩] false) (.cond (.tmp 32) .skip (.exit 0))) (.seq (.block 1 (.seq (.region 9 [⟨some 12, .asg 0 (.const (.int .i64 0)) 2, none, []⟩] false) (.block 2 (.loop (.seq (.seq (.region 10 [⟨some 35, .mov (.tmp 12), none, []⟩, ⟨some 36, .mov (.tmp 9), none, []⟩, ⟨some 37, .bin .leq 2 (.tmp 35) (.tmp 36), none, []⟩, ⟨some 38, .mov (.tmp 37), none, []⟩, ⟨some 39, .mov (.tmp 11), some (38, true), []⟩, ⟨some 40, .indexAddr 23 (.tmp 4) (.tmp 39), some (38, true), []⟩, ⟨some 41, .load 5 (.tmp 40), some (38, true), []⟩, ⟨some 42, .bin .neq 5 (.tmp 41) (.const (.int .u8 0)), some (38, true), []⟩, ⟨some 43, .pick (.tmp 38) (.tmp 42) (.const (.bool false)), none, []⟩] false) (.cond (.tmp 43) .skip (.exit 2))) (.seq (.block 3 (.region 12 [⟨some 46, .mov (.tmp 11), none, []⟩, ⟨some 47, .mov (.tmp 12), none, []⟩, ⟨some 48, .bin .add 2 (.tmp 46) (.tmp 47), none, [0, 1]⟩, ⟨some 49, .mov (.tmp 11), none, []⟩, ⟨some 50, .mov (.tmp 12), none, []⟩, ⟨some 51, .bin .add 2 (.tmp 49) (.tmp 50), none, [3, 4]⟩, ⟨some 52, .indexAddr 23 (.tmp 10) (.tmp 51), none, [5]⟩, ⟨some 53, .load 5 (.tmp 52), none, [6]⟩, ⟨some 54, .conv 5 2 (.tmp 53), none, [7]⟩, ⟨some 55, .mov (.tmp 11), none, []⟩, ⟨some 56, .indexAddr 23 (.tmp 4) (.tmp 55), none, [9]⟩, ⟨some 57, .load 5 (.tmp 56), none, [10]⟩, ⟨some 58, .conv 5 2 (.tmp 57), none, [11]⟩, ⟨some 59, .mov (.tmp 12), none, []⟩, ⟨some 60, .indexAddr 23 (.tmp 5) (.tmp 59), none, [13]⟩, ⟨some 61, .load 5 (.tmp 60), none, [14]⟩, ⟨some 62, .conv 5 2 (.tmp 61), none, [15]⟩, ⟨some 63, .bin .mul 2 (.tmp 58) (.tmp 62), none, [12, 16]⟩, ⟨some 64, .bin .add 2 (.tmp 54) (.tmp 63), none, [8, 17]⟩, ⟨some 65, .mov (.tmp 0), none, []⟩, ⟨some 66, .bin .rem 2 (.tmp 64) (.tmp 65), none, [18, 19]⟩, ⟨some 67, .conv 2 5 (.tmp 66), none, [20]⟩, ⟨some 68, .indexAddr 23 (.tmp 10) (.tmp 48), none, [2, 0, 1, 2, 3, 4, 5, 6, 7, 8, 9, 10, 11, 12, 13, 14, 15, 16, 17, 18, 19, 20, 21]⟩, ⟨none, .store 5 (.tmp 68) (.tmp 67), none, [22, 21, 0, 1, 2, 3, 4, 5, 6, 7, 8, 9, 10, 11, 12, 13, 14, 15, 16, 17, 18, 19, 20, 21]⟩] true)) (.region 11 [⟨some 44, .mov (.tmp 12), none, []⟩, ⟨some 45, .bin .add 2 (.tmp 44) (.const (.int .i64 1)), none, []⟩, ⟨some 12, .asg 0 (.tmp 45) 2, none, []⟩] false))))))) (.region 8 [⟨some 33, .mov (.tmp 11), none, []⟩, ⟨some 34, .bin .add 2 (.tmp 33) (.const (.int .i64 1)), none, []⟩, ⟨some 11, .asg 0 (.tmp 34) 2, none, []⟩] false)))))) (.seq (.region 13 [⟨some 69, .load 23 (.tmp 10), none, []⟩, ⟨none, .store 23 (.tmp 6) (.tmp 69), none, []⟩, ⟨some 7, .asg 0 (.const (.bool true)) 4, none, []⟩] false) .ret))))))
def spec_l01Times_L : Live := [(0, [0, 1, 2]), (1, [0, 4, 5, 6]), (2, [0, 4, 5, 6, 8, 9, 10]), (3, [6, 10]), (4, [0, 4, 5, 6, 8, 9, 10]), (5, [6, 10]), (6, [0, 4, 5, 6, 8, 9, 10]), (7, [0, 4, 5, 6, 8, 9, 10, 11]), (8, [0, 4, 5, 6, 8, 9, 10, 11]), (9, [0, 4, 5, 6, 8, 9, 10, 11]), (10, [0, 4, 5, 6, 8, 9, 10, 11, 12]), (11, [0, 4, 5, 6, 8, 9, 10, 11, 12]), (12, [0, 4, 5, 6, 8, 9, 10, 11, 12]), (13, [6, 10]), (100023, [0, 4, 5, 6, 8, 9, 10, 23]), (100028, [0, 4, 5, 6, 8, 9, 10, 28]), (100032, [0, 4, 5, 6, 8, 9, 10, 11, 32]), (100043, [0, 4, 5, 6, 8, 9, 10, 11, 12, 43])]
theorem spec_l01Times_body : Try.f84.body = some (Try.f84.body.getD .skip) := by kernel_rfl
theorem spec_l01Times_strip : strip [] (Try.f84.body.getD .skip) = spec_l01Times_c := by kernel_rfl
noncomputable def spec_l01Times_l2 (r12 : Int) (x1081 : Int) (a1 : (Vec Int 64)) (a2 : (Vec Int 64)) (a0 : Int) (x1524 : Int) (x1525 : (Vec Int 64)) : Option ((Int × (Vec Int 64)) ⊕ (Vec Int 64)) :=
  (Option.bind (α := Bool) ((if (decide (x1524 ≤ r12)) then (ifp (0 ≤ x1081 ∧ x1081 < ((64 : Nat) : Int)) ((some (((rd a1.1 x1081.toNat) != 0))))) else (some false))) fun x1573 => (if x1573 then (ifp (0 ≤ IntKind.i64.wrap (x1081 + x1524) ∧ IntKind.i64.wrap (x1081 + x1524) < ((64 : Nat) : Int)) ((letp (IntKind.i64.wrap ((rd x1525.1 (IntKind.i64.wrap (x1081 + x1524)).toNat))) fun x1598 => (ifp (0 ≤ x1081 ∧ x1081 < ((64 : Nat) : Int)) ((ifp (0 ≤ x1524 ∧ x1524 < ((64 : Nat) : Int)) ((letp (IntKind.i64.wrap ((IntKind.i64.wrap (rd a1.1 x1081.toNat)) * (IntKind.i64.wrap (rd a2.1 x1524.toNat)))) fun x1604 => (ifp (a0 ≠ 0) ((letp (IntKind.u8.wrap (Int.tmod (IntKind.i64.wrap (x1598 + x1604)) a0)) fun x1607 => (ifp (0 ≤ IntKind.i64.wrap (x1081 + x1524) ∧ IntKind.i64.wrap (x1081 + x1524) < ((64 : Nat) : Int)) ((some (.inl ((IntKind.i64.wrap (x1524 + 1), (vset x1525 (IntKind.i64.wrap (x1081 + x1524)).toNat x1607)))))))))))))))))) else (some (.inr x1525))))
noncomputable def spec_l01Times_l1 (r9 : Int) (r12 : Int) (a1 : (Vec Int 64)) (a2 : (Vec Int 64)) (a0 : Int) (x1081 : Int) (x1082 : (Vec Int 64)) : Option ((Int × (Vec Int 64)) ⊕ (Vec Int 64)) :=
  (if (decide (x1081 ≤ r9)) then (Option.bind (α := (Vec Int 64)) ((loopM (fun s : (Int × (Vec Int 64)) => spec_l01Times_l2 r12 x1081 a1 a2 a0 s.1 s.2) (0, x1082))) fun x1479 => (some (.inl ((IntKind.i64.wrap (x1081 + 1), x1479))))) else (some (.inr x1082)))
noncomputable def spec_l01Times (a0 : Int) (a1 : (Vec Int 64)) (a2 : (Vec Int 64)) : Option ((Vec Int 64) × Bool) :=
  (Option.bind (spec_l01Deg a1) fun r9 => (Option.bind (spec_l01Deg a2) fun r12 => (Option.bind (α := Bool) ((if (decide (r9 < 0)) then (some true) else (some ((decide (r12 < 0)))))) fun x16 => (if x16 then (some (((vrep 64 (0 : Int)), true))) else (if (decide ((IntKind.i64.wrap (r9 + r12)) > 63)) then (some (((vrep 64 (0 : Int)), false))) else (Option.bind (α := (Vec Int 64)) ((loopM (fun s : (Int × (Vec Int 64)) => spec_l01Times_l1 r9 r12 a1 a2 a0 s.1 s.2) (0, (vrep 64 (0 : Int))))) fun x814 => (some (x814, true))))))))
set_option maxHeartbeats 16000000 in
theorem spec_l01Times_ok (a0 : Int) (a1 : (Vec Int 64)) (a2 : (Vec Int 64)) (r : ((Vec Int 64) × Bool)) (h : spec_l01Times a0 a1 a2 = some r) : Den Try.prog 84 [(.int .i64 a0), (eA64u8 a1), (eA64u8 a2)] { r := (.tuple [(eA64u8 r.1), (.bool r.2)]) } := by
  refine den_of (rs := [(eA64u8 r.1), (.bool r.2)]) (ac := spec_l01Times_c) (L := spec_l01Times_L) (n := 70) (m := []) good Try.func84 spec_l01Times_body (by kernel_rfl) Try.ntmps84 rfl rfl spec_l01Times_strip rfl rfl ?_
  refine a_st (σ' := ⟨[(0, (.int .i64 a0)), (1, (eA64u8 a1)), (2, (eA64u8 a2))], []⟩) rfl ?_
  unfold spec_l01Times_c
  refine a_seq ?_
  refine a_region ?_
  refine a_val (v := (.own 1400 [] [])) (u := [(1400, some ⟨(eA64u8 a1), false⟩)]) rfl trivial rfl ?_
  refine a_val (v := (.own 1500 [] [])) (u := [(1500, some ⟨(eA64u8 a2), false⟩)]) rfl trivial rfl ?_
  refine a_val (v := (.own 1600 [] [])) (u := [(1600, some ⟨(eA64u8 ((vrep 64 (0 : Int)))), false⟩)]) rfl trivial rfl ?_
  refine a_val (v := (.bool false)) (u := []) rfl trivial rfl ?_
  refine a_nil ?_
  refine a_next (σ' := ⟨[(0, (.int .i64 a0)), (4, (.own 4 [] [])), (5, (.own 5 [] [])), (6, (.own 6 [] []))], [(4, some ⟨(eA64u8 a1), false⟩), (5, some ⟨(eA64u8 a2), false⟩), (6, some ⟨(eA64u8 ((vrep 64 (0 : Int)))), false⟩)]⟩) rfl ?_
  refine a_seq ?_
  refine a_draw [⟨[4], [], [], []⟩, ⟨[], [], [], [0]⟩, ⟨[5], [], [], []⟩, ⟨[], [], [], [0, 1, 2]⟩, ⟨[], [], [], []⟩, ⟨[2000], [2000], [2000], []⟩, ⟨[], [], [], [0, 1, 2, 3, 5]⟩, ⟨[], [], [], [0, 1, 2, 3, 5, 6]⟩, ⟨[2000], [2000], [], [0, 1, 2, 3, 4, 5, 6, 7]⟩] (by kernel_rfl) ?_
  refine d_cons ?_
  have hl8 : LdOk [] (eA64u8 a1) [] 64 true (eA64u8 a1) := (.nil rfl rfl rfl)
  refine a_val (v := (eA64u8 a1)) (u := []) (ld_own (i := ⟨.arr 64 5, 64, 64, (eA64u8 (vrep 64 (0 : Int)))⟩) rfl rfl rfl hl8) hl8.c rfl ?_
  refine d_next rfl ?_
  refine d_cons ?_
  obtain ⟨r9, hr10, h⟩ := bind_some h
  refine a_call (args := [(eA64u8 a1)]) (u := []) (r := (.int .i64 r9)) rfl rfl (spec_l01Deg_ok a1 r9 hr10) rfl ?_
  refine d_next rfl ?_
  refine d_cons ?_
  have hl11 : LdOk [] (eA64u8 a2) [] 64 true (eA64u8 a2) := (.nil rfl rfl rfl)
  refine a_val (v := (eA64u8 a2)) (u := []) (ld_own (i := ⟨.arr 64 5, 64, 64, (eA64u8 (vrep 64 (0 : Int)))⟩) rfl rfl rfl hl11) hl11.c rfl ?_
  refine d_next rfl ?_
  refine d_cons ?_
  obtain ⟨r12, hr13, h⟩ := bind_some h
  refine a_call (args := [(eA64u8 a2)]) (u := []) (r := (.int .i64 r12)) rfl rfl (spec_l01Deg_ok a2 r12 hr13) rfl ?_
  refine d_next rfl ?_
  refine d_cons ?_
  refine a_val (v := (eA64u8 ((vrep 64 (0 : Int))))) (u := []) rfl ⟨⟨_, rfl, rfl⟩, all_nil⟩ rfl ?_
  refine d_next rfl ?_
  refine d_cons ?_
  refine a_val (v := (.own 2000 [] [])) (u := [(2000, some ⟨(eA64u8 ((vrep 64 (0 : Int)))), false⟩)]) rfl trivial rfl ?_
  refine d_next rfl ?_
  refine d_cons ?_
  refine a_val (v := (.int .i64 r9)) (u := []) rfl trivial rfl ?_
  refine d_next rfl ?_
  refine d_cons ?_
  refine a_val (v := (.int .i64 r12)) (u := []) rfl trivial rfl ?_
  refine d_next rfl ?_
  refine d_cons ?_
  have hs14 : StOk [] (eA64u8 ((vrep 64 (0 : Int)))) [] 64 (eA64u8 ((vrep 64 (0 : Int)))) (eA64u8 ((vrep 64 (0 : Int)))) := (.nil rfl rfl rfl rfl)
  refine a_val (v := .top) (u := [(2000, some ⟨(eA64u8 ((vrep 64 (0 : Int)))), false⟩)]) (st_own (i := ⟨.arr 64 5, 64, 64, (eA64u8 (vrep 64 (0 : Int)))⟩) rfl rfl (fun _ => rfl) rfl hs14) (hs14.c rfl) rfl ?_
  refine d_next rfl ?_
  refine d_nil ?_
  refine a_next (σ' := ⟨[(0, (.int .i64 a0)), (4, (.own 4 [] [])), (5, (.own 5 [] [])), (6, (.own 6 [] [])), (8, (.int .i64 r9)), (9, (.int .i64 r12)), (10, (.own 10 [] []))], [(4, some ⟨(eA64u8 a1), false⟩), (5, some ⟨(eA64u8 a2), false⟩), (6, some ⟨(eA64u8 ((vrep 64 (0 : Int)))), false⟩), (10, some ⟨(eA64u8 ((vrep 64 (0 : Int)))), false⟩)]⟩) rfl ?_
  refine a_seq ?_
  obtain ⟨y17, hy18, hk19⟩ := bind_some h
  clear h
  refine a_join (emb := fun (s : Bool) => ⟨[(0, (.int .i64 a0)), (4, (.own 4 [] [])), (5, (.own 5 [] [])), (6, (.own 6 [] [])), (8, (.int .i64 r9)), (9, (.int .i64 r12)), (10, (.own 10 [] [])), (23, (.bool s))], [(4, some ⟨(eA64u8 a1), false⟩), (5, some ⟨(eA64u8 a2), false⟩), (6, some ⟨(eA64u8 ((vrep 64 (0 : Int)))), false⟩), (10, some ⟨(eA64u8 ((vrep 64 (0 : Int)))), false⟩)]⟩) (pre := fun s => s = y17) ?_ ?_
  · rintro x16 rfl
    have h := hk19
    refine a_st (σ' := ⟨[(0, (.int .i64 a0)), (4, (.own 4 [] [])), (5, (.own 5 [] [])), (6, (.own 6 [] [])), (8, (.int .i64 r9)), (9, (.int .i64 r12)), (10, (.own 10 [] [])), (23, (.bool x16))], [(4, some ⟨(eA64u8 a1), false⟩), (5, some ⟨(eA64u8 a2), false⟩), (6, some ⟨(eA64u8 ((vrep 64 (0 : Int)))), false⟩), (10, some ⟨(eA64u8 ((vrep 64 (0 : Int)))), false⟩)]⟩) rfl ?_
    cases hb21 : x16
    · have h := ite_f hb21 h
      refine a_cond_f rfl ?_
      refine a_skip ?_
      refine a_next (σ' := ⟨[(0, (.int .i64 a0)), (4, (.own 4 [] [])), (5, (.own 5 [] [])), (6, (.own 6 [] [])), (8, (.int .i64 r9)), (9, (.int .i64 r12)), (10, (.own 10 [] []))], [(4, some ⟨(eA64u8 a1), false⟩), (5, some ⟨(eA64u8 a2), false⟩), (6, some ⟨(eA64u8 ((vrep 64 (0 : Int)))), false⟩), (10, some ⟨(eA64u8 ((vrep 64 (0 : Int)))), false⟩)]⟩) rfl ?_
      refine a_seq ?_
      refine a_seq ?_
      refine a_region ?_
      refine a_val (v := (.int .i64 r9)) (u := []) rfl trivial rfl ?_
      refine a_val (v := (.int .i64 r12)) (u := []) rfl trivial rfl ?_
      refine a_val (v := (.int .i64 (IntKind.i64.wrap (r9 + r12)))) (u := []) rfl trivial rfl ?_
      refine a_val (v := (.bool ((decide ((IntKind.i64.wrap (r9 + r12)) > 63))))) (u := []) rfl trivial rfl ?_
      refine a_nil ?_
      refine a_next (σ' := ⟨[(0, (.int .i64 a0)), (4, (.own 4 [] [])), (5, (.own 5 [] [])), (6, (.own 6 [] [])), (8, (.int .i64 r9)), (9, (.int .i64 r12)), (10, (.own 10 [] [])), (28, (.bool ((decide ((IntKind.i64.wrap (r9 + r12)) > 63)))))], [(4, some ⟨(eA64u8 a1), false⟩), (5, some ⟨(eA64u8 a2), false⟩), (6, some ⟨(eA64u8 ((vrep 64 (0 : Int)))), false⟩), (10, some ⟨(eA64u8 ((vrep 64 (0 : Int)))), false⟩)]⟩) rfl ?_
      cases hb22 : (decide ((IntKind.i64.wrap (r9 + r12)) > 63))
      · have h := ite_f hb22 h
        refine a_cond_f rfl ?_
        refine a_skip ?_
        refine a_next (σ' := ⟨[(0, (.int .i64 a0)), (4, (.own 4 [] [])), (5, (.own 5 [] [])), (6, (.own 6 [] [])), (8, (.int .i64 r9)), (9, (.int .i64 r12)), (10, (.own 10 [] []))], [(4, some ⟨(eA64u8 a1), false⟩), (5, some ⟨(eA64u8 a2), false⟩), (6, some ⟨(eA64u8 ((vrep 64 (0 : Int)))), false⟩), (10, some ⟨(eA64u8 ((vrep 64 (0 : Int)))), false⟩)]⟩) rfl ?_
        obtain ⟨y815, hy816, hk817⟩ := bind_some h
        clear h
        refine a_join (emb := fun (s : (Vec Int 64)) => ⟨[(6, (.own 6 [] [])), (10, (.own 10 [] []))], [(6, some ⟨(eA64u8 ((vrep 64 (0 : Int)))), false⟩), (10, some ⟨(eA64u8 s), false⟩)]⟩) (pre := fun s => s = y815) ?_ ?_
        · rintro x814 rfl
          have h := hk817
          refine a_st (σ' := ⟨[(6, (.own 6 [] [])), (10, (.own 10 [] []))], [(6, some ⟨(eA64u8 ((vrep 64 (0 : Int)))), false⟩), (10, some ⟨(eA64u8 x814), false⟩)]⟩) rfl ?_
          refine a_seq ?_
          refine a_region ?_
          have hl1613 : LdOk [] (eA64u8 x814) [] 64 true (eA64u8 x814) := (.nil rfl rfl rfl)
          refine a_val (v := (eA64u8 x814)) (u := []) (ld_own (i := ⟨.arr 64 5, 64, 64, (eA64u8 (vrep 64 (0 : Int)))⟩) rfl rfl rfl hl1613) hl1613.c rfl ?_
          have hs1614 : StOk [] (eA64u8 ((vrep 64 (0 : Int)))) [] 64 (eA64u8 x814) (eA64u8 x814) := (.nil rfl rfl rfl rfl)
          refine a_val (v := .top) (u := [(6, some ⟨(eA64u8 x814), false⟩)]) (st_own (i := ⟨.arr 64 5, 64, 64, (eA64u8 (vrep 64 (0 : Int)))⟩) rfl rfl (fun _ => rfl) rfl hs1614) (hs1614.c rfl) rfl ?_
          refine a_val (v := (.bool true)) (u := []) rfl trivial rfl ?_
          refine a_nil ?_
          refine a_next rfl ?_
          refine a_ret ?_
          have hl1615 : LdOk [] (eA64u8 x814) [] 64 true (eA64u8 x814) := (.nil rfl rfl rfl)
          refine ⟨.inr rfl, ?_⟩
          rw [Try.results84]
          cases h
          exact ⟨_, _, _, _, _, ld_own (i := ⟨.arr 64 5, 64, 64, (eA64u8 (vrep 64 (0 : Int)))⟩) rfl rfl rfl hl1615, hl1615.c, .inl ⟨rfl, .inl rfl⟩, rfl, ⟨_, _, _, _, _, rfl, trivial, .inl ⟨rfl, .inl rfl⟩, rfl, rfl⟩⟩
        · have h := hy816
          refine a_seq ?_
          refine a_region ?_
          refine a_val (v := (.int .i64 0)) (u := []) rfl trivial rfl ?_
          refine a_nil ?_
          refine a_next (σ' := ⟨[(0, (.int .i64 a0)), (4, (.own 4 [] [])), (5, (.own 5 [] [])), (6, (.own 6 [] [])), (8, (.int .i64 r9)), (9, (.int .i64 r12)), (10, (.own 10 [] [])), (11, (.int .i64 0))], [(4, some ⟨(eA64u8 a1), false⟩), (5, some ⟨(eA64u8 a2), false⟩), (6, some ⟨(eA64u8 ((vrep 64 (0 : Int)))), false⟩), (10, some ⟨(eA64u8 ((vrep 64 (0 : Int)))), false⟩)]⟩) rfl ?_
          refine a_block ?_
          refine a_loop (emb := fun (s : (Int × (Vec Int 64))) => ⟨[(0, (.int .i64 a0)), (4, (.own 4 [] [])), (5, (.own 5 [] [])), (6, (.own 6 [] [])), (8, (.int .i64 r9)), (9, (.int .i64 r12)), (10, (.own 10 [] [])), (11, (.int .i64 s.1))], [(4, some ⟨(eA64u8 a1), false⟩), (5, some ⟨(eA64u8 a2), false⟩), (6, some ⟨(eA64u8 ((vrep 64 (0 : Int)))), false⟩), (10, some ⟨(eA64u8 s.2), false⟩)]⟩) (body := (fun s : (Int × (Vec Int 64)) => spec_l01Times_l1 r9 r12 a1 a2 a0 s.1 s.2)) (G := fun q => some q = some y815) h rfl ?_ rfl
          rintro X1346 ⟨x1081, x1082⟩ x1347 h hX1348
          have h : spec_l01Times_l1 r9 r12 a1 a2 a0 x1081 x1082 = some x1347 := h
          refine a_st (σ' := ⟨[(0, (.int .i64 a0)), (4, (.own 4 [] [])), (5, (.own 5 [] [])), (6, (.own 6 [] [])), (8, (.int .i64 r9)), (9, (.int .i64 r12)), (10, (.own 10 [] [])), (11, (.int .i64 x1081))], [(4, some ⟨(eA64u8 a1), false⟩), (5, some ⟨(eA64u8 a2), false⟩), (6, some ⟨(eA64u8 ((vrep 64 (0 : Int)))), false⟩), (10, some ⟨(eA64u8 x1082), false⟩)]⟩) rfl ?_
          refine a_seq ?_
          refine a_seq ?_
          refine a_region ?_
          refine a_val (v := (.int .i64 x1081)) (u := []) rfl trivial rfl ?_
          refine a_val (v := (.int .i64 r9)) (u := []) rfl trivial rfl ?_
          refine a_val (v := (.bool ((decide (x1081 ≤ r9))))) (u := []) rfl trivial rfl ?_
          refine a_nil ?_
          refine a_next (σ' := ⟨[(0, (.int .i64 a0)), (4, (.own 4 [] [])), (5, (.own 5 [] [])), (6, (.own 6 [] [])), (8, (.int .i64 r9)), (9, (.int .i64 r12)), (10, (.own 10 [] [])), (11, (.int .i64 x1081)), (32, (.bool ((decide (x1081 ≤ r9)))))], [(4, some ⟨(eA64u8 a1), false⟩), (5, some ⟨(eA64u8 a2), false⟩), (6, some ⟨(eA64u8 ((vrep 64 (0 : Int)))), false⟩), (10, some ⟨(eA64u8 x1082), false⟩)]⟩) rfl ?_
          cases hb1349 : (decide (x1081 ≤ r9))
          · have h := ite_f hb1349 h
            refine a_cond_f rfl ?_
            refine a_exit ?_
            refine t_exit ?_
            cases h
            have h := hX1348
            refine t_exit ?_
            refine b_exit ?_
            exact j_leaf x1082 (Option.some.inj h) rfl
          · have h := ite_t hb1349 h
            refine a_cond_t rfl ?_
            refine a_skip ?_
            refine a_next (σ' := ⟨[(0, (.int .i64 a0)), (4, (.own 4 [] [])), (5, (.own 5 [] [])), (6, (.own 6 [] [])), (8, (.int .i64 r9)), (9, (.int .i64 r12)), (10, (.own 10 [] [])), (11, (.int .i64 x1081))], [(4, some ⟨(eA64u8 a1), false⟩), (5, some ⟨(eA64u8 a2), false⟩), (6, some ⟨(eA64u8 ((vrep 64 (0 : Int)))), false⟩), (10, some ⟨(eA64u8 x1082), false⟩)]⟩) rfl ?_
            obtain ⟨y1480, hy1481, hk1482⟩ := bind_some h
            clear h
            refine a_join (emb := fun (s : (Vec Int 64)) => ⟨[(0, (.int .i64 a0)), (4, (.own 4 [] [])), (5, (.own 5 [] [])), (6, (.own 6 [] [])), (8, (.int .i64 r9)), (9, (.int .i64 r12)), (10, (.own 10 [] [])), (11, (.int .i64 x1081))], [(4, some ⟨(eA64u8 a1), false⟩), (5, some ⟨(eA64u8 a2), false⟩), (6, some ⟨(eA64u8 ((vrep 64 (0 : Int)))), false⟩), (10, some ⟨(eA64u8 s), false⟩)]⟩) (pre := fun s => s = y1480) ?_ ?_
            · rintro x1479 rfl
              have h := hk1482
              refine a_st (σ' := ⟨[(0, (.int .i64 a0)), (4, (.own 4 [] [])), (5, (.own 5 [] [])), (6, (.own 6 [] [])), (8, (.int .i64 r9)), (9, (.int .i64 r12)), (10, (.own 10 [] [])), (11, (.int .i64 x1081))], [(4, some ⟨(eA64u8 a1), false⟩), (5, some ⟨(eA64u8 a2), false⟩), (6, some ⟨(eA64u8 ((vrep 64 (0 : Int)))), false⟩), (10, some ⟨(eA64u8 x1479), false⟩)]⟩) rfl ?_
              refine a_region ?_
              refine a_val (v := (.int .i64 x1081)) (u := []) rfl trivial rfl ?_
              refine a_val (v := (.int .i64 (IntKind.i64.wrap (x1081 + 1)))) (u := []) rfl trivial rfl ?_
              refine a_val (v := (.int .i64 (IntKind.i64.wrap (x1081 + 1)))) (u := []) rfl trivial rfl ?_
              refine a_nil ?_
              cases h
              exact a_again rfl hX1348
            · have h := hy1481
              refine a_block ?_
              refine a_seq ?_
              refine a_region ?_
              refine a_val (v := (.int .i64 0)) (u := []) rfl trivial rfl ?_
              refine a_nil ?_
              refine a_next (σ' := ⟨[(0, (.int .i64 a0)), (4, (.own 4 [] [])), (5, (.own 5 [] [])), (6, (.own 6 [] [])), (8, (.int .i64 r9)), (9, (.int .i64 r12)), (10, (.own 10 [] [])), (11, (.int .i64 x1081)), (12, (.int .i64 0))], [(4, some ⟨(eA64u8 a1), false⟩), (5, some ⟨(eA64u8 a2), false⟩), (6, some ⟨(eA64u8 ((vrep 64 (0 : Int)))), false⟩), (10, some ⟨(eA64u8 x1082), false⟩)]⟩) rfl ?_
              refine a_block ?_
              refine a_loop (emb := fun (s : (Int × (Vec Int 64))) => ⟨[(0, (.int .i64 a0)), (4, (.own 4 [] [])), (5, (.own 5 [] [])), (6, (.own 6 [] [])), (8, (.int .i64 r9)), (9, (.int .i64 r12)), (10, (.own 10 [] [])), (11, (.int .i64 x1081)), (12, (.int .i64 s.1))], [(4, some ⟨(eA64u8 a1), false⟩), (5, some ⟨(eA64u8 a2), false⟩), (6, some ⟨(eA64u8 ((vrep 64 (0 : Int)))), false⟩), (10, some ⟨(eA64u8 s.2), false⟩)]⟩) (body := (fun s : (Int × (Vec Int 64)) => spec_l01Times_l2 r12 x1081 a1 a2 a0 s.1 s.2)) (G := fun q => some q = some y1480) h rfl ?_ rfl
              rintro X1567 ⟨x1524, x1525⟩ x1568 h hX1569
              have h : spec_l01Times_l2 r12 x1081 a1 a2 a0 x1524 x1525 = some x1568 := h
              refine a_st (σ' := ⟨[(0, (.int .i64 a0)), (4, (.own 4 [] [])), (5, (.own 5 [] [])), (6, (.own 6 [] [])), (8, (.int .i64 r9)), (9, (.int .i64 r12)), (10, (.own 10 [] [])), (11, (.int .i64 x1081)), (12, (.int .i64 x1524))], [(4, some ⟨(eA64u8 a1), false⟩), (5, some ⟨(eA64u8 a2), false⟩), (6, some ⟨(eA64u8 ((vrep 64 (0 : Int)))), false⟩), (10, some ⟨(eA64u8 x1525), false⟩)]⟩) rfl ?_
              refine a_seq ?_
              obtain ⟨y1574, hy1575, hk1576⟩ := bind_some h
              clear h
              refine a_join (emb := fun (s : Bool) => ⟨[(0, (.int .i64 a0)), (4, (.own 4 [] [])), (5, (.own 5 [] [])), (6, (.own 6 [] [])), (8, (.int .i64 r9)), (9, (.int .i64 r12)), (10, (.own 10 [] [])), (11, (.int .i64 x1081)), (12, (.int .i64 x1524)), (43, (.bool s))], [(4, some ⟨(eA64u8 a1), false⟩), (5, some ⟨(eA64u8 a2), false⟩), (6, some ⟨(eA64u8 ((vrep 64 (0 : Int)))), false⟩), (10, some ⟨(eA64u8 x1525), false⟩)]⟩) (pre := fun s => s = y1574) ?_ ?_
              · rintro x1573 rfl
                have h := hk1576
                refine a_st (σ' := ⟨[(0, (.int .i64 a0)), (4, (.own 4 [] [])), (5, (.own 5 [] [])), (6, (.own 6 [] [])), (8, (.int .i64 r9)), (9, (.int .i64 r12)), (10, (.own 10 [] [])), (11, (.int .i64 x1081)), (12, (.int .i64 x1524)), (43, (.bool x1573))], [(4, some ⟨(eA64u8 a1), false⟩), (5, some ⟨(eA64u8 a2), false⟩), (6, some ⟨(eA64u8 ((vrep 64 (0 : Int)))), false⟩), (10, some ⟨(eA64u8 x1525), false⟩)]⟩) rfl ?_
                cases hb1580 : x1573
                · have h := ite_f hb1580 h
                  refine a_cond_f rfl ?_
                  refine a_exit ?_
                  refine t_exit ?_
                  cases h
                  have h := hX1569
                  refine t_exit ?_
                  refine b_exit ?_
                  refine b_norm ?_
                  exact j_leaf x1525 (Option.some.inj h) rfl
                · have h := ite_t hb1580 h
                  refine a_cond_t rfl ?_
                  refine a_skip ?_
                  refine a_next (σ' := ⟨[(0, (.int .i64 a0)), (4, (.own 4 [] [])), (5, (.own 5 [] [])), (6, (.own 6 [] [])), (8, (.int .i64 r9)), (9, (.int .i64 r12)), (10, (.own 10 [] [])), (11, (.int .i64 x1081)), (12, (.int .i64 x1524))], [(4, some ⟨(eA64u8 a1), false⟩), (5, some ⟨(eA64u8 a2), false⟩), (6, some ⟨(eA64u8 ((vrep 64 (0 : Int)))), false⟩), (10, some ⟨(eA64u8 x1525), false⟩)]⟩) rfl ?_
                  refine a_seq ?_
                  refine a_block ?_
                  refine a_draw [⟨[], [], [], []⟩, ⟨[], [], [], []⟩, ⟨[], [], [], [0, 1]⟩, ⟨[], [], [], []⟩, ⟨[], [], [], []⟩, ⟨[], [], [], [3, 4]⟩, ⟨[10], [], [10], [3, 4, 5]⟩, ⟨[10], [], [], [3, 4, 5, 6]⟩, ⟨[], [], [], [3, 4, 5, 6, 7]⟩, ⟨[], [], [], []⟩, ⟨[4], [], [4], [9]⟩, ⟨[4], [], [], [9, 10]⟩, ⟨[], [], [], [9, 10, 11]⟩, ⟨[], [], [], []⟩, ⟨[5], [], [5], [13]⟩, ⟨[5], [], [], [13, 14]⟩, ⟨[], [], [], [13, 14, 15]⟩, ⟨[], [], [], [9, 10, 11, 12, 13, 14, 15, 16]⟩, ⟨[], [], [], [3, 4, 5, 6, 7, 8, 9, 10, 11, 12, 13, 14, 15, 16, 17]⟩, ⟨[], [], [], []⟩, ⟨[], [], [], [3, 4, 5, 6, 7, 8, 9, 10, 11, 12, 13, 14, 15, 16, 17, 18, 19]⟩, ⟨[], [], [], [3, 4, 5, 6, 7, 8, 9, 10, 11, 12, 13, 14, 15, 16, 17, 18, 19, 20]⟩, ⟨[10], [], [10], [0, 1, 2, 3, 4, 5, 6, 7, 8, 9, 10, 11, 12, 13, 14, 15, 16, 17, 18, 19, 20, 21]⟩, ⟨[10], [10], [], [0, 1, 2, 3, 4, 5, 6, 7, 8, 9, 10, 11, 12, 13, 14, 15, 16, 17, 18, 19, 20, 21, 22]⟩] (by kernel_rfl) ?_
                  refine d_cons ?_
                  refine a_val (v := (.int .i64 x1081)) (u := []) rfl trivial rfl ?_
                  refine d_next rfl ?_
                  refine d_cons ?_
                  refine a_val (v := (.int .i64 x1524)) (u := []) rfl trivial rfl ?_
                  refine d_next rfl ?_
                  refine d_cons ?_
                  refine a_val (v := (.int .i64 (IntKind.i64.wrap (x1081 + x1524)))) (u := []) rfl trivial rfl ?_
                  refine d_next rfl ?_
                  refine d_cons ?_
                  refine a_val (v := (.int .i64 x1081)) (u := []) rfl trivial rfl ?_
                  refine d_next rfl ?_
                  refine d_cons ?_
                  refine a_val (v := (.int .i64 x1524)) (u := []) rfl trivial rfl ?_
                  refine d_next rfl ?_
                  refine d_cons ?_
                  refine a_val (v := (.int .i64 (IntKind.i64.wrap (x1081 + x1524)))) (u := []) rfl trivial rfl ?_
                  refine d_next rfl ?_
                  refine d_cons ?_
                  obtain ⟨hc1596, h⟩ := ifp_some h
                  refine a_val (v := (.own 10 [(IntKind.i64.wrap (x1081 + x1524)).toNat] [(IntKind.i64.wrap (x1081 + x1524)).toNat * 1])) (u := []) rfl hc1596 rfl ?_
                  refine d_next rfl ?_
                  refine d_cons ?_
                  have hl1597 : LdOk [(IntKind.i64.wrap (x1081 + x1524)).toNat] (eA64u8 x1525) [(IntKind.i64.wrap (x1081 + x1524)).toNat * 1] 1 false (.int .u8 ((rd x1525.1 (IntKind.i64.wrap (x1081 + x1524)).toNat))) := (.arr (vlt x1525 hc1596) rfl (.nil rfl rfl rfl))
                  refine a_val (v := (.int .u8 ((rd x1525.1 (IntKind.i64.wrap (x1081 + x1524)).toNat)))) (u := []) (ld_own (i := ⟨.int .u8, 1, 1, (.int .u8 0)⟩) rfl rfl rfl hl1597) hl1597.c rfl ?_
                  refine d_next rfl ?_
                  refine d_cons ?_
                  obtain ⟨x1598, hx1599, h⟩ := letp_some h
                  refine a_val' (v := (.int .i64 (IntKind.i64.wrap ((rd x1525.1 (IntKind.i64.wrap (x1081 + x1524)).toNat))))) (v' := (.int .i64 x1598)) (u := []) (u' := []) rfl (congrArg (fun z => ((.int .i64 z) : AV)) hx1599) rfl trivial rfl ?_
                  refine d_next rfl ?_
                  refine d_cons ?_
                  refine a_val (v := (.int .i64 x1081)) (u := []) rfl trivial rfl ?_
                  refine d_next rfl ?_
                  refine d_cons ?_
                  obtain ⟨hc1600, h⟩ := ifp_some h
                  refine a_val (v := (.own 4 [x1081.toNat] [x1081.toNat * 1])) (u := []) rfl hc1600 rfl ?_
                  refine d_next rfl ?_
                  refine d_cons ?_
                  have hl1601 : LdOk [x1081.toNat] (eA64u8 a1) [x1081.toNat * 1] 1 false (.int .u8 (rd a1.1 x1081.toNat)) := (.arr (vlt a1 hc1600) rfl (.nil rfl rfl rfl))
                  refine a_val (v := (.int .u8 (rd a1.1 x1081.toNat))) (u := []) (ld_own (i := ⟨.int .u8, 1, 1, (.int .u8 0)⟩) rfl rfl rfl hl1601) hl1601.c rfl ?_
                  refine d_next rfl ?_
                  refine d_cons ?_
                  refine a_val (v := (.int .i64 (IntKind.i64.wrap (rd a1.1 x1081.toNat)))) (u := []) rfl trivial rfl ?_
                  refine d_next rfl ?_
                  refine d_cons ?_
                  refine a_val (v := (.int .i64 x1524)) (u := []) rfl trivial rfl ?_
                  refine d_next rfl ?_
                  refine d_cons ?_
                  obtain ⟨hc1602, h⟩ := ifp_some h
                  refine a_val (v := (.own 5 [x1524.toNat] [x1524.toNat * 1])) (u := []) rfl hc1602 rfl ?_
                  refine d_next rfl ?_
                  refine d_cons ?_
                  have hl1603 : LdOk [x1524.toNat] (eA64u8 a2) [x1524.toNat * 1] 1 false (.int .u8 (rd a2.1 x1524.toNat)) := (.arr (vlt a2 hc1602) rfl (.nil rfl rfl rfl))
                  refine a_val (v := (.int .u8 (rd a2.1 x1524.toNat))) (u := []) (ld_own (i := ⟨.int .u8, 1, 1, (.int .u8 0)⟩) rfl rfl rfl hl1603) hl1603.c rfl ?_
                  refine d_next rfl ?_
                  refine d_cons ?_
                  refine a_val (v := (.int .i64 (IntKind.i64.wrap (rd a2.1 x1524.toNat)))) (u := []) rfl trivial rfl ?_
                  refine d_next rfl ?_
                  refine d_cons ?_
                  obtain ⟨x1604, hx1605, h⟩ := letp_some h
                  refine a_val' (v := (.int .i64 (IntKind.i64.wrap ((IntKind.i64.wrap (rd a1.1 x1081.toNat)) * (IntKind.i64.wrap (rd a2.1 x1524.toNat)))))) (v' := (.int .i64 x1604)) (u := []) (u' := []) rfl (congrArg (fun z => ((.int .i64 z) : AV)) hx1605) rfl trivial rfl ?_
                  refine d_next rfl ?_
                  refine d_cons ?_
                  refine a_val (v := (.int .i64 (IntKind.i64.wrap (x1598 + x1604)))) (u := []) rfl trivial rfl ?_
                  refine d_next rfl ?_
                  refine d_cons ?_
                  refine a_val (v := (.int .i64 a0)) (u := []) rfl trivial rfl ?_
                  refine d_next rfl ?_
                  refine d_cons ?_
                  obtain ⟨hc1606, h⟩ := ifp_some h
                  refine a_val (v := (.int .i64 (Int.tmod (IntKind.i64.wrap (x1598 + x1604)) a0))) (u := []) rfl hc1606 rfl ?_
                  refine d_next rfl ?_
                  refine d_cons ?_
                  obtain ⟨x1607, hx1608, h⟩ := letp_some h
                  refine a_val' (v := (.int .u8 (IntKind.u8.wrap (Int.tmod (IntKind.i64.wrap (x1598 + x1604)) a0)))) (v' := (.int .u8 x1607)) (u := []) (u' := []) rfl (congrArg (fun z => ((.int .u8 z) : AV)) hx1608) rfl trivial rfl ?_
                  refine d_next rfl ?_
                  refine d_cons ?_
                  obtain ⟨hc1609, h⟩ := ifp_some h
                  refine a_val (v := (.own 10 [(IntKind.i64.wrap (x1081 + x1524)).toNat] [(IntKind.i64.wrap (x1081 + x1524)).toNat * 1])) (u := []) rfl hc1609 rfl ?_
                  refine d_next rfl ?_
                  refine d_cons ?_
                  have hs1610 : StOk [(IntKind.i64.wrap (x1081 + x1524)).toNat] (eA64u8 x1525) [(IntKind.i64.wrap (x1081 + x1524)).toNat * 1] 1 (.int .u8 x1607) (eA64u8 ((vset x1525 (IntKind.i64.wrap (x1081 + x1524)).toNat x1607))) := (.arr (y := x1607) (vlt x1525 hc1609) rfl (.nil rfl rfl rfl rfl))
                  refine a_val (v := .top) (u := [(10, some ⟨(eA64u8 ((vset x1525 (IntKind.i64.wrap (x1081 + x1524)).toNat x1607))), false⟩)]) (st_own (i := ⟨.int .u8, 1, 1, (.int .u8 0)⟩) rfl rfl (fun _ => rfl) rfl hs1610) (hs1610.c rfl) rfl ?_
                  refine d_next rfl ?_
                  refine d_nil ?_
                  refine b_norm ?_
                  refine a_next (σ' := ⟨[(0, (.int .i64 a0)), (4, (.own 4 [] [])), (5, (.own 5 [] [])), (6, (.own 6 [] [])), (8, (.int .i64 r9)), (9, (.int .i64 r12)), (10, (.own 10 [] [])), (11, (.int .i64 x1081)), (12, (.int .i64 x1524))], [(4, some ⟨(eA64u8 a1), false⟩), (5, some ⟨(eA64u8 a2), false⟩), (6, some ⟨(eA64u8 ((vrep 64 (0 : Int)))), false⟩), (10, some ⟨(eA64u8 ((vset x1525 (IntKind.i64.wrap (x1081 + x1524)).toNat x1607))), false⟩)]⟩) rfl ?_
                  refine a_region ?_
                  refine a_val (v := (.int .i64 x1524)) (u := []) rfl trivial rfl ?_
                  refine a_val (v := (.int .i64 (IntKind.i64.wrap (x1524 + 1)))) (u := []) rfl trivial rfl ?_
                  refine a_val (v := (.int .i64 (IntKind.i64.wrap (x1524 + 1)))) (u := []) rfl trivial rfl ?_
                  refine a_nil ?_
                  cases h
                  exact a_again rfl hX1569
              · have h := hy1575
                refine a_region ?_
                refine a_val (v := (.int .i64 x1524)) (u := []) rfl trivial rfl ?_
                refine a_val (v := (.int .i64 r12)) (u := []) rfl trivial rfl ?_
                refine a_val (v := (.bool ((decide (x1524 ≤ r12))))) (u := []) rfl trivial rfl ?_
                refine a_val (v := (.bool ((decide (x1524 ≤ r12))))) (u := []) rfl trivial rfl ?_
                cases hb1577 : (decide (x1524 ≤ r12))
                · have h := ite_f hb1577 h
                  refine a_gskip rfl ?_
                  refine a_gskip rfl ?_
                  refine a_gskip rfl ?_
                  refine a_gskip rfl ?_
                  refine a_val (v := (.bool false)) (u := []) rfl trivial rfl ?_
                  refine a_nil ?_
                  exact j_leaf false (Option.some.inj h) rfl
                · have h := ite_t hb1577 h
                  refine a_gval rfl (v := (.int .i64 x1081)) (u := []) rfl trivial rfl ?_
                  obtain ⟨hc1578, h⟩ := ifp_some h
                  refine a_gval rfl (v := (.own 4 [x1081.toNat] [x1081.toNat * 1])) (u := []) rfl hc1578 rfl ?_
                  have hl1579 : LdOk [x1081.toNat] (eA64u8 a1) [x1081.toNat * 1] 1 false (.int .u8 (rd a1.1 x1081.toNat)) := (.arr (vlt a1 hc1578) rfl (.nil rfl rfl rfl))
                  refine a_gval rfl (v := (.int .u8 (rd a1.1 x1081.toNat))) (u := []) (ld_own (i := ⟨.int .u8, 1, 1, (.int .u8 0)⟩) rfl rfl rfl hl1579) hl1579.c rfl ?_
                  refine a_gval rfl (v := (.bool (((rd a1.1 x1081.toNat) != 0)))) (u := []) rfl trivial rfl ?_
                  refine a_val (v := (.bool (((rd a1.1 x1081.toNat) != 0)))) (u := []) rfl trivial rfl ?_
                  refine a_nil ?_
                  exact j_leaf (((rd a1.1 x1081.toNat) != 0)) (Option.some.inj h) rfl
      · have h := ite_t hb22 h
        refine a_cond_t rfl ?_
        refine a_seq ?_
        refine a_region ?_
        have hl1616 : LdOk [] (eA64u8 ((vrep 64 (0 : Int)))) [] 64 true (eA64u8 ((vrep 64 (0 : Int)))) := (.nil rfl rfl rfl)
        refine a_val (v := (eA64u8 ((vrep 64 (0 : Int))))) (u := []) (ld_own (i := ⟨.arr 64 5, 64, 64, (eA64u8 (vrep 64 (0 : Int)))⟩) rfl rfl rfl hl1616) hl1616.c rfl ?_
        have hs1617 : StOk [] (eA64u8 ((vrep 64 (0 : Int)))) [] 64 (eA64u8 ((vrep 64 (0 : Int)))) (eA64u8 ((vrep 64 (0 : Int)))) := (.nil rfl rfl rfl rfl)
        refine a_val (v := .top) (u := [(6, some ⟨(eA64u8 ((vrep 64 (0 : Int)))), false⟩)]) (st_own (i := ⟨.arr 64 5, 64, 64, (eA64u8 (vrep 64 (0 : Int)))⟩) rfl rfl (fun _ => rfl) rfl hs1617) (hs1617.c rfl) rfl ?_
        refine a_val (v := (.bool false)) (u := []) rfl trivial rfl ?_
        refine a_nil ?_
        refine a_next rfl ?_
        refine a_ret ?_
        refine t_ret ?_
        have hl1618 : LdOk [] (eA64u8 ((vrep 64 (0 : Int)))) [] 64 true (eA64u8 ((vrep 64 (0 : Int)))) := (.nil rfl rfl rfl)
        refine ⟨.inr rfl, ?_⟩
        rw [Try.results84]
        cases h
        exact ⟨_, _, _, _, _, ld_own (i := ⟨.arr 64 5, 64, 64, (eA64u8 (vrep 64 (0 : Int)))⟩) rfl rfl rfl hl1618, hl1618.c, .inl ⟨rfl, .inl rfl⟩, rfl, ⟨_, _, _, _, _, rfl, trivial, .inl ⟨rfl, .inl rfl⟩, rfl, rfl⟩⟩
    · have h := ite_t hb21 h
      refine a_cond_t rfl ?_
      refine a_seq ?_
      refine a_region ?_
      have hl1619 : LdOk [] (eA64u8 ((vrep 64 (0 : Int)))) [] 64 true (eA64u8 ((vrep 64 (0 : Int)))) := (.nil rfl rfl rfl)
      refine a_val (v := (eA64u8 ((vrep 64 (0 : Int))))) (u := []) (ld_own (i := ⟨.arr 64 5, 64, 64, (eA64u8 (vrep 64 (0 : Int)))⟩) rfl rfl rfl hl1619) hl1619.c rfl ?_
      have hs1620 : StOk [] (eA64u8 ((vrep 64 (0 : Int)))) [] 64 (eA64u8 ((vrep 64 (0 : Int)))) (eA64u8 ((vrep 64 (0 : Int)))) := (.nil rfl rfl rfl rfl)
      refine a_val (v := .top) (u := [(6, some ⟨(eA64u8 ((vrep 64 (0 : Int)))), false⟩)]) (st_own (i := ⟨.arr 64 5, 64, 64, (eA64u8 (vrep 64 (0 : Int)))⟩) rfl rfl (fun _ => rfl) rfl hs1620) (hs1620.c rfl) rfl ?_
      refine a_val (v := (.bool true)) (u := []) rfl trivial rfl ?_
      refine a_nil ?_
      refine a_next rfl ?_
      refine a_ret ?_
      refine t_ret ?_
      have hl1621 : LdOk [] (eA64u8 ((vrep 64 (0 : Int)))) [] 64 true (eA64u8 ((vrep 64 (0 : Int)))) := (.nil rfl rfl rfl)
      refine ⟨.inr rfl, ?_⟩
      rw [Try.results84]
      cases h
      exact ⟨_, _, _, _, _, ld_own (i := ⟨.arr 64 5, 64, 64, (eA64u8 (vrep 64 (0 : Int)))⟩) rfl rfl rfl hl1621, hl1621.c, .inl ⟨rfl, .inl rfl⟩, rfl, ⟨_, _, _, _, _, rfl, trivial, .inl ⟨rfl, .inl rfl⟩, rfl, rfl⟩⟩
  · have h := hy18
    refine a_region ?_
    refine a_val (v := (.int .i64 r9)) (u := []) rfl trivial rfl ?_
    refine a_val (v := (.bool ((decide (r9 < 0))))) (u := []) rfl trivial rfl ?_
    refine a_val (v := (.bool ((decide (r9 < 0))))) (u := []) rfl trivial rfl ?_
    cases hb20 : (decide (r9 < 0))
    · have h := ite_f hb20 h
      refine a_gval rfl (v := (.int .i64 r12)) (u := []) rfl trivial rfl ?_
      refine a_gval rfl (v := (.bool ((decide (r12 < 0))))) (u := []) rfl trivial rfl ?_
      refine a_val (v := (.bool ((decide (r12 < 0))))) (u := []) rfl trivial rfl ?_
      refine a_nil ?_
      exact j_leaf ((decide (r12 < 0))) (Option.some.inj h) rfl
    · have h := ite_t hb20 h
      refine a_gskip rfl ?_
      refine a_gskip rfl ?_
      refine a_val (v := (.bool true)) (u := []) rfl trivial rfl ?_
      refine a_nil ?_
      exact j_leaf true (Option.some.inj h) rfl
def spec_l08Power_c : ACode := (.seq (.region 0 [⟨some 4, .box 23 (.tmp 1), none, []⟩, ⟨some 6, .alloc 23, none, []⟩, ⟨some 7, .asg 0 (.const (.bool false)) 4, none, []⟩] false) (.seq (.region 1 [⟨some 11, .call 0 (.func 102) [], none, []⟩, ⟨some 8, .alloc 23, none, []⟩, ⟨none, .store 23 (.tmp 8) (.tmp 11), none, []⟩] false) (.seq (.block 0 (.loop (.seq (.seq (.region 2 [⟨some 12, .mov (.tmp 2), none, []⟩, ⟨some 13, .bin .gtr 2 (.tmp 12) (.const (.int .i64 0)), none, []⟩] false) (.cond (.tmp 13) .skip (.exit 0))) (.seq (.block 1 (.seq (.region 4 [⟨some 17, .mov (.tmp 0), none, []⟩, ⟨some 18, .load 23 (.tmp 8), none, []⟩, ⟨some 19, .load 23 (.tmp 4), none, []⟩, ⟨some 20, .call 0 (.func 84) [(.tmp 17), (.tmp 18), (.tmp 19)], none, []⟩, ⟨some 16, .mov (.tmp 20), none, []⟩, ⟨some 21, .extract (.tmp 16) 0, none, []⟩, ⟨some 22, .extract (.tmp 16) 1, none, []⟩, ⟨some 9, .alloc 23, none, []⟩, ⟨none, .store 23 (.tmp 9) (.tmp 21), none, []⟩, ⟨some 10, .asg 0 (.tmp 22) 4, none, []⟩] false) (.seq (.seq (.region 5 [⟨some 23, .mov (.tmp 10), none, []⟩, ⟨some 24, .un .not (.tmp 23), none, []⟩] false) (.cond (.tmp 24) (.seq (.region 6 [⟨some 25, .build 23 [], none, []⟩, ⟨none, .store 23 (.tmp 6) (.tmp 25), none, []⟩, ⟨some 7, .asg 0 (.const (.bool false)) 4, none, []⟩] false) .ret) .skip)) (.region 7 [⟨some 26, .load 23 (.tmp 9), none, []⟩, ⟨none, .store 23 (.tmp 8) (.tmp 26), none, []⟩] false)))) (.region 3 [⟨some 14, .mov (.tmp 2), none, []⟩, ⟨some 15, .bin .sub 2 (.tmp 14) (.const (.int .i64 1)), none, []⟩, ⟨some 2, .asg 0 (.tmp 15) 2, none, []⟩] false))))) (.seq (.region 8 [⟨some 27, .load 23 (.tmp 8), none, []⟩, ⟨none, .store 23 (.tmp 6) (.tmp 27), none, []⟩, ⟨some 7, .asg 0 (.const (.bool true)) 4, none, []⟩] false) .ret))))
def spec_l08Power_L : Live := [(0, [0, 1, 2]), (1, [0, 2, 4, 6]), (2, [0, 2, 4, 6, 8]), (3, [0, 2, 4, 6, 8]), (4, [0, 2, 4, 6, 8]), (5, [0, 2, 4, 6, 8, 9, 10]), (6, [6]), (7, [0, 2, 4, 6, 8, 9]), (8, [6, 8]), (100013, [0, 2, 4, 6, 8, 13]), (100024, [0, 2, 4, 6, 8, 9, 24])]
theorem spec_l08Power_body : Try.f122.body = some (Try.f122.body.getD .skip) := by kernel_rfl
theorem spec_l08Power_strip : strip [] (Try.f122.body.getD .skip) = spec_l08Power_c := by kernel_rfl
noncomputable def spec_l08Power_l1 (a0 : Int) (a1 : (Vec Int 64)) (x54 : Int) (x55 : (Vec Int 64)) : Option ((Int × (Vec Int 64)) ⊕ ((Vec Int 64) ⊕ ((Vec Int 64) × Bool))) :=
  (if (decide (x54 > 0)) then (Option.bind (spec_l01Times a0 x55 a1) fun r72 => (if (!r72.2) then (some (.inr ((.inr (((vrep 64 (0 : Int)), false)))))) else (some (.inl ((IntKind.i64.wrap (x54 - 1), r72.1)))))) else (some (.inr (.inl x55))))
noncomputable def spec_l08Power (a0 : Int) (a1 : (Vec Int 64)) (a2 : Int) : Option ((Vec Int 64) × Bool) :=
  (Option.bind (spec_l01One) fun r1 => (Option.bind (α := ((Vec Int 64) ⊕ ((Vec Int 64) × Bool))) ((loopM (fun s : (Int × (Vec Int 64)) => spec_l08Power_l1 a0 a1 s.1 s.2) (a2, r1))) fun z => match z with | .inl x40 => (some (x40, true)) | .inr r84 => (some r84)))
set_option maxHeartbeats 16000000 in
theorem spec_l08Power_ok (a0 : Int) (a1 : (Vec Int 64)) (a2 : Int) (r : ((Vec Int 64) × Bool)) (h : spec_l08Power a0 a1 a2 = some r) : Den Try.prog 122 [(.int .i64 a0), (eA64u8 a1), (.int .i64 a2)] { r := (.tuple [(eA64u8 r.1), (.bool r.2)]) } := by
  refine den_of (rs := [(eA64u8 r.1), (.bool r.2)]) (ac := spec_l08Power_c) (L := spec_l08Power_L) (n := 28) (m := []) good Try.func122 spec_l08Power_body (by kernel_rfl) Try.ntmps122 rfl rfl spec_l08Power_strip rfl rfl ?_
  refine a_st (σ' := ⟨[(0, (.int .i64 a0)), (1, (eA64u8 a1)), (2, (.int .i64 a2))], []⟩) rfl ?_
  unfold spec_l08Power_c
  refine a_seq ?_
  refine a_region ?_
  refine a_val (v := (.own 1400 [] [])) (u := [(1400, some ⟨(eA64u8 a1), false⟩)]) rfl trivial rfl ?_
  refine a_val (v := (.own 1600 [] [])) (u := [(1600, some ⟨(eA64u8 ((vrep 64 (0 : Int)))), false⟩)]) rfl trivial rfl ?_
  refine a_val (v := (.bool false)) (u := []) rfl trivial rfl ?_
  refine a_nil ?_
  refine a_next (σ' := ⟨[(0, (.int .i64 a0)), (2, (.int .i64 a2)), (4, (.own 4 [] [])), (6, (.own 6 [] []))], [(4, some ⟨(eA64u8 a1), false⟩), (6, some ⟨(eA64u8 ((vrep 64 (0 : Int)))), false⟩)]⟩) rfl ?_
  refine a_seq ?_
  refine a_region ?_
  obtain ⟨r1, hr2, h⟩ := bind_some h
  refine a_call (args := []) (u := []) (r := (eA64u8 r1)) rfl rfl (spec_l01One_ok r1 hr2) rfl ?_
  refine a_val (v := (.own 1800 [] [])) (u := [(1800, some ⟨(eA64u8 ((vrep 64 (0 : Int)))), false⟩)]) rfl trivial rfl ?_
  have hs3 : StOk [] (eA64u8 ((vrep 64 (0 : Int)))) [] 64 (eA64u8 r1) (eA64u8 r1) := (.nil rfl rfl rfl rfl)
  refine a_val (v := .top) (u := [(1800, some ⟨(eA64u8 r1), false⟩)]) (st_own (i := ⟨.arr 64 5, 64, 64, (eA64u8 (vrep 64 (0 : Int)))⟩) rfl rfl (fun _ => rfl) rfl hs3) (hs3.c rfl) rfl ?_
  refine a_nil ?_
  refine a_next (σ' := ⟨[(0, (.int .i64 a0)), (2, (.int .i64 a2)), (4, (.own 4 [] [])), (6, (.own 6 [] [])), (8, (.own 8 [] []))], [(4, some ⟨(eA64u8 a1), false⟩), (6, some ⟨(eA64u8 ((vrep 64 (0 : Int)))), false⟩), (8, some ⟨(eA64u8 r1), false⟩)]⟩) rfl ?_
  obtain ⟨y41, hy42, hk43⟩ := bind_some h
  clear h
  refine a_join (emb := fun (s : (Vec Int 64)) => ⟨[(6, (.own 6 [] [])), (8, (.own 8 [] []))], [(6, some ⟨(eA64u8 ((vrep 64 (0 : Int)))), false⟩), (8, some ⟨(eA64u8 s), false⟩)]⟩) (pre := fun s => (.inl s) = y41) ?_ ?_
  · rintro x40 rfl
    have h := hk43
    refine a_st (σ' := ⟨[(6, (.own 6 [] [])), (8, (.own 8 [] []))], [(6, some ⟨(eA64u8 ((vrep 64 (0 : Int)))), false⟩), (8, some ⟨(eA64u8 x40), false⟩)]⟩) rfl ?_
    refine a_seq ?_
    refine a_region ?_
    have hl81 : LdOk [] (eA64u8 x40) [] 64 true (eA64u8 x40) := (.nil rfl rfl rfl)
    refine a_val (v := (eA64u8 x40)) (u := []) (ld_own (i := ⟨.arr 64 5, 64, 64, (eA64u8 (vrep 64 (0 : Int)))⟩) rfl rfl rfl hl81) hl81.c rfl ?_
    have hs82 : StOk [] (eA64u8 ((vrep 64 (0 : Int)))) [] 64 (eA64u8 x40) (eA64u8 x40) := (.nil rfl rfl rfl rfl)
    refine a_val (v := .top) (u := [(6, some ⟨(eA64u8 x40), false⟩)]) (st_own (i := ⟨.arr 64 5, 64, 64, (eA64u8 (vrep 64 (0 : Int)))⟩) rfl rfl (fun _ => rfl) rfl hs82) (hs82.c rfl) rfl ?_
    refine a_val (v := (.bool true)) (u := []) rfl trivial rfl ?_
    refine a_nil ?_
    refine a_next rfl ?_
    refine a_ret ?_
    have hl83 : LdOk [] (eA64u8 x40) [] 64 true (eA64u8 x40) := (.nil rfl rfl rfl)
    refine ⟨.inr rfl, ?_⟩
    rw [Try.results122]
    cases h
    exact ⟨_, _, _, _, _, ld_own (i := ⟨.arr 64 5, 64, 64, (eA64u8 (vrep 64 (0 : Int)))⟩) rfl rfl rfl hl83, hl83.c, .inl ⟨rfl, .inl rfl⟩, rfl, ⟨_, _, _, _, _, rfl, trivial, .inl ⟨rfl, .inl rfl⟩, rfl, rfl⟩⟩
  · have h := hy42
    refine a_block ?_
    refine a_loop (emb := fun (s : (Int × (Vec Int 64))) => ⟨[(0, (.int .i64 a0)), (2, (.int .i64 s.1)), (4, (.own 4 [] [])), (6, (.own 6 [] [])), (8, (.own 8 [] []))], [(4, some ⟨(eA64u8 a1), false⟩), (6, some ⟨(eA64u8 ((vrep 64 (0 : Int)))), false⟩), (8, some ⟨(eA64u8 s.2), false⟩)]⟩) (body := (fun s : (Int × (Vec Int 64)) => spec_l08Power_l1 a0 a1 s.1 s.2)) (G := fun q => some q = some y41) h rfl ?_ rfl
    rintro X66 ⟨x54, x55⟩ x67 h hX68
    have h : spec_l08Power_l1 a0 a1 x54 x55 = some x67 := h
    refine a_st (σ' := ⟨[(0, (.int .i64 a0)), (2, (.int .i64 x54)), (4, (.own 4 [] [])), (6, (.own 6 [] [])), (8, (.own 8 [] []))], [(4, some ⟨(eA64u8 a1), false⟩), (6, some ⟨(eA64u8 ((vrep 64 (0 : Int)))), false⟩), (8, some ⟨(eA64u8 x55), false⟩)]⟩) rfl ?_
    refine a_seq ?_
    refine a_seq ?_
    refine a_region ?_
    refine a_val (v := (.int .i64 x54)) (u := []) rfl trivial rfl ?_
    refine a_val (v := (.bool ((decide (x54 > 0))))) (u := []) rfl trivial rfl ?_
    refine a_nil ?_
    refine a_next (σ' := ⟨[(0, (.int .i64 a0)), (2, (.int .i64 x54)), (4, (.own 4 [] [])), (6, (.own 6 [] [])), (8, (.own 8 [] [])), (13, (.bool ((decide (x54 > 0)))))], [(4, some ⟨(eA64u8 a1), false⟩), (6, some ⟨(eA64u8 ((vrep 64 (0 : Int)))), false⟩), (8, some ⟨(eA64u8 x55), false⟩)]⟩) rfl ?_
    cases hb69 : (decide (x54 > 0))
    · have h := ite_f hb69 h
      refine a_cond_f rfl ?_
      refine a_exit ?_
      refine t_exit ?_
      cases h
      have h := hX68
      refine t_exit ?_
      refine b_exit ?_
      exact j_leaf x55 (Option.some.inj h) rfl
    · have h := ite_t hb69 h
      refine a_cond_t rfl ?_
      refine a_skip ?_
      refine a_next (σ' := ⟨[(0, (.int .i64 a0)), (2, (.int .i64 x54)), (4, (.own 4 [] [])), (6, (.own 6 [] [])), (8, (.own 8 [] []))], [(4, some ⟨(eA64u8 a1), false⟩), (6, some ⟨(eA64u8 ((vrep 64 (0 : Int)))), false⟩), (8, some ⟨(eA64u8 x55), false⟩)]⟩) rfl ?_
      refine a_seq ?_
      refine a_block ?_
      refine a_seq ?_
      refine a_region ?_
      refine a_val (v := (.int .i64 a0)) (u := []) rfl trivial rfl ?_
      have hl70 : LdOk [] (eA64u8 x55) [] 64 true (eA64u8 x55) := (.nil rfl rfl rfl)
      refine a_val (v := (eA64u8 x55)) (u := []) (ld_own (i := ⟨.arr 64 5, 64, 64, (eA64u8 (vrep 64 (0 : Int)))⟩) rfl rfl rfl hl70) hl70.c rfl ?_
      have hl71 : LdOk [] (eA64u8 a1) [] 64 true (eA64u8 a1) := (.nil rfl rfl rfl)
      refine a_val (v := (eA64u8 a1)) (u := []) (ld_own (i := ⟨.arr 64 5, 64, 64, (eA64u8 (vrep 64 (0 : Int)))⟩) rfl rfl rfl hl71) hl71.c rfl ?_
      obtain ⟨r72, hr73, h⟩ := bind_some h
      refine a_call (args := [(.int .i64 a0), (eA64u8 x55), (eA64u8 a1)]) (u := []) (r := (.tuple [(eA64u8 r72.1), (.bool r72.2)])) rfl rfl (spec_l01Times_ok a0 x55 a1 r72 hr73) rfl ?_
      refine a_val (v := (.tuple [(eA64u8 r72.1), (.bool r72.2)])) (u := []) rfl trivial rfl ?_
      refine a_val (v := (eA64u8 r72.1)) (u := []) rfl (Nat.le_of_ble_eq_true rfl) rfl ?_
      refine a_val (v := (.bool r72.2)) (u := []) rfl (Nat.le_of_ble_eq_true rfl) rfl ?_
      refine a_val (v := (.own 1900 [] [])) (u := [(1900, some ⟨(eA64u8 ((vrep 64 (0 : Int)))), false⟩)]) rfl trivial rfl ?_
      have hs74 : StOk [] (eA64u8 ((vrep 64 (0 : Int)))) [] 64 (eA64u8 r72.1) (eA64u8 r72.1) := (.nil rfl rfl rfl rfl)
      refine a_val (v := .top) (u := [(1900, some ⟨(eA64u8 r72.1), false⟩)]) (st_own (i := ⟨.arr 64 5, 64, 64, (eA64u8 (vrep 64 (0 : Int)))⟩) rfl rfl (fun _ => rfl) rfl hs74) (hs74.c rfl) rfl ?_
      refine a_val (v := (.bool r72.2)) (u := []) rfl trivial rfl ?_
      refine a_nil ?_
      refine a_next (σ' := ⟨[(0, (.int .i64 a0)), (2, (.int .i64 x54)), (4, (.own 4 [] [])), (6, (.own 6 [] [])), (8, (.own 8 [] [])), (9, (.own 9 [] [])), (10, (.bool r72.2))], [(4, some ⟨(eA64u8 a1), false⟩), (6, some ⟨(eA64u8 ((vrep 64 (0 : Int)))), false⟩), (8, some ⟨(eA64u8 x55), false⟩), (9, some ⟨(eA64u8 r72.1), false⟩)]⟩) rfl ?_
      refine a_seq ?_
      refine a_seq ?_
      refine a_region ?_
      refine a_val (v := (.bool r72.2)) (u := []) rfl trivial rfl ?_
      refine a_val (v := (.bool (!r72.2))) (u := []) rfl trivial rfl ?_
      refine a_nil ?_
      refine a_next (σ' := ⟨[(0, (.int .i64 a0)), (2, (.int .i64 x54)), (4, (.own 4 [] [])), (6, (.own 6 [] [])), (8, (.own 8 [] [])), (9, (.own 9 [] [])), (24, (.bool (!r72.2)))], [(4, some ⟨(eA64u8 a1), false⟩), (6, some ⟨(eA64u8 ((vrep 64 (0 : Int)))), false⟩), (8, some ⟨(eA64u8 x55), false⟩), (9, some ⟨(eA64u8 r72.1), false⟩)]⟩) rfl ?_
      cases hb75 : (!r72.2)
      · have h := ite_f hb75 h
        refine a_cond_f rfl ?_
        refine a_skip ?_
        refine a_next (σ' := ⟨[(0, (.int .i64 a0)), (2, (.int .i64 x54)), (4, (.own 4 [] [])), (6, (.own 6 [] [])), (8, (.own 8 [] [])), (9, (.own 9 [] []))], [(4, some ⟨(eA64u8 a1), false⟩), (6, some ⟨(eA64u8 ((vrep 64 (0 : Int)))), false⟩), (8, some ⟨(eA64u8 x55), false⟩), (9, some ⟨(eA64u8 r72.1), false⟩)]⟩) rfl ?_
        refine a_region ?_
        have hl76 : LdOk [] (eA64u8 r72.1) [] 64 true (eA64u8 r72.1) := (.nil rfl rfl rfl)
        refine a_val (v := (eA64u8 r72.1)) (u := []) (ld_own (i := ⟨.arr 64 5, 64, 64, (eA64u8 (vrep 64 (0 : Int)))⟩) rfl rfl rfl hl76) hl76.c rfl ?_
        have hs77 : StOk [] (eA64u8 x55) [] 64 (eA64u8 r72.1) (eA64u8 r72.1) := (.nil rfl rfl rfl rfl)
        refine a_val (v := .top) (u := [(8, some ⟨(eA64u8 r72.1), false⟩)]) (st_own (i := ⟨.arr 64 5, 64, 64, (eA64u8 (vrep 64 (0 : Int)))⟩) rfl rfl (fun _ => rfl) rfl hs77) (hs77.c rfl) rfl ?_
        refine a_nil ?_
        refine b_norm ?_
        refine a_next (σ' := ⟨[(0, (.int .i64 a0)), (2, (.int .i64 x54)), (4, (.own 4 [] [])), (6, (.own 6 [] [])), (8, (.own 8 [] []))], [(4, some ⟨(eA64u8 a1), false⟩), (6, some ⟨(eA64u8 ((vrep 64 (0 : Int)))), false⟩), (8, some ⟨(eA64u8 r72.1), false⟩)]⟩) rfl ?_
        refine a_region ?_
        refine a_val (v := (.int .i64 x54)) (u := []) rfl trivial rfl ?_
        refine a_val (v := (.int .i64 (IntKind.i64.wrap (x54 - 1)))) (u := []) rfl trivial rfl ?_
        refine a_val (v := (.int .i64 (IntKind.i64.wrap (x54 - 1)))) (u := []) rfl trivial rfl ?_
        refine a_nil ?_
        cases h
        exact a_again rfl hX68
      · have h := ite_t hb75 h
        refine a_cond_t rfl ?_
        refine a_seq ?_
        refine a_region ?_
        refine a_val (v := (eA64u8 ((vrep 64 (0 : Int))))) (u := []) rfl ⟨⟨_, rfl, rfl⟩, all_nil⟩ rfl ?_
        have hs78 : StOk [] (eA64u8 ((vrep 64 (0 : Int)))) [] 64 (eA64u8 ((vrep 64 (0 : Int)))) (eA64u8 ((vrep 64 (0 : Int)))) := (.nil rfl rfl rfl rfl)
        refine a_val (v := .top) (u := [(6, some ⟨(eA64u8 ((vrep 64 (0 : Int)))), false⟩)]) (st_own (i := ⟨.arr 64 5, 64, 64, (eA64u8 (vrep 64 (0 : Int)))⟩) rfl rfl (fun _ => rfl) rfl hs78) (hs78.c rfl) rfl ?_
        refine a_val (v := (.bool false)) (u := []) rfl trivial rfl ?_
        refine a_nil ?_
        refine a_next rfl ?_
        refine a_ret ?_
        refine t_ret ?_
        refine b_ret ?_
        refine t_ret ?_
        cases h
        have h := hX68
        refine t_ret ?_
        refine b_ret ?_
        refine t_ret ?_
        cases h
        have h := hk43
        have hl79 : LdOk [] (eA64u8 ((vrep 64 (0 : Int)))) [] 64 true (eA64u8 ((vrep 64 (0 : Int)))) := (.nil rfl rfl rfl)
        refine ⟨.inr rfl, ?_⟩
        rw [Try.results122]
        cases h
        exact ⟨_, _, _, _, _, ld_own (i := ⟨.arr 64 5, 64, 64, (eA64u8 (vrep 64 (0 : Int)))⟩) rfl rfl rfl hl79, hl79.c, .inl ⟨rfl, .inl rfl⟩, rfl, ⟨_, _, _, _, _, rfl, trivial, .inl ⟨rfl, .inl rfl⟩, rfl, rfl⟩⟩
def spec_l01Add_c : ACode := (.seq (.region 0 [⟨some 5, .box 23 (.tmp 1), none, []⟩, ⟨some 6, .box 23 (.tmp 2), none, []⟩, ⟨some 8, .alloc 23, none, []⟩] false) (.seq (.seq (.region 1 [⟨some 9, .asg 0 (.const (.int .i64 0)) 3, none, []⟩] false) (.block 0 (.loop (.seq (.seq (.region 2 [⟨some 10, .mov (.tmp 9), none, []⟩, ⟨some 11, .bin .lss 3 (.tmp 10) (.const (.int .i64 64)), none, []⟩] false) (.cond (.tmp 11) .skip (.exit 0))) (.seq (.block 1 (.region 4 [⟨some 14, .mov (.tmp 9), none, []⟩, ⟨some 15, .mov (.tmp 9), none, []⟩, ⟨some 16, .indexAddr 23 (.tmp 5) (.tmp 15), none, [1]⟩, ⟨some 17, .load 5 (.tmp 16), none, [2]⟩, ⟨some 18, .conv 5 2 (.tmp 17), none, [3]⟩, ⟨some 19, .mov (.tmp 3), none, []⟩, ⟨some 20, .mov (.tmp 9), none, []⟩, ⟨some 21, .indexAddr 23 (.tmp 6) (.tmp 20), none, [6]⟩, ⟨some 22, .load 5 (.tmp 21), none, [7]⟩, ⟨some 23, .conv 5 2 (.tmp 22), none, [8]⟩, ⟨some 24, .bin .mul 2 (.tmp 19) (.tmp 23), none, [5, 9]⟩, ⟨some 25, .bin .add 2 (.tmp 18) (.tmp 24), none, [4, 10]⟩, ⟨some 26, .mov (.tmp 0), none, []⟩, ⟨some 27, .bin .rem 2 (.tmp 25) (.tmp 26), none, [11, 12]⟩, ⟨some 28, .mov (.tmp 0), none, []⟩, ⟨some 29, .bin .add 2 (.tmp 27) (.tmp 28), none, [13, 14]⟩, ⟨some 30, .mov (.tmp 0), none, []⟩, ⟨some 31, .bin .rem 2 (.tmp 29) (.tmp 30), none, [15, 16]⟩, ⟨some 32, .conv 2 5 (.tmp 31), none, [17]⟩, ⟨some 33, .indexAddr 23 (.tmp 5) (.tmp 14), none, [0, 0, 1, 2, 3, 4, 5, 6, 7, 8, 9, 10, 11, 12, 13, 14, 15, 16, 17, 18]⟩, ⟨none, .store 5 (.tmp 33) (.tmp 32), none, [19, 18, 0, 1, 2, 3, 4, 5, 6, 7, 8, 9, 10, 11, 12, 13, 14, 15, 16, 17, 18]⟩] true)) (.region 3 [⟨some 12, .mov (.tmp 9), none, []⟩, ⟨some 13, .bin .add 3 (.tmp 12) (.const (.int .i64 1)), none, []⟩, ⟨some 9, .asg 0 (.tmp 13) 3, none, []⟩] false)))))) (.seq (.region 5 [⟨some 34, .load 23 (.tmp 5), none, []⟩, ⟨none, .store 23 (.tmp 8) (.tmp 34), none, []⟩] false) .ret)))
def spec_l01Add_L : Live := [(0, [0, 1, 2, 3]), (1, [0, 3, 5, 6, 8]), (2, [0, 3, 5, 6, 8, 9]), (3, [0, 3, 5, 6, 8, 9]), (4, [0, 3, 5, 6, 8, 9]), (5, [5, 8]), (100011, [0, 3, 5, 6, 8, 9, 11])]
theorem spec_l01Add_body : Try.f123.body = some (Try.f123.body.getD .skip) := by kernel_rfl
theorem spec_l01Add_strip : strip [] (Try.f123.body.getD .skip) = spec_l01Add_c := by kernel_rfl
noncomputable def spec_l01Add_l1 (a3 : Int) (a2 : (Vec Int 64)) (a0 : Int) (x119 : Int) (x120 : (Vec Int 64)) : Option ((Int × (Vec Int 64)) ⊕ (Vec Int 64)) :=
  (if (decide (x119 < 64)) then (ifp (0 ≤ x119 ∧ x119 < ((64 : Nat) : Int)) ((ifp (0 ≤ x119 ∧ x119 < ((64 : Nat) : Int)) ((letp (IntKind.i64.wrap (a3 * (IntKind.i64.wrap (rd a2.1 x119.toNat)))) fun x172 => (letp (IntKind.i64.wrap ((IntKind.i64.wrap (rd x120.1 x119.toNat)) + x172)) fun x174 => (ifp (a0 ≠ 0) ((ifp (a0 ≠ 0) ((letp (IntKind.u8.wrap (Int.tmod (IntKind.i64.wrap ((Int.tmod x174 a0) + a0)) a0)) fun x178 => (ifp (0 ≤ x119 ∧ x119 < ((64 : Nat) : Int)) ((some (.inl ((IntKind.i64.wrap (x119 + 1), (vset x120 x119.toNat x178)))))))))))))))))) else (some (.inr x120)))
noncomputable def spec_l01Add (a0 : Int) (a1 : (Vec Int 64)) (a2 : (Vec Int 64)) (a3 : Int) : Option (Vec Int 64) :=
  (Option.bind (α := (Vec Int 64)) ((loopM (fun s : (Int × (Vec Int 64)) => spec_l01Add_l1 a3 a2 a0 s.1 s.2) (0, a1))) fun x90 => (some x90))
set_option maxHeartbeats 16000000 in
theorem spec_l01Add_ok (a0 : Int) (a1 : (Vec Int 64)) (a2 : (Vec Int 64)) (a3 : Int) (r : (Vec Int 64)) (h : spec_l01Add a0 a1 a2 a3 = some r) : Den Try.prog 123 [(.int .i64 a0), (eA64u8 a1), (eA64u8 a2), (.int .i64 a3)] { r := (eA64u8 r) } := by
  refine den_of (rs := [(eA64u8 r)]) (ac := spec_l01Add_c) (L := spec_l01Add_L) (n := 35) (m := []) good Try.func123 spec_l01Add_body (by kernel_rfl) Try.ntmps123 rfl rfl spec_l01Add_strip rfl rfl ?_
  refine a_st (σ' := ⟨[(0, (.int .i64 a0)), (1, (eA64u8 a1)), (2, (eA64u8 a2)), (3, (.int .i64 a3))], []⟩) rfl ?_
  unfold spec_l01Add_c
  refine a_seq ?_
  refine a_region ?_
  refine a_val (v := (.own 1500 [] [])) (u := [(1500, some ⟨(eA64u8 a1), false⟩)]) rfl trivial rfl ?_
  refine a_val (v := (.own 1600 [] [])) (u := [(1600, some ⟨(eA64u8 a2), false⟩)]) rfl trivial rfl ?_
  refine a_val (v := (.own 1800 [] [])) (u := [(1800, some ⟨(eA64u8 ((vrep 64 (0 : Int)))), false⟩)]) rfl trivial rfl ?_
  refine a_nil ?_
  refine a_next (σ' := ⟨[(0, (.int .i64 a0)), (3, (.int .i64 a3)), (5, (.own 5 [] [])), (6, (.own 6 [] [])), (8, (.own 8 [] []))], [(5, some ⟨(eA64u8 a1), false⟩), (6, some ⟨(eA64u8 a2), false⟩), (8, some ⟨(eA64u8 ((vrep 64 (0 : Int)))), false⟩)]⟩) rfl ?_
  obtain ⟨y91, hy92, hk93⟩ := bind_some h
  clear h
  refine a_join (emb := fun (s : (Vec Int 64)) => ⟨[(5, (.own 5 [] [])), (8, (.own 8 [] []))], [(5, some ⟨(eA64u8 s), false⟩), (8, some ⟨(eA64u8 ((vrep 64 (0 : Int)))), false⟩)]⟩) (pre := fun s => s = y91) ?_ ?_
  · rintro x90 rfl
    have h := hk93
    refine a_st (σ' := ⟨[(5, (.own 5 [] [])), (8, (.own 8 [] []))], [(5, some ⟨(eA64u8 x90), false⟩), (8, some ⟨(eA64u8 ((vrep 64 (0 : Int)))), false⟩)]⟩) rfl ?_
    refine a_seq ?_
    refine a_region ?_
    have hl183 : LdOk [] (eA64u8 x90) [] 64 true (eA64u8 x90) := (.nil rfl rfl rfl)
    refine a_val (v := (eA64u8 x90)) (u := []) (ld_own (i := ⟨.arr 64 5, 64, 64, (eA64u8 (vrep 64 (0 : Int)))⟩) rfl rfl rfl hl183) hl183.c rfl ?_
    have hs184 : StOk [] (eA64u8 ((vrep 64 (0 : Int)))) [] 64 (eA64u8 x90) (eA64u8 x90) := (.nil rfl rfl rfl rfl)
    refine a_val (v := .top) (u := [(8, some ⟨(eA64u8 x90), false⟩)]) (st_own (i := ⟨.arr 64 5, 64, 64, (eA64u8 (vrep 64 (0 : Int)))⟩) rfl rfl (fun _ => rfl) rfl hs184) (hs184.c rfl) rfl ?_
    refine a_nil ?_
    refine a_next rfl ?_
    refine a_ret ?_
    have hl185 : LdOk [] (eA64u8 x90) [] 64 true (eA64u8 x90) := (.nil rfl rfl rfl)
    refine ⟨.inr rfl, ?_⟩
    rw [Try.results123]
    cases h
    exact ⟨_, _, _, _, _, ld_own (i := ⟨.arr 64 5, 64, 64, (eA64u8 (vrep 64 (0 : Int)))⟩) rfl rfl rfl hl185, hl185.c, .inl ⟨rfl, .inl rfl⟩, rfl, rfl⟩
  · have h := hy92
    refine a_seq ?_
    refine a_region ?_
    refine a_val (v := (.int .i64 0)) (u := []) rfl trivial rfl ?_
    refine a_nil ?_
    refine a_next (σ' := ⟨[(0, (.int .i64 a0)), (3, (.int .i64 a3)), (5, (.own 5 [] [])), (6, (.own 6 [] [])), (8, (.own 8 [] [])), (9, (.int .i64 0))], [(5, some ⟨(eA64u8 a1), false⟩), (6, some ⟨(eA64u8 a2), false⟩), (8, some ⟨(eA64u8 ((vrep 64 (0 : Int)))), false⟩)]⟩) rfl ?_
    refine a_block ?_
    refine a_loop (emb := fun (s : (Int × (Vec Int 64))) => ⟨[(0, (.int .i64 a0)), (3, (.int .i64 a3)), (5, (.own 5 [] [])), (6, (.own 6 [] [])), (8, (.own 8 [] [])), (9, (.int .i64 s.1))], [(5, some ⟨(eA64u8 s.2), false⟩), (6, some ⟨(eA64u8 a2), false⟩), (8, some ⟨(eA64u8 ((vrep 64 (0 : Int)))), false⟩)]⟩) (body := (fun s : (Int × (Vec Int 64)) => spec_l01Add_l1 a3 a2 a0 s.1 s.2)) (G := fun q => some q = some y91) h rfl ?_ rfl
    rintro X150 ⟨x119, x120⟩ x151 h hX152
    have h : spec_l01Add_l1 a3 a2 a0 x119 x120 = some x151 := h
    refine a_st (σ' := ⟨[(0, (.int .i64 a0)), (3, (.int .i64 a3)), (5, (.own 5 [] [])), (6, (.own 6 [] [])), (8, (.own 8 [] [])), (9, (.int .i64 x119))], [(5, some ⟨(eA64u8 x120), false⟩), (6, some ⟨(eA64u8 a2), false⟩), (8, some ⟨(eA64u8 ((vrep 64 (0 : Int)))), false⟩)]⟩) rfl ?_
    refine a_seq ?_
    refine a_seq ?_
    refine a_region ?_
    refine a_val (v := (.int .i64 x119)) (u := []) rfl trivial rfl ?_
    refine a_val (v := (.bool ((decide (x119 < 64))))) (u := []) rfl trivial rfl ?_
    refine a_nil ?_
    refine a_next (σ' := ⟨[(0, (.int .i64 a0)), (3, (.int .i64 a3)), (5, (.own 5 [] [])), (6, (.own 6 [] [])), (8, (.own 8 [] [])), (9, (.int .i64 x119)), (11, (.bool ((decide (x119 < 64)))))], [(5, some ⟨(eA64u8 x120), false⟩), (6, some ⟨(eA64u8 a2), false⟩), (8, some ⟨(eA64u8 ((vrep 64 (0 : Int)))), false⟩)]⟩) rfl ?_
    cases hb153 : (decide (x119 < 64))
    · have h := ite_f hb153 h
      refine a_cond_f rfl ?_
      refine a_exit ?_
      refine t_exit ?_
      cases h
      have h := hX152
      refine t_exit ?_
      refine b_exit ?_
      exact j_leaf x120 (Option.some.inj h) rfl
    · have h := ite_t hb153 h
      refine a_cond_t rfl ?_
      refine a_skip ?_
      refine a_next (σ' := ⟨[(0, (.int .i64 a0)), (3, (.int .i64 a3)), (5, (.own 5 [] [])), (6, (.own 6 [] [])), (8, (.own 8 [] [])), (9, (.int .i64 x119))], [(5, some ⟨(eA64u8 x120), false⟩), (6, some ⟨(eA64u8 a2), false⟩), (8, some ⟨(eA64u8 ((vrep 64 (0 : Int)))), false⟩)]⟩) rfl ?_
      refine a_seq ?_
      refine a_block ?_
      refine a_draw [⟨[], [], [], []⟩, ⟨[], [], [], []⟩, ⟨[5], [], [5], [1]⟩, ⟨[5], [], [], [1, 2]⟩, ⟨[], [], [], [1, 2, 3]⟩, ⟨[], [], [], []⟩, ⟨[], [], [], []⟩, ⟨[6], [], [6], [6]⟩, ⟨[6], [], [], [6, 7]⟩, ⟨[], [], [], [6, 7, 8]⟩, ⟨[], [], [], [5, 6, 7, 8, 9]⟩, ⟨[], [], [], [1, 2, 3, 4, 5, 6, 7, 8, 9, 10]⟩, ⟨[], [], [], []⟩, ⟨[], [], [], [1, 2, 3, 4, 5, 6, 7, 8, 9, 10, 11, 12]⟩, ⟨[], [], [], []⟩, ⟨[], [], [], [1, 2, 3, 4, 5, 6, 7, 8, 9, 10, 11, 12, 13, 14]⟩, ⟨[], [], [], []⟩, ⟨[], [], [], [1, 2, 3, 4, 5, 6, 7, 8, 9, 10, 11, 12, 13, 14, 15, 16]⟩, ⟨[], [], [], [1, 2, 3, 4, 5, 6, 7, 8, 9, 10, 11, 12, 13, 14, 15, 16, 17]⟩, ⟨[5], [], [5], [0, 1, 2, 3, 4, 5, 6, 7, 8, 9, 10, 11, 12, 13, 14, 15, 16, 17, 18]⟩, ⟨[5], [5], [], [0, 1, 2, 3, 4, 5, 6, 7, 8, 9, 10, 11, 12, 13, 14, 15, 16, 17, 18, 19]⟩] (by kernel_rfl) ?_
      refine d_cons ?_
      refine a_val (v := (.int .i64 x119)) (u := []) rfl trivial rfl ?_
      refine d_next rfl ?_
      refine d_cons ?_
      refine a_val (v := (.int .i64 x119)) (u := []) rfl trivial rfl ?_
      refine d_next rfl ?_
      refine d_cons ?_
      obtain ⟨hc168, h⟩ := ifp_some h
      refine a_val (v := (.own 5 [x119.toNat] [x119.toNat * 1])) (u := []) rfl hc168 rfl ?_
      refine d_next rfl ?_
      refine d_cons ?_
      have hl169 : LdOk [x119.toNat] (eA64u8 x120) [x119.toNat * 1] 1 false (.int .u8 (rd x120.1 x119.toNat)) := (.arr (vlt x120 hc168) rfl (.nil rfl rfl rfl))
      refine a_val (v := (.int .u8 (rd x120.1 x119.toNat))) (u := []) (ld_own (i := ⟨.int .u8, 1, 1, (.int .u8 0)⟩) rfl rfl rfl hl169) hl169.c rfl ?_
      refine d_next rfl ?_
      refine d_cons ?_
      refine a_val (v := (.int .i64 (IntKind.i64.wrap (rd x120.1 x119.toNat)))) (u := []) rfl trivial rfl ?_
      refine d_next rfl ?_
      refine d_cons ?_
      refine a_val (v := (.int .i64 a3)) (u := []) rfl trivial rfl ?_
      refine d_next rfl ?_
      refine d_cons ?_
      refine a_val (v := (.int .i64 x119)) (u := []) rfl trivial rfl ?_
      refine d_next rfl ?_
      refine d_cons ?_
      obtain ⟨hc170, h⟩ := ifp_some h
      refine a_val (v := (.own 6 [x119.toNat] [x119.toNat * 1])) (u := []) rfl hc170 rfl ?_
      refine d_next rfl ?_
      refine d_cons ?_
      have hl171 : LdOk [x119.toNat] (eA64u8 a2) [x119.toNat * 1] 1 false (.int .u8 (rd a2.1 x119.toNat)) := (.arr (vlt a2 hc170) rfl (.nil rfl rfl rfl))
      refine a_val (v := (.int .u8 (rd a2.1 x119.toNat))) (u := []) (ld_own (i := ⟨.int .u8, 1, 1, (.int .u8 0)⟩) rfl rfl rfl hl171) hl171.c rfl ?_
      refine d_next rfl ?_
      refine d_cons ?_
      refine a_val (v := (.int .i64 (IntKind.i64.wrap (rd a2.1 x119.toNat)))) (u := []) rfl trivial rfl ?_
      refine d_next rfl ?_
      refine d_cons ?_
      obtain ⟨x172, hx173, h⟩ := letp_some h
      refine a_val' (v := (.int .i64 (IntKind.i64.wrap (a3 * (IntKind.i64.wrap (rd a2.1 x119.toNat)))))) (v' := (.int .i64 x172)) (u := []) (u' := []) rfl (congrArg (fun z => ((.int .i64 z) : AV)) hx173) rfl trivial rfl ?_
      refine d_next rfl ?_
      refine d_cons ?_
      obtain ⟨x174, hx175, h⟩ := letp_some h
      refine a_val' (v := (.int .i64 (IntKind.i64.wrap ((IntKind.i64.wrap (rd x120.1 x119.toNat)) + x172)))) (v' := (.int .i64 x174)) (u := []) (u' := []) rfl (congrArg (fun z => ((.int .i64 z) : AV)) hx175) rfl trivial rfl ?_
      refine d_next rfl ?_
      refine d_cons ?_
      refine a_val (v := (.int .i64 a0)) (u := []) rfl trivial rfl ?_
      refine d_next rfl ?_
      refine d_cons ?_
      obtain ⟨hc176, h⟩ := ifp_some h
      refine a_val (v := (.int .i64 (Int.tmod x174 a0))) (u := []) rfl hc176 rfl ?_
      refine d_next rfl ?_
      refine d_cons ?_
      refine a_val (v := (.int .i64 a0)) (u := []) rfl trivial rfl ?_
      refine d_next rfl ?_
      refine d_cons ?_
      refine a_val (v := (.int .i64 (IntKind.i64.wrap ((Int.tmod x174 a0) + a0)))) (u := []) rfl trivial rfl ?_
      refine d_next rfl ?_
      refine d_cons ?_
      refine a_val (v := (.int .i64 a0)) (u := []) rfl trivial rfl ?_
      refine d_next rfl ?_
      refine d_cons ?_
      obtain ⟨hc177, h⟩ := ifp_some h
      refine a_val (v := (.int .i64 (Int.tmod (IntKind.i64.wrap ((Int.tmod x174 a0) + a0)) a0))) (u := []) rfl hc177 rfl ?_
      refine d_next rfl ?_
      refine d_cons ?_
      obtain ⟨x178, hx179, h⟩ := letp_some h
      refine a_val' (v := (.int .u8 (IntKind.u8.wrap (Int.tmod (IntKind.i64.wrap ((Int.tmod x174 a0) + a0)) a0)))) (v' := (.int .u8 x178)) (u := []) (u' := []) rfl (congrArg (fun z => ((.int .u8 z) : AV)) hx179) rfl trivial rfl ?_
      refine d_next rfl ?_
      refine d_cons ?_
      obtain ⟨hc180, h⟩ := ifp_some h
      refine a_val (v := (.own 5 [x119.toNat] [x119.toNat * 1])) (u := []) rfl hc180 rfl ?_
      refine d_next rfl ?_
      refine d_cons ?_
      have hs181 : StOk [x119.toNat] (eA64u8 x120) [x119.toNat * 1] 1 (.int .u8 x178) (eA64u8 (vset x120 x119.toNat x178)) := (.arr (y := x178) (vlt x120 hc180) rfl (.nil rfl rfl rfl rfl))
      refine a_val (v := .top) (u := [(5, some ⟨(eA64u8 (vset x120 x119.toNat x178)), false⟩)]) (st_own (i := ⟨.int .u8, 1, 1, (.int .u8 0)⟩) rfl rfl (fun _ => rfl) rfl hs181) (hs181.c rfl) rfl ?_
      refine d_next rfl ?_
      refine d_nil ?_
      refine b_norm ?_
      refine a_next (σ' := ⟨[(0, (.int .i64 a0)), (3, (.int .i64 a3)), (5, (.own 5 [] [])), (6, (.own 6 [] [])), (8, (.own 8 [] [])), (9, (.int .i64 x119))], [(5, some ⟨(eA64u8 (vset x120 x119.toNat x178)), false⟩), (6, some ⟨(eA64u8 a2), false⟩), (8, some ⟨(eA64u8 ((vrep 64 (0 : Int)))), false⟩)]⟩) rfl ?_
      refine a_region ?_
      refine a_val (v := (.int .i64 x119)) (u := []) rfl trivial rfl ?_
      refine a_val (v := (.int .i64 (IntKind.i64.wrap (x119 + 1)))) (u := []) rfl trivial rfl ?_
      refine a_val (v := (.int .i64 (IntKind.i64.wrap (x119 + 1)))) (u := []) rfl trivial rfl ?_
      refine a_nil ?_
      cases h
      exact a_again rfl hX152
def spec_l08Sum_c : ACode := (.seq (.region 0 [⟨some 6, .alloc 23, none, []⟩, ⟨some 7, .asg 0 (.const (.bool false)) 4, none, []⟩] false) (.seq (.region 1 [⟨some 12, .build 23 [], none, []⟩, ⟨some 8, .alloc 23, none, []⟩, ⟨none, .store 23 (.tmp 8) (.tmp 12), none, []⟩] false) (.seq (.seq (.region 2 [⟨some 13, .mov (.tmp 1), none, []⟩, ⟨some 14, .mov (.tmp 2), none, []⟩, ⟨some 15, .bin .mul 2 (.tmp 13) (.tmp 14), none, []⟩, ⟨some 16, .bin .gtr 2 (.tmp 15) (.const (.int .i64 63)), none, []⟩] false) (.cond (.tmp 16) (.seq (.region 3 [⟨some 17, .load 23 (.tmp 8), none, []⟩, ⟨none, .store 23 (.tmp 6) (.tmp 17), none, []⟩, ⟨some 7, .asg 0 (.const (.bool false)) 4, none, []⟩] false) .ret) .skip)) (.seq (.seq (.region 4 [⟨some 18, .mov (.tmp 0), none, []⟩, ⟨some 19, .mov (.tmp 1), none, []⟩, ⟨some 20, .call 0 (.func 65) [(.tmp 18), (.tmp 19)], none, []⟩, ⟨some 9, .asg 0 (.tmp 20) 2, none, []⟩] false) (.block 0 (.loop (.seq (.seq (.region 5 [⟨some 21, .mov (.tmp 9), none, []⟩, ⟨some 22, .mov (.tmp 0), none, []⟩, ⟨some 23, .mov (.tmp 1), none, []⟩, ⟨some 24, .call 0 (.func 65) [(.tmp 22), (.tmp 23)], none, []⟩, ⟨some 25, .bin .mul 2 (.const (.int .i64 2)) (.tmp 24), none, []⟩, ⟨some 26, .bin .lss 2 (.tmp 21) (.tmp 25), none, []⟩] false) (.cond (.tmp 26) .skip (.exit 0))) (.seq (.block 1 (.seq (.region 7 [⟨some 30, .mov (.tmp 0), none, []⟩, ⟨some 31, .mov (.tmp 0), none, []⟩, ⟨some 32, .mov (.tmp 9), none, []⟩, ⟨some 33, .call 0 (.func 58) [(.tmp 31), (.tmp 32)], none, []⟩, ⟨some 34, .mov (.tmp 2), none, []⟩, ⟨some 35, .call 0 (.func 122) [(.tmp 30), (.tmp 33), (.tmp 34)], none, []⟩, ⟨some 29, .mov (.tmp 35), none, []⟩, ⟨some 36, .extract (.tmp 29) 0, none, []⟩, ⟨some 37, .extract (.tmp 29) 1, none, []⟩, ⟨some 10, .alloc 23, none, []⟩, ⟨none, .store 23 (.tmp 10) (.tmp 36), none, []⟩, ⟨some 11, .asg 0 (.tmp 37) 4, none, []⟩] false) (.region 8 [⟨some 38, .mov (.tmp 0), none, []⟩, ⟨some 39, .load 23 (.tmp 8), none, []⟩, ⟨some 40, .load 23 (.tmp 10), none, []⟩, ⟨some 41, .call 0 (.func 123) [(.tmp 38), (.tmp 39), (.tmp 40), (.const (.int .i64 1))], none, []⟩, ⟨none, .store 23 (.tmp 8) (.tmp 41), none, []⟩] false))) (.region 6 [⟨some 27, .mov (.tmp 9), none, []⟩, ⟨some 28, .bin .add 2 (.tmp 27) (.const (.int .i64 1)), none, []⟩, ⟨some 9, .asg 0 (.tmp 28) 2, none, []⟩] false)))))) (.seq (.region 9 [⟨some 42, .load 23 (.tmp 8), none, []⟩, ⟨none, .store 23 (.tmp 6) (.tmp 42), none, []⟩, ⟨some 7, .asg 0 (.const (.bool true)) 4, none, []⟩] false) .ret)))))
def spec_l08Sum_L : Live := [(0, [0, 1, 2]), (1, [0, 1, 2, 6]), (2, [0, 1, 2, 6, 8]), (3, [6, 8]), (4, [0, 1, 2, 6, 8]), (5, [0, 1, 2, 6, 8, 9]), (6, [0, 1, 2, 6, 8, 9]), (7, [0, 1, 2, 6, 8, 9]), (8, [0, 1, 2, 6, 8, 9, 10]), (9, [6, 8]), (100016, [0, 1, 2, 6, 8, 16]), (100026, [0, 1, 2, 6, 8, 9, 26])]
theorem spec_l08Sum_body : Try.f88.body = some (Try.f88.body.getD .skip) := by kernel_rfl
theorem spec_l08Sum_strip : strip [] (Try.f88.body.getD .skip) = spec_l08Sum_c := by kernel_rfl
noncomputable def spec_l08Sum_l1 (a0 : Int) (a1 : Int) (a2 : Int) (x69 : Int) (x70 : (Vec Int 64)) : Option ((Int × (Vec Int 64)) ⊕ (Vec Int 64)) :=
  (Option.bind (spec_l01Count a0 a1) fun r87 => (if (decide (x69 < (IntKind.i64.wrap (2 * r87)))) then (Option.bind (spec_l01Of a0 x69) fun r90 => (Option.bind (spec_l08Power a0 r90 a2) fun r92 => (Option.bind (spec_l01Add a0 x70 r92.1 1) fun r97 => (some (.inl ((IntKind.i64.wrap (x69 + 1), r97))))))) else (some (.inr x70))))
noncomputable def spec_l08Sum (a0 : Int) (a1 : Int) (a2 : Int) : Option ((Vec Int 64) × Bool) :=
  (if (decide ((IntKind.i64.wrap (a1 * a2)) > 63)) then (some (((vrep 64 (0 : Int)), false))) else (Option.bind (α := (Vec Int 64)) ((Option.bind (spec_l01Count a0 a1) fun r54 => (loopM (fun s : (Int × (Vec Int 64)) => spec_l08Sum_l1 a0 a1 a2 s.1 s.2) (r54, (vrep 64 (0 : Int)))))) fun x50 => (some (x50, true))))
set_option maxHeartbeats 16000000 in
theorem spec_l08Sum_ok (a0 : Int) (a1 : Int) (a2 : Int) (r : ((Vec Int 64) × Bool)) (h : spec_l08Sum a0 a1 a2 = some r) : Den Try.prog 88 [(.int .i64 a0), (.int .i64 a1), (.int .i64 a2)] { r := (.tuple [(eA64u8 r.1), (.bool r.2)]) } := by
  refine den_of (rs := [(eA64u8 r.1), (.bool r.2)]) (ac := spec_l08Sum_c) (L := spec_l08Sum_L) (n := 43) (m := []) good Try.func88 spec_l08Sum_body (by kernel_rfl) Try.ntmps88 rfl rfl spec_l08Sum_strip rfl rfl ?_
  refine a_st (σ' := ⟨[(0, (.int .i64 a0)), (1, (.int .i64 a1)), (2, (.int .i64 a2))], []⟩) rfl ?_
  unfold spec_l08Sum_c
  refine a_seq ?_
  refine a_region ?_
  refine a_val (v := (.own 1600 [] [])) (u := [(1600, some ⟨(eA64u8 ((vrep 64 (0 : Int)))), false⟩)]) rfl trivial rfl ?_
  refine a_val (v := (.bool false)) (u := []) rfl trivial rfl ?_
  refine a_nil ?_
  refine a_next (σ' := ⟨[(0, (.int .i64 a0)), (1, (.int .i64 a1)), (2, (.int .i64 a2)), (6, (.own 6 [] []))], [(6, some ⟨(eA64u8 ((vrep 64 (0 : Int)))), false⟩)]⟩) rfl ?_
  refine a_seq ?_
  refine a_region ?_
  refine a_val (v := (eA64u8 ((vrep 64 (0 : Int))))) (u := []) rfl ⟨⟨_, rfl, rfl⟩, all_nil⟩ rfl ?_
  refine a_val (v := (.own 1800 [] [])) (u := [(1800, some ⟨(eA64u8 ((vrep 64 (0 : Int)))), false⟩)]) rfl trivial rfl ?_
  have hs1 : StOk [] (eA64u8 ((vrep 64 (0 : Int)))) [] 64 (eA64u8 ((vrep 64 (0 : Int)))) (eA64u8 ((vrep 64 (0 : Int)))) := (.nil rfl rfl rfl rfl)
  refine a_val (v := .top) (u := [(1800, some ⟨(eA64u8 ((vrep 64 (0 : Int)))), false⟩)]) (st_own (i := ⟨.arr 64 5, 64, 64, (eA64u8 (vrep 64 (0 : Int)))⟩) rfl rfl (fun _ => rfl) rfl hs1) (hs1.c rfl) rfl ?_
  refine a_nil ?_
  refine a_next (σ' := ⟨[(0, (.int .i64 a0)), (1, (.int .i64 a1)), (2, (.int .i64 a2)), (6, (.own 6 [] [])), (8, (.own 8 [] []))], [(6, some ⟨(eA64u8 ((vrep 64 (0 : Int)))), false⟩), (8, some ⟨(eA64u8 ((vrep 64 (0 : Int)))), false⟩)]⟩) rfl ?_
  refine a_seq ?_
  refine a_seq ?_
  refine a_region ?_
  refine a_val (v := (.int .i64 a1)) (u := []) rfl trivial rfl ?_
  refine a_val (v := (.int .i64 a2)) (u := []) rfl trivial rfl ?_
  refine a_val (v := (.int .i64 (IntKind.i64.wrap (a1 * a2)))) (u := []) rfl trivial rfl ?_
  refine a_val (v := (.bool ((decide ((IntKind.i64.wrap (a1 * a2)) > 63))))) (u := []) rfl trivial rfl ?_
  refine a_nil ?_
  refine a_next (σ' := ⟨[(0, (.int .i64 a0)), (1, (.int .i64 a1)), (2, (.int .i64 a2)), (6, (.own 6 [] [])), (8, (.own 8 [] [])), (16, (.bool ((decide ((IntKind.i64.wrap (a1 * a2)) > 63)))))], [(6, some ⟨(eA64u8 ((vrep 64 (0 : Int)))), false⟩), (8, some ⟨(eA64u8 ((vrep 64 (0 : Int)))), false⟩)]⟩) rfl ?_
  cases hb2 : (decide ((IntKind.i64.wrap (a1 * a2)) > 63))
  · have h := ite_f hb2 h
    refine a_cond_f rfl ?_
    refine a_skip ?_
    refine a_next (σ' := ⟨[(0, (.int .i64 a0)), (1, (.int .i64 a1)), (2, (.int .i64 a2)), (6, (.own 6 [] [])), (8, (.own 8 [] []))], [(6, some ⟨(eA64u8 ((vrep 64 (0 : Int)))), false⟩), (8, some ⟨(eA64u8 ((vrep 64 (0 : Int)))), false⟩)]⟩) rfl ?_
    obtain ⟨y51, hy52, hk53⟩ := bind_some h
    clear h
    refine a_join (emb := fun (s : (Vec Int 64)) => ⟨[(6, (.own 6 [] [])), (8, (.own 8 [] []))], [(6, some ⟨(eA64u8 ((vrep 64 (0 : Int)))), false⟩), (8, some ⟨(eA64u8 s), false⟩)]⟩) (pre := fun s => s = y51) ?_ ?_
    · rintro x50 rfl
      have h := hk53
      refine a_st (σ' := ⟨[(6, (.own 6 [] [])), (8, (.own 8 [] []))], [(6, some ⟨(eA64u8 ((vrep 64 (0 : Int)))), false⟩), (8, some ⟨(eA64u8 x50), false⟩)]⟩) rfl ?_
      refine a_seq ?_
      refine a_region ?_
      have hl101 : LdOk [] (eA64u8 x50) [] 64 true (eA64u8 x50) := (.nil rfl rfl rfl)
      refine a_val (v := (eA64u8 x50)) (u := []) (ld_own (i := ⟨.arr 64 5, 64, 64, (eA64u8 (vrep 64 (0 : Int)))⟩) rfl rfl rfl hl101) hl101.c rfl ?_
      have hs102 : StOk [] (eA64u8 ((vrep 64 (0 : Int)))) [] 64 (eA64u8 x50) (eA64u8 x50) := (.nil rfl rfl rfl rfl)
      refine a_val (v := .top) (u := [(6, some ⟨(eA64u8 x50), false⟩)]) (st_own (i := ⟨.arr 64 5, 64, 64, (eA64u8 (vrep 64 (0 : Int)))⟩) rfl rfl (fun _ => rfl) rfl hs102) (hs102.c rfl) rfl ?_
      refine a_val (v := (.bool true)) (u := []) rfl trivial rfl ?_
      refine a_nil ?_
      refine a_next rfl ?_
      refine a_ret ?_
      have hl103 : LdOk [] (eA64u8 x50) [] 64 true (eA64u8 x50) := (.nil rfl rfl rfl)
      refine ⟨.inr rfl, ?_⟩
      rw [Try.results88]
      cases h
      exact ⟨_, _, _, _, _, ld_own (i := ⟨.arr 64 5, 64, 64, (eA64u8 (vrep 64 (0 : Int)))⟩) rfl rfl rfl hl103, hl103.c, .inl ⟨rfl, .inl rfl⟩, rfl, ⟨_, _, _, _, _, rfl, trivial, .inl ⟨rfl, .inl rfl⟩, rfl, rfl⟩⟩
    · have h := hy52
      refine a_seq ?_
      refine a_region ?_
      refine a_val (v := (.int .i64 a0)) (u := []) rfl trivial rfl ?_
      refine a_val (v := (.int .i64 a1)) (u := []) rfl trivial rfl ?_
      obtain ⟨r54, hr55, h⟩ := bind_some h
      refine a_call (args := [(.int .i64 a0), (.int .i64 a1)]) (u := []) (r := (.int .i64 r54)) rfl rfl (spec_l01Count_ok a0 a1 r54 hr55) rfl ?_
      refine a_val (v := (.int .i64 r54)) (u := []) rfl trivial rfl ?_
      refine a_nil ?_
      refine a_next (σ' := ⟨[(0, (.int .i64 a0)), (1, (.int .i64 a1)), (2, (.int .i64 a2)), (6, (.own 6 [] [])), (8, (.own 8 [] [])), (9, (.int .i64 r54))], [(6, some ⟨(eA64u8 ((vrep 64 (0 : Int)))), false⟩), (8, some ⟨(eA64u8 ((vrep 64 (0 : Int)))), false⟩)]⟩) rfl ?_
      refine a_block ?_
      refine a_loop (emb := fun (s : (Int × (Vec Int 64))) => ⟨[(0, (.int .i64 a0)), (1, (.int .i64 a1)), (2, (.int .i64 a2)), (6, (.own 6 [] [])), (8, (.own 8 [] [])), (9, (.int .i64 s.1))], [(6, some ⟨(eA64u8 ((vrep 64 (0 : Int)))), false⟩), (8, some ⟨(eA64u8 s.2), false⟩)]⟩) (body := (fun s : (Int × (Vec Int 64)) => spec_l08Sum_l1 a0 a1 a2 s.1 s.2)) (G := fun q => some q = some y51) h rfl ?_ rfl
      rintro X84 ⟨x69, x70⟩ x85 h hX86
      have h : spec_l08Sum_l1 a0 a1 a2 x69 x70 = some x85 := h
      refine a_st (σ' := ⟨[(0, (.int .i64 a0)), (1, (.int .i64 a1)), (2, (.int .i64 a2)), (6, (.own 6 [] [])), (8, (.own 8 [] [])), (9, (.int .i64 x69))], [(6, some ⟨(eA64u8 ((vrep 64 (0 : Int)))), false⟩), (8, some ⟨(eA64u8 x70), false⟩)]⟩) rfl ?_
      refine a_seq ?_
      refine a_seq ?_
      refine a_region ?_
      refine a_val (v := (.int .i64 x69)) (u := []) rfl trivial rfl ?_
      refine a_val (v := (.int .i64 a0)) (u := []) rfl trivial rfl ?_
      refine a_val (v := (.int .i64 a1)) (u := []) rfl trivial rfl ?_
      obtain ⟨r87, hr88, h⟩ := bind_some h
      refine a_call (args := [(.int .i64 a0), (.int .i64 a1)]) (u := []) (r := (.int .i64 r87)) rfl rfl (spec_l01Count_ok a0 a1 r87 hr88) rfl ?_
      refine a_val (v := (.int .i64 (IntKind.i64.wrap (2 * r87)))) (u := []) rfl trivial rfl ?_
      refine a_val (v := (.bool ((decide (x69 < (IntKind.i64.wrap (2 * r87))))))) (u := []) rfl trivial rfl ?_
      refine a_nil ?_
      refine a_next (σ' := ⟨[(0, (.int .i64 a0)), (1, (.int .i64 a1)), (2, (.int .i64 a2)), (6, (.own 6 [] [])), (8, (.own 8 [] [])), (9, (.int .i64 x69)), (26, (.bool ((decide (x69 < (IntKind.i64.wrap (2 * r87)))))))], [(6, some ⟨(eA64u8 ((vrep 64 (0 : Int)))), false⟩), (8, some ⟨(eA64u8 x70), false⟩)]⟩) rfl ?_
      cases hb89 : (decide (x69 < (IntKind.i64.wrap (2 * r87))))
      · have h := ite_f hb89 h
        refine a_cond_f rfl ?_
        refine a_exit ?_
        refine t_exit ?_
        cases h
        have h := hX86
        refine t_exit ?_
        refine b_exit ?_
        exact j_leaf x70 (Option.some.inj h) rfl
      · have h := ite_t hb89 h
        refine a_cond_t rfl ?_
        refine a_skip ?_
        refine a_next (σ' := ⟨[(0, (.int .i64 a0)), (1, (.int .i64 a1)), (2, (.int .i64 a2)), (6, (.own 6 [] [])), (8, (.own 8 [] [])), (9, (.int .i64 x69))], [(6, some ⟨(eA64u8 ((vrep 64 (0 : Int)))), false⟩), (8, some ⟨(eA64u8 x70), false⟩)]⟩) rfl ?_
        refine a_seq ?_
        refine a_block ?_
        refine a_seq ?_
        refine a_region ?_
        refine a_val (v := (.int .i64 a0)) (u := []) rfl trivial rfl ?_
        refine a_val (v := (.int .i64 a0)) (u := []) rfl trivial rfl ?_
        refine a_val (v := (.int .i64 x69)) (u := []) rfl trivial rfl ?_
        obtain ⟨r90, hr91, h⟩ := bind_some h
        refine a_call (args := [(.int .i64 a0), (.int .i64 x69)]) (u := []) (r := (eA64u8 r90)) rfl rfl (spec_l01Of_ok a0 x69 r90 hr91) rfl ?_
        refine a_val (v := (.int .i64 a2)) (u := []) rfl trivial rfl ?_
        obtain ⟨r92, hr93, h⟩ := bind_some h
        refine a_call (args := [(.int .i64 a0), (eA64u8 r90), (.int .i64 a2)]) (u := []) (r := (.tuple [(eA64u8 r92.1), (.bool r92.2)])) rfl rfl (spec_l08Power_ok a0 r90 a2 r92 hr93) rfl ?_
        refine a_val (v := (.tuple [(eA64u8 r92.1), (.bool r92.2)])) (u := []) rfl trivial rfl ?_
        refine a_val (v := (eA64u8 r92.1)) (u := []) rfl (Nat.le_of_ble_eq_true rfl) rfl ?_
        refine a_val (v := (.bool r92.2)) (u := []) rfl (Nat.le_of_ble_eq_true rfl) rfl ?_
        refine a_val (v := (.own 2000 [] [])) (u := [(2000, some ⟨(eA64u8 ((vrep 64 (0 : Int)))), false⟩)]) rfl trivial rfl ?_
        have hs94 : StOk [] (eA64u8 ((vrep 64 (0 : Int)))) [] 64 (eA64u8 r92.1) (eA64u8 r92.1) := (.nil rfl rfl rfl rfl)
        refine a_val (v := .top) (u := [(2000, some ⟨(eA64u8 r92.1), false⟩)]) (st_own (i := ⟨.arr 64 5, 64, 64, (eA64u8 (vrep 64 (0 : Int)))⟩) rfl rfl (fun _ => rfl) rfl hs94) (hs94.c rfl) rfl ?_
        refine a_val (v := (.bool r92.2)) (u := []) rfl trivial rfl ?_
        refine a_nil ?_
        refine a_next (σ' := ⟨[(0, (.int .i64 a0)), (1, (.int .i64 a1)), (2, (.int .i64 a2)), (6, (.own 6 [] [])), (8, (.own 8 [] [])), (9, (.int .i64 x69)), (10, (.own 10 [] []))], [(6, some ⟨(eA64u8 ((vrep 64 (0 : Int)))), false⟩), (8, some ⟨(eA64u8 x70), false⟩), (10, some ⟨(eA64u8 r92.1), false⟩)]⟩) rfl ?_
        refine a_region ?_
        refine a_val (v := (.int .i64 a0)) (u := []) rfl trivial rfl ?_
        have hl95 : LdOk [] (eA64u8 x70) [] 64 true (eA64u8 x70) := (.nil rfl rfl rfl)
        refine a_val (v := (eA64u8 x70)) (u := []) (ld_own (i := ⟨.arr 64 5, 64, 64, (eA64u8 (vrep 64 (0 : Int)))⟩) rfl rfl rfl hl95) hl95.c rfl ?_
        have hl96 : LdOk [] (eA64u8 r92.1) [] 64 true (eA64u8 r92.1) := (.nil rfl rfl rfl)
        refine a_val (v := (eA64u8 r92.1)) (u := []) (ld_own (i := ⟨.arr 64 5, 64, 64, (eA64u8 (vrep 64 (0 : Int)))⟩) rfl rfl rfl hl96) hl96.c rfl ?_
        obtain ⟨r97, hr98, h⟩ := bind_some h
        refine a_call (args := [(.int .i64 a0), (eA64u8 x70), (eA64u8 r92.1), (.int .i64 1)]) (u := []) (r := (eA64u8 r97)) rfl rfl (spec_l01Add_ok a0 x70 r92.1 1 r97 hr98) rfl ?_
        have hs99 : StOk [] (eA64u8 x70) [] 64 (eA64u8 r97) (eA64u8 r97) := (.nil rfl rfl rfl rfl)
        refine a_val (v := .top) (u := [(8, some ⟨(eA64u8 r97), false⟩)]) (st_own (i := ⟨.arr 64 5, 64, 64, (eA64u8 (vrep 64 (0 : Int)))⟩) rfl rfl (fun _ => rfl) rfl hs99) (hs99.c rfl) rfl ?_
        refine a_nil ?_
        refine b_norm ?_
        refine a_next (σ' := ⟨[(0, (.int .i64 a0)), (1, (.int .i64 a1)), (2, (.int .i64 a2)), (6, (.own 6 [] [])), (8, (.own 8 [] [])), (9, (.int .i64 x69))], [(6, some ⟨(eA64u8 ((vrep 64 (0 : Int)))), false⟩), (8, some ⟨(eA64u8 r97), false⟩)]⟩) rfl ?_
        refine a_region ?_
        refine a_val (v := (.int .i64 x69)) (u := []) rfl trivial rfl ?_
        refine a_val (v := (.int .i64 (IntKind.i64.wrap (x69 + 1)))) (u := []) rfl trivial rfl ?_
        refine a_val (v := (.int .i64 (IntKind.i64.wrap (x69 + 1)))) (u := []) rfl trivial rfl ?_
        refine a_nil ?_
        cases h
        exact a_again rfl hX86
  · have h := ite_t hb2 h
    refine a_cond_t rfl ?_
    refine a_seq ?_
    refine a_region ?_
    have hl104 : LdOk [] (eA64u8 ((vrep 64 (0 : Int)))) [] 64 true (eA64u8 ((vrep 64 (0 : Int)))) := (.nil rfl rfl rfl)
    refine a_val (v := (eA64u8 ((vrep 64 (0 : Int))))) (u := []) (ld_own (i := ⟨.arr 64 5, 64, 64, (eA64u8 (vrep 64 (0 : Int)))⟩) rfl rfl rfl hl104) hl104.c rfl ?_
    have hs105 : StOk [] (eA64u8 ((vrep 64 (0 : Int)))) [] 64 (eA64u8 ((vrep 64 (0 : Int)))) (eA64u8 ((vrep 64 (0 : Int)))) := (.nil rfl rfl rfl rfl)
    refine a_val (v := .top) (u := [(6, some ⟨(eA64u8 ((vrep 64 (0 : Int)))), false⟩)]) (st_own (i := ⟨.arr 64 5, 64, 64, (eA64u8 (vrep 64 (0 : Int)))⟩) rfl rfl (fun _ => rfl) rfl hs105) (hs105.c rfl) rfl ?_
    refine a_val (v := (.bool false)) (u := []) rfl trivial rfl ?_
    refine a_nil ?_
    refine a_next rfl ?_
    refine a_ret ?_
    refine t_ret ?_
    have hl106 : LdOk [] (eA64u8 ((vrep 64 (0 : Int)))) [] 64 true (eA64u8 ((vrep 64 (0 : Int)))) := (.nil rfl rfl rfl)
    refine ⟨.inr rfl, ?_⟩
    rw [Try.results88]
    cases h
    exact ⟨_, _, _, _, _, ld_own (i := ⟨.arr 64 5, 64, 64, (eA64u8 (vrep 64 (0 : Int)))⟩) rfl rfl rfl hl106, hl106.c, .inl ⟨rfl, .inl rfl⟩, rfl, ⟨_, _, _, _, _, rfl, trivial, .inl ⟨rfl, .inl rfl⟩, rfl, rfl⟩⟩
def impl_rowOf_c : ACode := (.seq (.region 0 [⟨some 1, .box 23 (.tmp 0), none, []⟩, ⟨some 2, .asg 1 (.const (.slice none 0 0)) 66, none, []⟩] false) (.seq (.region 1 [⟨some 3, .asg 2 (.const (.slice none 0 0)) 66, none, []⟩] false) (.seq (.seq (.region 2 [⟨some 6, .load 23 (.tmp 1), none, []⟩, ⟨some 7, .mov (.const (.int .i64 0)), none, []⟩] false) (.block 0 (.loop (.seq (.region 3 [⟨some 8, .bin .lss 3 (.tmp 7) (.const (.int .i64 64)), none, []⟩] false) (.seq (.cond (.tmp 8) .skip (.exit 0)) (.seq (.block 1 (.seq (.region 4 [⟨some 9, .index 23 (.tmp 6) (.tmp 7), none, []⟩, ⟨some 5, .asg 0 (.tmp 9) 5, none, []⟩] false) (.region 5 [⟨some 10, .mov (.tmp 3), none, []⟩, ⟨some 11, .mov (.tmp 5), none, []⟩, ⟨some 12, .conv 5 2 (.tmp 11), none, []⟩, ⟨some 13, .bslice 0 66 1 [(0, (.tmp 12))], none, []⟩, ⟨some 14, .blt 0 .append [(.tmp 10), (.tmp 13)] [66, 66], none, []⟩, ⟨some 3, .asg 2 (.tmp 14) 66, none, []⟩] false))) (.region 6 [⟨some 15, .bin .add 3 (.tmp 7) (.const (.int .i64 1)), none, []⟩, ⟨some 7, .mov (.tmp 15), none, []⟩] false))))))) (.seq (.region 7 [⟨some 16, .mov (.tmp 3), none, []⟩, ⟨some 17, .call 0 (.func 111) [(.tmp 16)], none, []⟩, ⟨some 2, .asg 1 (.tmp 17) 66, none, []⟩] false) .ret))))
def impl_rowOf_L : Live := [(0, [0]), (1, [1]), (2, [1, 3]), (3, [3, 6, 7]), (4, [3, 6, 7]), (5, [3, 5, 6, 7]), (6, [3, 6, 7]), (7, [3]), (100008, [3, 6, 7, 8])]
theorem impl_rowOf_body : Try.f76.body = some (Try.f76.body.getD .skip) := by kernel_rfl
theorem impl_rowOf_strip : strip [(2, 1), (3, 2)] (Try.f76.body.getD .skip) = impl_rowOf_c := by kernel_rfl
noncomputable def impl_rowOf_l1 (a0 : (Vec Int 64)) (x25 : Int) (x26 : (List Int)) : Option ((Int × (List Int)) ⊕ (List Int)) :=
  (if (decide (x25 < 64)) then (ifp (0 ≤ x25 ∧ x25 < ((64 : Nat) : Int)) ((ifp ((x26.length + ([IntKind.i64.wrap (rd a0.1 x25.toNat)] : List Int).length) * 8 ≤ 140737488355328) ((some (.inl ((IntKind.i64.wrap (x25 + 1), (x26 ++ ([IntKind.i64.wrap (rd a0.1 x25.toNat)])))))))))) else (some (.inr x26)))
noncomputable def impl_rowOf (a0 : (Vec Int 64)) : Option (List Int) :=
  (Option.bind (α := (List Int)) ((loopM (fun s : (Int × (List Int)) => impl_rowOf_l1 a0 s.1 s.2) (0, []))) fun x17 => (Option.bind (impl_row_trimmed x17) fun r37 => (some r37)))
set_option maxHeartbeats 16000000 in
theorem impl_rowOf_ok (a0 : (Vec Int 64)) (r : (List Int)) (h : impl_rowOf a0 = some r) : Den Try.prog 76 [(eA64u8 a0)] { r := (eSi64 r) } := by
  refine den_of (rs := [(eSi64 r)]) (ac := impl_rowOf_c) (L := impl_rowOf_L) (n := 18) (m := [(2, 1), (3, 2)]) good Try.func76 impl_rowOf_body (by kernel_rfl) Try.ntmps76 rfl rfl impl_rowOf_strip rfl rfl ?_
  refine a_st (σ' := ⟨[(0, (eA64u8 a0))], []⟩) rfl ?_
  unfold impl_rowOf_c
  refine a_seq ?_
  refine a_region ?_
  refine a_val (v := (.own 1100 [] [])) (u := [(1100, some ⟨(eA64u8 a0), false⟩)]) rfl trivial rfl ?_
  refine a_val (v := (eSi64 ([]))) (u := []) rfl trivial rfl ?_
  refine a_nil ?_
  refine a_next (σ' := ⟨[(1, (.own 1 [] []))], [(1, some ⟨(eA64u8 a0), false⟩)]⟩) rfl ?_
  refine a_seq ?_
  refine a_region ?_
  refine a_val (v := (.osl 1300)) (u := [(1300, some ⟨(.row 1 (([]).map (AV.int .i64))), false⟩)]) rfl trivial rfl ?_
  refine a_nil ?_
  refine a_next (σ' := ⟨[(1, (.own 1 [] [])), (3, (.osl 3))], [(1, some ⟨(eA64u8 a0), false⟩), (3, some ⟨(.row 1 (([]).map (AV.int .i64))), false⟩)]⟩) rfl ?_
  obtain ⟨y18, hy19, hk20⟩ := bind_some h
  clear h
  refine a_join (emb := fun (s : (List Int)) => ⟨[(3, (.osl 3))], [(3, some ⟨(.row 1 (s.map (AV.int .i64))), false⟩)]⟩) (pre := fun s => s = y18) ?_ ?_
  · rintro x17 rfl
    have h := hk20
    refine a_st (σ' := ⟨[(3, (.osl 3))], [(3, some ⟨(.row 1 (x17.map (AV.int .i64))), false⟩)]⟩) rfl ?_
    refine a_seq ?_
    refine a_region ?_
    refine a_val (v := (.osl 3)) (u := []) rfl trivial rfl ?_
    obtain ⟨r37, hr38, h⟩ := bind_some h
    refine a_call (args := [(eSi64 x17)]) (u := [(3, some ⟨(.row 1 (x17.map (AV.int .i64))), true⟩)]) (r := (eSi64 r37)) rfl rfl (impl_row_trimmed_ok x17 r37 hr38) rfl ?_
    refine a_val (v := (eSi64 r37)) (u := []) rfl trivial rfl ?_
    refine a_nil ?_
    refine a_next rfl ?_
    refine a_ret ?_
    refine ⟨.inr rfl, ?_⟩
    rw [Try.results76]
    cases h
    exact ⟨_, _, _, _, _, rfl, trivial, .inl ⟨rfl, .inl rfl⟩, rfl, rfl⟩
  · have h := hy19
    refine a_seq ?_
    refine a_region ?_
    have hl21 : LdOk [] (eA64u8 a0) [] 64 true (eA64u8 a0) := (.nil rfl rfl rfl)
    refine a_val (v := (eA64u8 a0)) (u := []) (ld_own (i := ⟨.arr 64 5, 64, 64, (eA64u8 (vrep 64 (0 : Int)))⟩) rfl rfl rfl hl21) hl21.c rfl ?_
    refine a_val (v := (.int .i64 0)) (u := []) rfl trivial rfl ?_
    refine a_nil ?_
    refine a_next (σ' := ⟨[(3, (.osl 3)), (6, (eA64u8 a0)), (7, (.int .i64 0))], [(3, some ⟨(.row 1 (([]).map (AV.int .i64))), false⟩)]⟩) rfl ?_
    refine a_block ?_
    refine a_loop (emb := fun (s : (Int × (List Int))) => ⟨[(3, (.osl 3)), (6, (eA64u8 a0)), (7, (.int .i64 s.1))], [(3, some ⟨(.row 1 (s.2.map (AV.int .i64))), false⟩)]⟩) (body := (fun s : (Int × (List Int)) => impl_rowOf_l1 a0 s.1 s.2)) (G := fun q => some q = some y18) h rfl ?_ rfl
    rintro X30 ⟨x25, x26⟩ x31 h hX32
    have h : impl_rowOf_l1 a0 x25 x26 = some x31 := h
    refine a_st (σ' := ⟨[(3, (.osl 3)), (6, (eA64u8 a0)), (7, (.int .i64 x25))], [(3, some ⟨(.row 1 (x26.map (AV.int .i64))), false⟩)]⟩) rfl ?_
    refine a_seq ?_
    refine a_region ?_
    refine a_val (v := (.bool ((decide (x25 < 64))))) (u := []) rfl trivial rfl ?_
    refine a_nil ?_
    refine a_next (σ' := ⟨[(3, (.osl 3)), (6, (eA64u8 a0)), (7, (.int .i64 x25)), (8, (.bool ((decide (x25 < 64)))))], [(3, some ⟨(.row 1 (x26.map (AV.int .i64))), false⟩)]⟩) rfl ?_
    refine a_seq ?_
    cases hb33 : (decide (x25 < 64))
    · have h := ite_f hb33 h
      refine a_cond_f rfl ?_
      refine a_exit ?_
      refine t_exit ?_
      cases h
      have h := hX32
      refine t_exit ?_
      refine b_exit ?_
      exact j_leaf x26 (Option.some.inj h) rfl
    · have h := ite_t hb33 h
      refine a_cond_t rfl ?_
      refine a_skip ?_
      refine a_next (σ' := ⟨[(3, (.osl 3)), (6, (eA64u8 a0)), (7, (.int .i64 x25))], [(3, some ⟨(.row 1 (x26.map (AV.int .i64))), false⟩)]⟩) rfl ?_
      refine a_seq ?_
      refine a_block ?_
      refine a_seq ?_
      refine a_region ?_
      obtain ⟨hc34, h⟩ := ifp_some h
      refine a_val (v := (.int .u8 (rd a0.1 x25.toNat))) (u := []) (ix_run (i := ⟨.int .u8, 1, 1, (.int .u8 0)⟩) (f := (AV.int .u8)) rfl rfl rfl rfl (vlt a0 hc34)) ⟨hc34.1, hc34.2, rfl, rfl, rfl, rfl⟩ rfl ?_
      refine a_val (v := (.int .u8 (rd a0.1 x25.toNat))) (u := []) rfl trivial rfl ?_
      refine a_nil ?_
      refine a_next (σ' := ⟨[(3, (.osl 3)), (5, (.int .u8 (rd a0.1 x25.toNat))), (6, (eA64u8 a0)), (7, (.int .i64 x25))], [(3, some ⟨(.row 1 (x26.map (AV.int .i64))), false⟩)]⟩) rfl ?_
      refine a_region ?_
      refine a_val (v := (.osl 3)) (u := []) rfl trivial rfl ?_
      refine a_val (v := (.int .u8 (rd a0.1 x25.toNat))) (u := []) rfl trivial rfl ?_
      refine a_val (v := (.int .i64 (IntKind.i64.wrap (rd a0.1 x25.toNat)))) (u := []) rfl trivial rfl ?_
      refine a_val (v := (.sl 1 true (([IntKind.i64.wrap (rd a0.1 x25.toNat)]).map (AV.int .i64)))) (u := []) rfl ⟨(Nat.le_of_ble_eq_true rfl), (Nat.le_of_ble_eq_true rfl), (all_cons ⟨(Nat.le_of_ble_eq_true rfl), rfl⟩ all_nil)⟩ rfl ?_
      obtain ⟨hc35, h⟩ := ifp_some h
      refine a_val (v := (.osl 2400)) (u := [(2400, some ⟨(.row 1 (((x26 ++ ([IntKind.i64.wrap (rd a0.1 x25.toNat)]))).map (AV.int .i64))), false⟩), (3, none)]) (app_run (i := ⟨.int .i64, 1, 8, (.int .i64 0)⟩) (f := (AV.int .i64)) (l := x26) (l2 := [IntKind.i64.wrap (rd a0.1 x25.toNat)]) rfl rfl rfl rfl (fun _ => rfl) rfl rfl) (app_c (f := (AV.int .i64)) (s := 1) (sz := 1) (by' := 8) (u := []) (id := 3) hc35 (.inr rfl) rfl rfl rfl) rfl ?_
      refine a_val (v := (.osl 2400)) (u := []) rfl trivial rfl ?_
      refine a_nil ?_
      refine b_norm ?_
      refine a_next (σ' := ⟨[(3, (.osl 3)), (6, (eA64u8 a0)), (7, (.int .i64 x25))], [(3, some ⟨(.row 1 (((x26 ++ ([IntKind.i64.wrap (rd a0.1 x25.toNat)]))).map (AV.int .i64))), false⟩)]⟩) rfl ?_
      refine a_region ?_
      refine a_val (v := (.int .i64 (IntKind.i64.wrap (x25 + 1)))) (u := []) rfl trivial rfl ?_
      refine a_val (v := (.int .i64 (IntKind.i64.wrap (x25 + 1)))) (u := []) rfl trivial rfl ?_
      refine a_nil ?_
      cases h
      exact a_again rfl hX32
def impl_row_degree_c : ACode := (.seq (.region 0 [⟨some 2, .asg 0 (.const (.int .i64 0)) 2, none, []⟩] false) (.seq (.region 1 [⟨some 3, .mov (.tmp 0), none, []⟩, ⟨some 4, .blt 0 .len [(.tmp 3)] [66], none, []⟩, ⟨some 5, .bin .sub 2 (.tmp 4) (.const (.int .i64 1)), none, []⟩, ⟨some 2, .asg 0 (.tmp 5) 2, none, []⟩] false) .ret))
def impl_row_degree_L : Live := [(0, [0]), (1, [0])]
theorem impl_row_degree_body : Try.f100.body = some (Try.f100.body.getD .skip) := by kernel_rfl
theorem impl_row_degree_strip : strip [] (Try.f100.body.getD .skip) = impl_row_degree_c := by kernel_rfl
noncomputable def impl_row_degree (a0 : (List Int)) : Option Int :=
  (some (IntKind.i64.wrap ((a0.length : Int) - 1)))
set_option maxHeartbeats 16000000 in
theorem impl_row_degree_ok (a0 : (List Int)) (r : Int) (h : impl_row_degree a0 = some r) : Den Try.prog 100 [(eSi64 a0)] { r := (.int .i64 r) } := by
  refine den_of (rs := [(.int .i64 r)]) (ac := impl_row_degree_c) (L := impl_row_degree_L) (n := 6) (m := []) good Try.func100 impl_row_degree_body (by kernel_rfl) Try.ntmps100 rfl rfl impl_row_degree_strip rfl rfl ?_
  refine a_st (σ' := ⟨[(0, (eSi64 a0))], []⟩) rfl ?_
  unfold impl_row_degree_c
  refine a_seq ?_
  refine a_region ?_
  refine a_val (v := (.int .i64 0)) (u := []) rfl trivial rfl ?_
  refine a_nil ?_
  refine a_next (σ' := ⟨[(0, (eSi64 a0))], []⟩) rfl ?_
  refine a_seq ?_
  refine a_region ?_
  refine a_val (v := (eSi64 a0)) (u := []) rfl trivial rfl ?_
  refine a_val (v := (.int .i64 (a0.length : Int))) (u := []) (len_run rfl rfl) trivial rfl ?_
  refine a_val (v := (.int .i64 (IntKind.i64.wrap ((a0.length : Int) - 1)))) (u := []) rfl trivial rfl ?_
  refine a_val (v := (.int .i64 (IntKind.i64.wrap ((a0.length : Int) - 1)))) (u := []) rfl trivial rfl ?_
  refine a_nil ?_
  refine a_next rfl ?_
  refine a_ret ?_
  refine ⟨.inr rfl, ?_⟩
  rw [Try.results100]
  cases h
  exact ⟨_, _, _, _, _, rfl, trivial, .inl ⟨rfl, .inl rfl⟩, rfl, rfl⟩
def impl_row_fits_c : ACode := (.seq (.region 0 [⟨some 2, .asg 0 (.const (.bool false)) 4, none, []⟩] false) (.seq (.region 1 [⟨some 3, .mov (.tmp 0), none, []⟩, ⟨some 4, .call 0 (.func 100) [(.tmp 3)], none, []⟩, ⟨some 5, .bin .leq 2 (.tmp 4) (.const (.int .i64 63)), none, []⟩, ⟨some 2, .asg 0 (.tmp 5) 4, none, []⟩] false) .ret))
def impl_row_fits_L : Live := [(0, [0]), (1, [0])]
theorem impl_row_fits_body : Try.f103.body = some (Try.f103.body.getD .skip) := by kernel_rfl
theorem impl_row_fits_strip : strip [] (Try.f103.body.getD .skip) = impl_row_fits_c := by kernel_rfl
noncomputable def impl_row_fits (a0 : (List Int)) : Option Bool :=
  (Option.bind (impl_row_degree a0) fun r1 => (some ((decide (r1 ≤ 63)))))
set_option maxHeartbeats 16000000 in
theorem impl_row_fits_ok (a0 : (List Int)) (r : Bool) (h : impl_row_fits a0 = some r) : Den Try.prog 103 [(eSi64 a0)] { r := (.bool r) } := by
  refine den_of (rs := [(.bool r)]) (ac := impl_row_fits_c) (L := impl_row_fits_L) (n := 6) (m := []) good Try.func103 impl_row_fits_body (by kernel_rfl) Try.ntmps103 rfl rfl impl_row_fits_strip rfl rfl ?_
  refine a_st (σ' := ⟨[(0, (eSi64 a0))], []⟩) rfl ?_
  unfold impl_row_fits_c
  refine a_seq ?_
  refine a_region ?_
  refine a_val (v := (.bool false)) (u := []) rfl trivial rfl ?_
  refine a_nil ?_
  refine a_next (σ' := ⟨[(0, (eSi64 a0))], []⟩) rfl ?_
  refine a_seq ?_
  refine a_region ?_
  refine a_val (v := (eSi64 a0)) (u := []) rfl trivial rfl ?_
  obtain ⟨r1, hr2, h⟩ := bind_some h
  refine a_call (args := [(eSi64 a0)]) (u := []) (r := (.int .i64 r1)) rfl rfl (impl_row_degree_ok a0 r1 hr2) rfl ?_
  refine a_val (v := (.bool ((decide (r1 ≤ 63))))) (u := []) rfl trivial rfl ?_
  refine a_val (v := (.bool ((decide (r1 ≤ 63))))) (u := []) rfl trivial rfl ?_
  refine a_nil ?_
  refine a_next rfl ?_
  refine a_ret ?_
  refine ⟨.inr rfl, ?_⟩
  rw [Try.results103]
  cases h
  exact ⟨_, _, _, _, _, rfl, trivial, .inl ⟨rfl, .inl rfl⟩, rfl, rfl⟩
def impl_told_c : ACode := (.seq (.region 0 [⟨some 2, .alloc 23, none, []⟩, ⟨some 3, .asg 0 (.const (.int .i64 0)) 2, none, []⟩] false) (.seq (.seq (.region 1 [⟨some 4, .mov (.tmp 0), none, []⟩, ⟨some 5, .call 0 (.func 103) [(.tmp 4)], none, []⟩, ⟨some 6, .un .not (.tmp 5), none, []⟩] false) (.cond (.tmp 6) (.seq (.region 2 [⟨some 7, .build 23 [], none, []⟩, ⟨none, .store 23 (.tmp 2) (.tmp 7), none, []⟩, ⟨some 3, .asg 0 (.const (.int .i64 3)) 2, none, []⟩] false) .ret) .skip)) (.seq (.region 3 [⟨some 8, .mov (.tmp 0), none, []⟩, ⟨some 9, .call 0 (.func 51) [(.tmp 8)], none, []⟩, ⟨none, .store 23 (.tmp 2) (.tmp 9), none, []⟩, ⟨some 3, .asg 0 (.const (.int .i64 0)) 2, none, []⟩] false) .ret)))
def impl_told_L : Live := [(0, [0]), (1, [0, 2]), (2, [2]), (3, [0, 2]), (100006, [0, 2, 6])]
theorem impl_told_body : Try.f61.body = some (Try.f61.body.getD .skip) := by kernel_rfl
theorem impl_told_strip : strip [] (Try.f61.body.getD .skip) = impl_told_c := by kernel_rfl
noncomputable def impl_told (a0 : (List Int)) : Option ((Vec Int 64) × Int) :=
  (Option.bind (impl_row_fits a0) fun r1 => (if (!r1) then (some (((vrep 64 (0 : Int)), 3))) else (Option.bind (impl_row_poly a0) fun r4 => (some (r4, 0)))))
set_option maxHeartbeats 16000000 in
theorem impl_told_ok (a0 : (List Int)) (r : ((Vec Int 64) × Int)) (h : impl_told a0 = some r) : Den Try.prog 61 [(eSi64 a0)] { r := (.tuple [(eA64u8 r.1), (.int .i64 r.2)]) } := by
  refine den_of (rs := [(eA64u8 r.1), (.int .i64 r.2)]) (ac := impl_told_c) (L := impl_told_L) (n := 10) (m := []) good Try.func61 impl_told_body (by kernel_rfl) Try.ntmps61 rfl rfl impl_told_strip rfl rfl ?_
  refine a_st (σ' := ⟨[(0, (eSi64 a0))], []⟩) rfl ?_
  unfold impl_told_c
  refine a_seq ?_
  refine a_region ?_
  refine a_val (v := (.own 1200 [] [])) (u := [(1200, some ⟨(eA64u8 ((vrep 64 (0 : Int)))), false⟩)]) rfl trivial rfl ?_
  refine a_val (v := (.int .i64 0)) (u := []) rfl trivial rfl ?_
  refine a_nil ?_
  refine a_next (σ' := ⟨[(0, (eSi64 a0)), (2, (.own 2 [] []))], [(2, some ⟨(eA64u8 ((vrep 64 (0 : Int)))), false⟩)]⟩) rfl ?_
  refine a_seq ?_
  refine a_seq ?_
  refine a_region ?_
  refine a_val (v := (eSi64 a0)) (u := []) rfl trivial rfl ?_
  obtain ⟨r1, hr2, h⟩ := bind_some h
  refine a_call (args := [(eSi64 a0)]) (u := []) (r := (.bool r1)) rfl rfl (impl_row_fits_ok a0 r1 hr2) rfl ?_
  refine a_val (v := (.bool (!r1))) (u := []) rfl trivial rfl ?_
  refine a_nil ?_
  refine a_next (σ' := ⟨[(0, (eSi64 a0)), (2, (.own 2 [] [])), (6, (.bool (!r1)))], [(2, some ⟨(eA64u8 ((vrep 64 (0 : Int)))), false⟩)]⟩) rfl ?_
  cases hb3 : (!r1)
  · have h := ite_f hb3 h
    refine a_cond_f rfl ?_
    refine a_skip ?_
    refine a_next (σ' := ⟨[(0, (eSi64 a0)), (2, (.own 2 [] []))], [(2, some ⟨(eA64u8 ((vrep 64 (0 : Int)))), false⟩)]⟩) rfl ?_
    refine a_seq ?_
    refine a_region ?_
    refine a_val (v := (eSi64 a0)) (u := []) rfl trivial rfl ?_
    obtain ⟨r4, hr5, h⟩ := bind_some h
    refine a_call (args := [(eSi64 a0)]) (u := []) (r := (eA64u8 r4)) rfl rfl (impl_row_poly_ok a0 r4 hr5) rfl ?_
    have hs6 : StOk [] (eA64u8 ((vrep 64 (0 : Int)))) [] 64 (eA64u8 r4) (eA64u8 r4) := (.nil rfl rfl rfl rfl)
    refine a_val (v := .top) (u := [(2, some ⟨(eA64u8 r4), false⟩)]) (st_own (i := ⟨.arr 64 5, 64, 64, (eA64u8 (vrep 64 (0 : Int)))⟩) rfl rfl (fun _ => rfl) rfl hs6) (hs6.c rfl) rfl ?_
    refine a_val (v := (.int .i64 0)) (u := []) rfl trivial rfl ?_
    refine a_nil ?_
    refine a_next rfl ?_
    refine a_ret ?_
    have hl7 : LdOk [] (eA64u8 r4) [] 64 true (eA64u8 r4) := (.nil rfl rfl rfl)
    refine ⟨.inr rfl, ?_⟩
    rw [Try.results61]
    cases h
    exact ⟨_, _, _, _, _, ld_own (i := ⟨.arr 64 5, 64, 64, (eA64u8 (vrep 64 (0 : Int)))⟩) rfl rfl rfl hl7, hl7.c, .inl ⟨rfl, .inl rfl⟩, rfl, ⟨_, _, _, _, _, rfl, trivial, .inl ⟨rfl, .inl rfl⟩, rfl, rfl⟩⟩
  · have h := ite_t hb3 h
    refine a_cond_t rfl ?_
    refine a_seq ?_
    refine a_region ?_
    refine a_val (v := (eA64u8 ((vrep 64 (0 : Int))))) (u := []) rfl ⟨⟨_, rfl, rfl⟩, all_nil⟩ rfl ?_
    have hs8 : StOk [] (eA64u8 ((vrep 64 (0 : Int)))) [] 64 (eA64u8 ((vrep 64 (0 : Int)))) (eA64u8 ((vrep 64 (0 : Int)))) := (.nil rfl rfl rfl rfl)
    refine a_val (v := .top) (u := [(2, some ⟨(eA64u8 ((vrep 64 (0 : Int)))), false⟩)]) (st_own (i := ⟨.arr 64 5, 64, 64, (eA64u8 (vrep 64 (0 : Int)))⟩) rfl rfl (fun _ => rfl) rfl hs8) (hs8.c rfl) rfl ?_
    refine a_val (v := (.int .i64 3)) (u := []) rfl trivial rfl ?_
    refine a_nil ?_
    refine a_next rfl ?_
    refine a_ret ?_
    refine t_ret ?_
    have hl9 : LdOk [] (eA64u8 ((vrep 64 (0 : Int)))) [] 64 true (eA64u8 ((vrep 64 (0 : Int)))) := (.nil rfl rfl rfl)
    refine ⟨.inr rfl, ?_⟩
    rw [Try.results61]
    cases h
    exact ⟨_, _, _, _, _, ld_own (i := ⟨.arr 64 5, 64, 64, (eA64u8 (vrep 64 (0 : Int)))⟩) rfl rfl rfl hl9, hl9.c, .inl ⟨rfl, .inl rfl⟩, rfl, ⟨_, _, _, _, _, rfl, trivial, .inl ⟨rfl, .inl rfl⟩, rfl, rfl⟩⟩
end Go.Proofs.Ytacebpbhddkelaa
