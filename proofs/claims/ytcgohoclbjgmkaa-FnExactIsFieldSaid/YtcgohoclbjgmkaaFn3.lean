/- Functions of the program: plain Lean functions, and that the program computes them. Printed by gen.py. -/
import Derived.Test.YtcgohoclbjgmkaaFnT
import Derived.Test.YtcgohoclbjgmkaaFn1
import Derived.Test.YtcgohoclbjgmkaaFn2
namespace Go.Proofs.Ytcgohoclbjgmkaa
open Go.Abs Go.Proofs
set_option linter.unusedSimpArgs false
set_option linter.unusedVariables false
attribute [local irreducible] Abs.acode Abs.aops Abs.aopsT Abs.thenK Abs.blockK

def spec_l01Times_c : ACode := (.seq (.region 0 [⟨some 4, .box 24 (.tmp 1), none, []⟩, ⟨some 5, .box 24 (.tmp 2), none, []⟩, ⟨some 6, .alloc 24, none, []⟩, ⟨some 7, .asg 0 (.const (.bool false)) 4, none, []⟩] false) (.seq (.region 1 [⟨some 13, .load 24 (.tmp 4), none, []⟩, ⟨some 14, .call 0 (.func 81) [(.tmp 13)], none, [0]⟩, ⟨some 15, .load 24 (.tmp 5), none, []⟩, ⟨some 16, .call 0 (.func 81) [(.tmp 15)], none, [2, 1]⟩, ⟨some 17, .build 24 [], none, []⟩, ⟨some 10, .alloc 24, none, []⟩, ⟨some 8, .asg 0 (.tmp 14) 2, none, [1, 3, 0, 1, 5]⟩, ⟨some 9, .asg 0 (.tmp 16) 2, none, [3, 6, 0, 1, 2, 3, 5, 6]⟩, ⟨none, .store 24 (.tmp 10) (.tmp 17), none, [5, 4, 7, 0, 1, 2, 3, 4, 5, 6, 7]⟩] true) (.seq (.seq (.region 2 [⟨some 18, .mov (.tmp 8), none, []⟩, ⟨some 19, .bin .lss 2 (.tmp 18) (.const (.int .i64 0)), none, []⟩, ⟨some 20, .mov (.tmp 19), none, []⟩, ⟨some 21, .mov (.tmp 9), some (20, false), []⟩, ⟨some 22, .bin .lss 2 (.tmp 21) (.const (.int .i64 0)), some (20, false), []⟩, ⟨some 23, .pick (.tmp 20) (.const (.bool true)) (.tmp 22), none, []⟩] false) (.cond (.tmp 23) (.seq (.region 3 [⟨some 24, .load 24 (.tmp 10), none, []⟩, ⟨none, .store 24 (.tmp 6) (.tmp 24), none, []⟩, ⟨some 7, .asg 0 (.const (.bool true)) 4, none, []⟩] false) .ret) .skip)) (.seq (.seq (.region 4 [⟨some 25, .mov (.tmp 8), none, []⟩, ⟨some 26, .mov (.tmp 9), none, []⟩, ⟨some 27, .bin .add 2 (.tmp 25) (.tmp 26), none, []⟩, ⟨some 28, .bin .gtr 2 (.tmp 27) (.const (.int .i64 63)), none, []⟩] false) (.cond (.tmp 28) (.seq (.region 5 [⟨some 29, .load 24 (.tmp 10), none, []⟩, ⟨none, .store 24 (.tmp 6) (.tmp 29), none, []⟩, ⟨some 7, .asg 0 (.const (.bool false)) 4, none, []⟩] false) .ret) .skip)) (.seq (.seq (.region 6 [⟨some 11, .asg 0 (.const (.int .i64 0)) 2, none, []⟩] false) (.block 0 (.loop (.seq (.seq (.region 7 [⟨some 30, .mov (.tmp 11), none, []⟩, ⟨some 31, .mov (.tmp 8), none, []⟩, ⟨some 32, .bin .leq 2 (.tmp 30) (.tmp 31), none, []⟩] false) (.cond (.tmp 32) .skip (.exit 0))) (.seq (.block 1 (.seq (.region 9 [⟨some 12, .asg 0 (.const (.int .i64 0)) 2, none, []⟩] false) (.block 2 (.loop (.seq (.seq (.region 10 [⟨some 35, .mov (.tmp 12), none, []⟩, ⟨some 36, .mov (.tmp 9), none, []⟩, ⟨some 37, .bin .leq 2 (.tmp 35) (.tmp 36), none, []⟩, ⟨some 38, .mov (.tmp 37), none, []⟩, ⟨some 39, .mov (.tmp 11), some (38, true), []⟩, ⟨some 40, .indexAddr 24 (.tmp 4) (.tmp 39), some (38, true), []⟩, ⟨some 41, .load 5 (.tmp 40), some (38, true), []⟩, ⟨some 42, .bin .neq 5 (.tmp 41) (.const (.int .u8 0)), some (38, true), []⟩, ⟨some 43, .pick (.tmp 38) (.tmp 42) (.const (.bool false)), none, []⟩] false) (.cond (.tmp 43) .skip (.exit 2))) (.seq (.block 3 (.region 12 [⟨some 46, .mov (.tmp 11), none, []⟩, ⟨some 47, .mov (.tmp 12), none, []⟩, ⟨some 48, .bin .add 2 (.tmp 46) (.tmp 47), none, [0, 1]⟩, ⟨some 49, .mov (.tmp 11), none, []⟩, ⟨some 50, .mov (.tmp 12), none, []⟩, ⟨some 51, .bin .add 2 (.tmp 49) (.tmp 50), none, [3, 4]⟩, ⟨some 52, .indexAddr 24 (.tmp 10) (.tmp 51), none, [5]⟩, ⟨some 53, .load 5 (.tmp 52), none, [6]⟩, ⟨some 54, .conv 5 2 (.tmp 53), none, [7]⟩, ⟨some 55, .mov (.tmp 11), none, []⟩, ⟨some 56, .indexAddr 24 (.tmp 4) (.tmp 55), none, [9]⟩, ⟨some 57, .load 5 (.tmp 56), none, [10]⟩, ⟨some 58, .conv 5 2 (.tmp 57), none, [11]⟩, ⟨some 59, .mov (.tmp 12), none, []⟩, ⟨some 60, .indexAddr 24 (.tmp 5) (.tmp 59), none, [13]⟩, ⟨some 61, .load 5 (.tmp 60), none, [14]⟩, ⟨some 62, .conv 5 2 (.tmp 61), none, [15]⟩, ⟨some 63, .bin .mul 2 (.tmp 58) (.tmp 62), none, [12, 16]⟩, ⟨some 64, .bin .add 2 (.tmp 54) (.tmp 63), none, [8, 17]⟩, ⟨some 65, .mov (.tmp 0), none, []⟩, ⟨some 66, .bin .rem 2 (.tmp 64) (.tmp 65), none, [18, 19]⟩, ⟨some 67, .conv 2 5 (.tmp 66), none, [20]⟩, ⟨some 68, .indexAddr 24 (.tmp 10) (.tmp 48), none, [2, 0, 1, 2, 3, 4, 5, 6, 7, 8, 9, 10, 11, 12, 13, 14, 15, 16, 17, 18, 19, 20, 21]⟩, ⟨none, .store 5 (.tmp 68) (.tmp 67), none, [22, 21, 0, 1, 2, 3, 4, 5, 6, 7, 8, 9, 10, 11, 12, 13, 14, 15, 16, 17, 18, 19, 20, 21]⟩] true)) (.region 11 [⟨some 44, .mov (.tmp 12), none, []⟩, ⟨some 45, .bin .add 2 (.tmp 44) (.const (.int .i64 1)), none, []⟩, ⟨some 12, .asg 0 (.tmp 45) 2, none, []⟩] false))))))) (.region 8 [⟨some 33, .mov (.tmp 11), none, []⟩, ⟨some 34, .bin .add 2 (.tmp 33) (.const (.int .i64 1)), none, []⟩, ⟨some 11, .asg 0 (.tmp 34) 2, none, []⟩] false)))))) (.seq (.region 13 [⟨some 69, .load 24 (.tmp 10), none, []⟩, ⟨none, .store 24 (.tmp 6) (.tmp 69), none, []⟩, ⟨some 7, .asg 0 (.const (.bool true)) 4, none, []⟩] false) .ret))))))
def spec_l01Times_L : Live := [(0, [0, 1, 2]), (1, [0, 4, 5, 6]), (2, [0, 4, 5, 6, 8, 9, 10]), (3, [6, 10]), (4, [0, 4, 5, 6, 8, 9, 10]), (5, [6, 10]), (6, [0, 4, 5, 6, 8, 9, 10]), (7, [0, 4, 5, 6, 8, 9, 10, 11]), (8, [0, 4, 5, 6, 8, 9, 10, 11]), (9, [0, 4, 5, 6, 8, 9, 10, 11]), (10, [0, 4, 5, 6, 8, 9, 10, 11, 12]), (11, [0, 4, 5, 6, 8, 9, 10, 11, 12]), (12, [0, 4, 5, 6, 8, 9, 10, 11, 12]), (13, [6, 10]), (100023, [0, 4, 5, 6, 8, 9, 10, 23]), (100028, [0, 4, 5, 6, 8, 9, 10, 28]), (100032, [0, 4, 5, 6, 8, 9, 10, 11, 32]), (100043, [0, 4, 5, 6, 8, 9, 10, 11, 12, 43])]
theorem spec_l01Times_body : Try.f151.body = some (Try.f151.body.getD .skip) := by kernel_rfl
theorem spec_l01Times_strip : strip [] (Try.f151.body.getD .skip) = spec_l01Times_c := by kernel_rfl
noncomputable def spec_l01Times_l2 (r12 : Int) (x1081 : Int) (a1 : (Vec Int 64)) (a2 : (Vec Int 64)) (a0 : Int) (x1524 : Int) (x1525 : (Vec Int 64)) : Option ((Int × (Vec Int 64)) ⊕ (Vec Int 64)) :=
  (Option.bind (α := Bool) ((if (decide (x1524 ≤ r12)) then (ifp (0 ≤ x1081 ∧ x1081 < ((64 : Nat) : Int)) ((some (((rd a1.1 x1081.toNat) != 0))))) else (some false))) fun x1573 => (if x1573 then (ifp (0 ≤ IntKind.i64.wrap (x1081 + x1524) ∧ IntKind.i64.wrap (x1081 + x1524) < ((64 : Nat) : Int)) ((letp (IntKind.i64.wrap ((rd x1525.1 (IntKind.i64.wrap (x1081 + x1524)).toNat))) fun x1598 => (ifp (0 ≤ x1081 ∧ x1081 < ((64 : Nat) : Int)) ((ifp (0 ≤ x1524 ∧ x1524 < ((64 : Nat) : Int)) ((letp (IntKind.i64.wrap ((IntKind.i64.wrap (rd a1.1 x1081.toNat)) * (IntKind.i64.wrap (rd a2.1 x1524.toNat)))) fun x1604 => (ifp (a0 ≠ 0) ((letp (IntKind.u8.wrap (Int.tmod (IntKind.i64.wrap (x1598 + x1604)) a0)) fun x1607 => (ifp (0 ≤ IntKind.i64.wrap (x1081 + x1524) ∧ IntKind.i64.wrap (x1081 + x1524) < ((64 : Nat) : Int)) ((some (.inl ((IntKind.i64.wrap (x1524 + 1), (vset x1525 (IntKind.i64.wrap (x1081 + x1524)).toNat x1607)))))))))))))))))) else (some (.inr x1525))))
noncomputable def spec_l01Times_l1 (r9 : Int) (r12 : Int) (a1 : (Vec Int 64)) (a2 : (Vec Int 64)) (a0 : Int) (x1081 : Int) (x1082 : (Vec Int 64)) : Option ((Int × (Vec Int 64)) ⊕ (Vec Int 64)) :=
  (if (decide (x1081 ≤ r9)) then (Option.bind (α := (Vec Int 64)) ((loopM (fun s : (Int × (Vec Int 64)) => spec_l01Times_l2 r12 x1081 a1 a2 a0 s.1 s.2) (0, x1082))) fun x1479 => (some (.inl ((IntKind.i64.wrap (x1081 + 1), x1479))))) else (some (.inr x1082)))
noncomputable def spec_l01Times (a0 : Int) (a1 : (Vec Int 64)) (a2 : (Vec Int 64)) : Option ((Vec Int 64) × Bool) :=
  (Option.bind (spec_l01Deg a1) fun r9 => (Option.bind (spec_l01Deg a2) fun r12 => (Option.bind (α := Bool) ((if (decide (r9 < 0)) then (some true) else (some ((decide (r12 < 0)))))) fun x16 => (if x16 then (some (((vrep 64 (0 : Int)), true))) else (if (decide ((IntKind.i64.wrap (r9 + r12)) > 63)) then (some (((vrep 64 (0 : Int)), false))) else (Option.bind (α := (Vec Int 64)) ((loopM (fun s : (Int × (Vec Int 64)) => spec_l01Times_l1 r9 r12 a1 a2 a0 s.1 s.2) (0, (vrep 64 (0 : Int))))) fun x814 => (some (x814, true))))))))
set_option maxHeartbeats 16000000 in
theorem spec_l01Times_ok (a0 : Int) (a1 : (Vec Int 64)) (a2 : (Vec Int 64)) (r : ((Vec Int 64) × Bool)) (h : spec_l01Times a0 a1 a2 = some r) : Den Try.prog 151 [(.int .i64 a0), (eA64u8 a1), (eA64u8 a2)] { r := (.tuple [(eA64u8 r.1), (.bool r.2)]) } := by
  refine den_of (rs := [(eA64u8 r.1), (.bool r.2)]) (ac := spec_l01Times_c) (L := spec_l01Times_L) (n := 70) (m := []) good Try.func151 spec_l01Times_body (by kernel_rfl) Try.ntmps151 rfl rfl spec_l01Times_strip rfl rfl ?_
  refine a_st (σ' := ⟨[(0, (.int .i64 a0)), (1, (eA64u8 a1)), (2, (eA64u8 a2))], []⟩) (by kernel_rfl) ?_
  unfold spec_l01Times_c
  refine a_seq ?_
  refine a_region ?_
  refine a_val (v := (.own 1400 [] [])) (u := [(1400, some ⟨(eA64u8 a1), false⟩)]) rfl trivial rfl ?_
  refine a_val (v := (.own 1500 [] [])) (u := [(1500, some ⟨(eA64u8 a2), false⟩)]) rfl trivial rfl ?_
  refine a_val (v := (.own 1600 [] [])) (u := [(1600, some ⟨(eA64u8 ((vrep 64 (0 : Int)))), false⟩)]) rfl trivial rfl ?_
  refine a_val (v := (.bool false)) (u := []) rfl trivial rfl ?_
  refine a_nil ?_
  refine a_next (σ' := ⟨[(0, (.int .i64 a0)), (4, (.own 4 [] [])), (5, (.own 5 [] [])), (6, (.own 6 [] []))], [(4, some ⟨(eA64u8 a1), false⟩), (5, some ⟨(eA64u8 a2), false⟩), (6, some ⟨(eA64u8 ((vrep 64 (0 : Int)))), false⟩)]⟩) (by kernel_rfl) ?_
  refine a_seq ?_
  refine a_draw [⟨[4], [], [], []⟩, ⟨[], [], [], [0]⟩, ⟨[5], [], [], []⟩, ⟨[], [], [], [0, 1, 2]⟩, ⟨[], [], [], []⟩, ⟨[2000], [2000], [2000], []⟩, ⟨[], [], [], [0, 1, 2, 3, 5]⟩, ⟨[], [], [], [0, 1, 2, 3, 5, 6]⟩, ⟨[2000], [2000], [], [0, 1, 2, 3, 4, 5, 6, 7]⟩] (by kernel_rfl) ?_
  refine d_cons ?_
  have hl8 : LdOk [] (eA64u8 a1) [] 64 true (eA64u8 a1) := (.nil rfl rfl rfl)
  refine a_val (v := (eA64u8 a1)) (u := []) (ld_own (i := ⟨.arr 64 5, 64, 64, (eA64u8 (vrep 64 (0 : Int)))⟩) rfl rfl rfl hl8) hl8.c rfl ?_
  refine d_next (by kernel_rfl) ?_
  refine d_cons ?_
  obtain ⟨r9, hr10, h⟩ := bind_some h
  refine a_call (args := [(eA64u8 a1)]) (u := []) (r := (.int .i64 r9)) rfl rfl (spec_l01Deg_ok a1 r9 hr10) rfl ?_
  refine d_next (by kernel_rfl) ?_
  refine d_cons ?_
  have hl11 : LdOk [] (eA64u8 a2) [] 64 true (eA64u8 a2) := (.nil rfl rfl rfl)
  refine a_val (v := (eA64u8 a2)) (u := []) (ld_own (i := ⟨.arr 64 5, 64, 64, (eA64u8 (vrep 64 (0 : Int)))⟩) rfl rfl rfl hl11) hl11.c rfl ?_
  refine d_next (by kernel_rfl) ?_
  refine d_cons ?_
  obtain ⟨r12, hr13, h⟩ := bind_some h
  refine a_call (args := [(eA64u8 a2)]) (u := []) (r := (.int .i64 r12)) rfl rfl (spec_l01Deg_ok a2 r12 hr13) rfl ?_
  refine d_next (by kernel_rfl) ?_
  refine d_cons ?_
  refine a_val (v := (eA64u8 ((vrep 64 (0 : Int))))) (u := []) rfl ⟨⟨_, rfl, rfl⟩, all_nil⟩ rfl ?_
  refine d_next (by kernel_rfl) ?_
  refine d_cons ?_
  refine a_val (v := (.own 2000 [] [])) (u := [(2000, some ⟨(eA64u8 ((vrep 64 (0 : Int)))), false⟩)]) rfl trivial rfl ?_
  refine d_next (by kernel_rfl) ?_
  refine d_cons ?_
  refine a_val (v := (.int .i64 r9)) (u := []) rfl trivial rfl ?_
  refine d_next (by kernel_rfl) ?_
  refine d_cons ?_
  refine a_val (v := (.int .i64 r12)) (u := []) rfl trivial rfl ?_
  refine d_next (by kernel_rfl) ?_
  refine d_cons ?_
  have hs14 : StOk [] (eA64u8 ((vrep 64 (0 : Int)))) [] 64 (eA64u8 ((vrep 64 (0 : Int)))) (eA64u8 ((vrep 64 (0 : Int)))) := (.nil rfl rfl rfl rfl)
  refine a_val (v := .top) (u := [(2000, some ⟨(eA64u8 ((vrep 64 (0 : Int)))), false⟩)]) (st_own (i := ⟨.arr 64 5, 64, 64, (eA64u8 (vrep 64 (0 : Int)))⟩) rfl rfl (fun _ => rfl) rfl hs14) (hs14.c rfl) rfl ?_
  refine d_next (by kernel_rfl) ?_
  refine d_nil ?_
  refine a_next (σ' := ⟨[(0, (.int .i64 a0)), (4, (.own 4 [] [])), (5, (.own 5 [] [])), (6, (.own 6 [] [])), (8, (.int .i64 r9)), (9, (.int .i64 r12)), (10, (.own 10 [] []))], [(4, some ⟨(eA64u8 a1), false⟩), (5, some ⟨(eA64u8 a2), false⟩), (6, some ⟨(eA64u8 ((vrep 64 (0 : Int)))), false⟩), (10, some ⟨(eA64u8 ((vrep 64 (0 : Int)))), false⟩)]⟩) (by kernel_rfl) ?_
  refine a_seq ?_
  obtain ⟨y17, hy18, hk19⟩ := bind_some h
  clear h
  refine a_join (emb := fun (s : Bool) => ⟨[(0, (.int .i64 a0)), (4, (.own 4 [] [])), (5, (.own 5 [] [])), (6, (.own 6 [] [])), (8, (.int .i64 r9)), (9, (.int .i64 r12)), (10, (.own 10 [] [])), (23, (.bool s))], [(4, some ⟨(eA64u8 a1), false⟩), (5, some ⟨(eA64u8 a2), false⟩), (6, some ⟨(eA64u8 ((vrep 64 (0 : Int)))), false⟩), (10, some ⟨(eA64u8 ((vrep 64 (0 : Int)))), false⟩)]⟩) (pre := fun s => s = y17) ?_ ?_
  · rintro x16 rfl
    have h := hk19
    refine a_st (σ' := ⟨[(0, (.int .i64 a0)), (4, (.own 4 [] [])), (5, (.own 5 [] [])), (6, (.own 6 [] [])), (8, (.int .i64 r9)), (9, (.int .i64 r12)), (10, (.own 10 [] [])), (23, (.bool x16))], [(4, some ⟨(eA64u8 a1), false⟩), (5, some ⟨(eA64u8 a2), false⟩), (6, some ⟨(eA64u8 ((vrep 64 (0 : Int)))), false⟩), (10, some ⟨(eA64u8 ((vrep 64 (0 : Int)))), false⟩)]⟩) (by kernel_rfl) ?_
    cases hb21 : x16
    · have h := ite_f hb21 h
      refine a_cond_f rfl ?_
      refine a_skip ?_
      refine a_next (σ' := ⟨[(0, (.int .i64 a0)), (4, (.own 4 [] [])), (5, (.own 5 [] [])), (6, (.own 6 [] [])), (8, (.int .i64 r9)), (9, (.int .i64 r12)), (10, (.own 10 [] []))], [(4, some ⟨(eA64u8 a1), false⟩), (5, some ⟨(eA64u8 a2), false⟩), (6, some ⟨(eA64u8 ((vrep 64 (0 : Int)))), false⟩), (10, some ⟨(eA64u8 ((vrep 64 (0 : Int)))), false⟩)]⟩) (by kernel_rfl) ?_
      refine a_seq ?_
      refine a_seq ?_
      refine a_region ?_
      refine a_val (v := (.int .i64 r9)) (u := []) rfl trivial rfl ?_
      refine a_val (v := (.int .i64 r12)) (u := []) rfl trivial rfl ?_
      refine a_val (v := (.int .i64 (IntKind.i64.wrap (r9 + r12)))) (u := []) rfl trivial rfl ?_
      refine a_val (v := (.bool ((decide ((IntKind.i64.wrap (r9 + r12)) > 63))))) (u := []) rfl trivial rfl ?_
      refine a_nil ?_
      refine a_next (σ' := ⟨[(0, (.int .i64 a0)), (4, (.own 4 [] [])), (5, (.own 5 [] [])), (6, (.own 6 [] [])), (8, (.int .i64 r9)), (9, (.int .i64 r12)), (10, (.own 10 [] [])), (28, (.bool ((decide ((IntKind.i64.wrap (r9 + r12)) > 63)))))], [(4, some ⟨(eA64u8 a1), false⟩), (5, some ⟨(eA64u8 a2), false⟩), (6, some ⟨(eA64u8 ((vrep 64 (0 : Int)))), false⟩), (10, some ⟨(eA64u8 ((vrep 64 (0 : Int)))), false⟩)]⟩) (by kernel_rfl) ?_
      cases hb22 : (decide ((IntKind.i64.wrap (r9 + r12)) > 63))
      · have h := ite_f hb22 h
        refine a_cond_f rfl ?_
        refine a_skip ?_
        refine a_next (σ' := ⟨[(0, (.int .i64 a0)), (4, (.own 4 [] [])), (5, (.own 5 [] [])), (6, (.own 6 [] [])), (8, (.int .i64 r9)), (9, (.int .i64 r12)), (10, (.own 10 [] []))], [(4, some ⟨(eA64u8 a1), false⟩), (5, some ⟨(eA64u8 a2), false⟩), (6, some ⟨(eA64u8 ((vrep 64 (0 : Int)))), false⟩), (10, some ⟨(eA64u8 ((vrep 64 (0 : Int)))), false⟩)]⟩) (by kernel_rfl) ?_
        obtain ⟨y815, hy816, hk817⟩ := bind_some h
        clear h
        refine a_join (emb := fun (s : (Vec Int 64)) => ⟨[(6, (.own 6 [] [])), (10, (.own 10 [] []))], [(6, some ⟨(eA64u8 ((vrep 64 (0 : Int)))), false⟩), (10, some ⟨(eA64u8 s), false⟩)]⟩) (pre := fun s => s = y815) ?_ ?_
        · rintro x814 rfl
          have h := hk817
          refine a_st (σ' := ⟨[(6, (.own 6 [] [])), (10, (.own 10 [] []))], [(6, some ⟨(eA64u8 ((vrep 64 (0 : Int)))), false⟩), (10, some ⟨(eA64u8 x814), false⟩)]⟩) (by kernel_rfl) ?_
          refine a_seq ?_
          refine a_region ?_
          have hl1613 : LdOk [] (eA64u8 x814) [] 64 true (eA64u8 x814) := (.nil rfl rfl rfl)
          refine a_val (v := (eA64u8 x814)) (u := []) (ld_own (i := ⟨.arr 64 5, 64, 64, (eA64u8 (vrep 64 (0 : Int)))⟩) rfl rfl rfl hl1613) hl1613.c rfl ?_
          have hs1614 : StOk [] (eA64u8 ((vrep 64 (0 : Int)))) [] 64 (eA64u8 x814) (eA64u8 x814) := (.nil rfl rfl rfl rfl)
          refine a_val (v := .top) (u := [(6, some ⟨(eA64u8 x814), false⟩)]) (st_own (i := ⟨.arr 64 5, 64, 64, (eA64u8 (vrep 64 (0 : Int)))⟩) rfl rfl (fun _ => rfl) rfl hs1614) (hs1614.c rfl) rfl ?_
          refine a_val (v := (.bool true)) (u := []) rfl trivial rfl ?_
          refine a_nil ?_
          refine a_next rfl ?_
          refine a_ret ?_
          have hl1615 : LdOk [] (eA64u8 x814) [] 64 true (eA64u8 x814) := (.nil rfl rfl rfl)
          refine ⟨.inr rfl, ?_⟩
          rw [Try.results151]
          cases h
          exact ⟨_, _, _, _, _, ld_own (i := ⟨.arr 64 5, 64, 64, (eA64u8 (vrep 64 (0 : Int)))⟩) rfl rfl rfl hl1615, hl1615.c, .inl ⟨rfl, .inl rfl⟩, rfl, ⟨_, _, _, _, _, rfl, trivial, .inl ⟨rfl, .inl rfl⟩, rfl, rfl⟩⟩
        · have h := hy816
          refine a_seq ?_
          refine a_region ?_
          refine a_val (v := (.int .i64 0)) (u := []) rfl trivial rfl ?_
          refine a_nil ?_
          refine a_next (σ' := ⟨[(0, (.int .i64 a0)), (4, (.own 4 [] [])), (5, (.own 5 [] [])), (6, (.own 6 [] [])), (8, (.int .i64 r9)), (9, (.int .i64 r12)), (10, (.own 10 [] [])), (11, (.int .i64 0))], [(4, some ⟨(eA64u8 a1), false⟩), (5, some ⟨(eA64u8 a2), false⟩), (6, some ⟨(eA64u8 ((vrep 64 (0 : Int)))), false⟩), (10, some ⟨(eA64u8 ((vrep 64 (0 : Int)))), false⟩)]⟩) (by kernel_rfl) ?_
          refine a_block ?_
          refine a_loop (emb := fun (s : (Int × (Vec Int 64))) => ⟨[(0, (.int .i64 a0)), (4, (.own 4 [] [])), (5, (.own 5 [] [])), (6, (.own 6 [] [])), (8, (.int .i64 r9)), (9, (.int .i64 r12)), (10, (.own 10 [] [])), (11, (.int .i64 s.1))], [(4, some ⟨(eA64u8 a1), false⟩), (5, some ⟨(eA64u8 a2), false⟩), (6, some ⟨(eA64u8 ((vrep 64 (0 : Int)))), false⟩), (10, some ⟨(eA64u8 s.2), false⟩)]⟩) (body := (fun s : (Int × (Vec Int 64)) => spec_l01Times_l1 r9 r12 a1 a2 a0 s.1 s.2)) (G := fun q => some q = some y815) h rfl ?_ (by kernel_rfl)
          rintro X1346 ⟨x1081, x1082⟩ x1347 h hX1348
          have h : spec_l01Times_l1 r9 r12 a1 a2 a0 x1081 x1082 = some x1347 := h
          refine a_st (σ' := ⟨[(0, (.int .i64 a0)), (4, (.own 4 [] [])), (5, (.own 5 [] [])), (6, (.own 6 [] [])), (8, (.int .i64 r9)), (9, (.int .i64 r12)), (10, (.own 10 [] [])), (11, (.int .i64 x1081))], [(4, some ⟨(eA64u8 a1), false⟩), (5, some ⟨(eA64u8 a2), false⟩), (6, some ⟨(eA64u8 ((vrep 64 (0 : Int)))), false⟩), (10, some ⟨(eA64u8 x1082), false⟩)]⟩) (by kernel_rfl) ?_
          refine a_seq ?_
          refine a_seq ?_
          refine a_region ?_
          refine a_val (v := (.int .i64 x1081)) (u := []) rfl trivial rfl ?_
          refine a_val (v := (.int .i64 r9)) (u := []) rfl trivial rfl ?_
          refine a_val (v := (.bool ((decide (x1081 ≤ r9))))) (u := []) rfl trivial rfl ?_
          refine a_nil ?_
          refine a_next (σ' := ⟨[(0, (.int .i64 a0)), (4, (.own 4 [] [])), (5, (.own 5 [] [])), (6, (.own 6 [] [])), (8, (.int .i64 r9)), (9, (.int .i64 r12)), (10, (.own 10 [] [])), (11, (.int .i64 x1081)), (32, (.bool ((decide (x1081 ≤ r9)))))], [(4, some ⟨(eA64u8 a1), false⟩), (5, some ⟨(eA64u8 a2), false⟩), (6, some ⟨(eA64u8 ((vrep 64 (0 : Int)))), false⟩), (10, some ⟨(eA64u8 x1082), false⟩)]⟩) (by kernel_rfl) ?_
          cases hb1349 : (decide (x1081 ≤ r9))
          · have h := ite_f hb1349 h
            refine a_cond_f rfl ?_
            refine a_exit ?_
            refine t_exit ?_
            cases h
            have h := hX1348
            refine t_exit ?_
            refine b_exit ?_
            exact j_leaf x1082 (Option.some.inj h) (by kernel_rfl)
          · have h := ite_t hb1349 h
            refine a_cond_t rfl ?_
            refine a_skip ?_
            refine a_next (σ' := ⟨[(0, (.int .i64 a0)), (4, (.own 4 [] [])), (5, (.own 5 [] [])), (6, (.own 6 [] [])), (8, (.int .i64 r9)), (9, (.int .i64 r12)), (10, (.own 10 [] [])), (11, (.int .i64 x1081))], [(4, some ⟨(eA64u8 a1), false⟩), (5, some ⟨(eA64u8 a2), false⟩), (6, some ⟨(eA64u8 ((vrep 64 (0 : Int)))), false⟩), (10, some ⟨(eA64u8 x1082), false⟩)]⟩) (by kernel_rfl) ?_
            obtain ⟨y1480, hy1481, hk1482⟩ := bind_some h
            clear h
            refine a_join (emb := fun (s : (Vec Int 64)) => ⟨[(0, (.int .i64 a0)), (4, (.own 4 [] [])), (5, (.own 5 [] [])), (6, (.own 6 [] [])), (8, (.int .i64 r9)), (9, (.int .i64 r12)), (10, (.own 10 [] [])), (11, (.int .i64 x1081))], [(4, some ⟨(eA64u8 a1), false⟩), (5, some ⟨(eA64u8 a2), false⟩), (6, some ⟨(eA64u8 ((vrep 64 (0 : Int)))), false⟩), (10, some ⟨(eA64u8 s), false⟩)]⟩) (pre := fun s => s = y1480) ?_ ?_
            · rintro x1479 rfl
              have h := hk1482
              refine a_st (σ' := ⟨[(0, (.int .i64 a0)), (4, (.own 4 [] [])), (5, (.own 5 [] [])), (6, (.own 6 [] [])), (8, (.int .i64 r9)), (9, (.int .i64 r12)), (10, (.own 10 [] [])), (11, (.int .i64 x1081))], [(4, some ⟨(eA64u8 a1), false⟩), (5, some ⟨(eA64u8 a2), false⟩), (6, some ⟨(eA64u8 ((vrep 64 (0 : Int)))), false⟩), (10, some ⟨(eA64u8 x1479), false⟩)]⟩) (by kernel_rfl) ?_
              refine a_region ?_
              refine a_val (v := (.int .i64 x1081)) (u := []) rfl trivial rfl ?_
              refine a_val (v := (.int .i64 (IntKind.i64.wrap (x1081 + 1)))) (u := []) rfl trivial rfl ?_
              refine a_val (v := (.int .i64 (IntKind.i64.wrap (x1081 + 1)))) (u := []) rfl trivial rfl ?_
              refine a_nil ?_
              cases h
              exact a_again (by kernel_rfl) hX1348
            · have h := hy1481
              refine a_block ?_
              refine a_seq ?_
              refine a_region ?_
              refine a_val (v := (.int .i64 0)) (u := []) rfl trivial rfl ?_
              refine a_nil ?_
              refine a_next (σ' := ⟨[(0, (.int .i64 a0)), (4, (.own 4 [] [])), (5, (.own 5 [] [])), (6, (.own 6 [] [])), (8, (.int .i64 r9)), (9, (.int .i64 r12)), (10, (.own 10 [] [])), (11, (.int .i64 x1081)), (12, (.int .i64 0))], [(4, some ⟨(eA64u8 a1), false⟩), (5, some ⟨(eA64u8 a2), false⟩), (6, some ⟨(eA64u8 ((vrep 64 (0 : Int)))), false⟩), (10, some ⟨(eA64u8 x1082), false⟩)]⟩) (by kernel_rfl) ?_
              refine a_block ?_
              refine a_loop (emb := fun (s : (Int × (Vec Int 64))) => ⟨[(0, (.int .i64 a0)), (4, (.own 4 [] [])), (5, (.own 5 [] [])), (6, (.own 6 [] [])), (8, (.int .i64 r9)), (9, (.int .i64 r12)), (10, (.own 10 [] [])), (11, (.int .i64 x1081)), (12, (.int .i64 s.1))], [(4, some ⟨(eA64u8 a1), false⟩), (5, some ⟨(eA64u8 a2), false⟩), (6, some ⟨(eA64u8 ((vrep 64 (0 : Int)))), false⟩), (10, some ⟨(eA64u8 s.2), false⟩)]⟩) (body := (fun s : (Int × (Vec Int 64)) => spec_l01Times_l2 r12 x1081 a1 a2 a0 s.1 s.2)) (G := fun q => some q = some y1480) h rfl ?_ (by kernel_rfl)
              rintro X1567 ⟨x1524, x1525⟩ x1568 h hX1569
              have h : spec_l01Times_l2 r12 x1081 a1 a2 a0 x1524 x1525 = some x1568 := h
              refine a_st (σ' := ⟨[(0, (.int .i64 a0)), (4, (.own 4 [] [])), (5, (.own 5 [] [])), (6, (.own 6 [] [])), (8, (.int .i64 r9)), (9, (.int .i64 r12)), (10, (.own 10 [] [])), (11, (.int .i64 x1081)), (12, (.int .i64 x1524))], [(4, some ⟨(eA64u8 a1), false⟩), (5, some ⟨(eA64u8 a2), false⟩), (6, some ⟨(eA64u8 ((vrep 64 (0 : Int)))), false⟩), (10, some ⟨(eA64u8 x1525), false⟩)]⟩) (by kernel_rfl) ?_
              refine a_seq ?_
              obtain ⟨y1574, hy1575, hk1576⟩ := bind_some h
              clear h
              refine a_join (emb := fun (s : Bool) => ⟨[(0, (.int .i64 a0)), (4, (.own 4 [] [])), (5, (.own 5 [] [])), (6, (.own 6 [] [])), (8, (.int .i64 r9)), (9, (.int .i64 r12)), (10, (.own 10 [] [])), (11, (.int .i64 x1081)), (12, (.int .i64 x1524)), (43, (.bool s))], [(4, some ⟨(eA64u8 a1), false⟩), (5, some ⟨(eA64u8 a2), false⟩), (6, some ⟨(eA64u8 ((vrep 64 (0 : Int)))), false⟩), (10, some ⟨(eA64u8 x1525), false⟩)]⟩) (pre := fun s => s = y1574) ?_ ?_
              · rintro x1573 rfl
                have h := hk1576
                refine a_st (σ' := ⟨[(0, (.int .i64 a0)), (4, (.own 4 [] [])), (5, (.own 5 [] [])), (6, (.own 6 [] [])), (8, (.int .i64 r9)), (9, (.int .i64 r12)), (10, (.own 10 [] [])), (11, (.int .i64 x1081)), (12, (.int .i64 x1524)), (43, (.bool x1573))], [(4, some ⟨(eA64u8 a1), false⟩), (5, some ⟨(eA64u8 a2), false⟩), (6, some ⟨(eA64u8 ((vrep 64 (0 : Int)))), false⟩), (10, some ⟨(eA64u8 x1525), false⟩)]⟩) (by kernel_rfl) ?_
                cases hb1580 : x1573
                · have h := ite_f hb1580 h
                  refine a_cond_f rfl ?_
                  refine a_exit ?_
                  refine t_exit ?_
                  cases h
                  have h := hX1569
                  refine t_exit ?_
                  refine b_exit ?_
                  refine b_norm ?_
                  exact j_leaf x1525 (Option.some.inj h) (by kernel_rfl)
                · have h := ite_t hb1580 h
                  refine a_cond_t rfl ?_
                  refine a_skip ?_
                  refine a_next (σ' := ⟨[(0, (.int .i64 a0)), (4, (.own 4 [] [])), (5, (.own 5 [] [])), (6, (.own 6 [] [])), (8, (.int .i64 r9)), (9, (.int .i64 r12)), (10, (.own 10 [] [])), (11, (.int .i64 x1081)), (12, (.int .i64 x1524))], [(4, some ⟨(eA64u8 a1), false⟩), (5, some ⟨(eA64u8 a2), false⟩), (6, some ⟨(eA64u8 ((vrep 64 (0 : Int)))), false⟩), (10, some ⟨(eA64u8 x1525), false⟩)]⟩) (by kernel_rfl) ?_
                  refine a_seq ?_
                  refine a_block ?_
                  refine a_draw [⟨[], [], [], []⟩, ⟨[], [], [], []⟩, ⟨[], [], [], [0, 1]⟩, ⟨[], [], [], []⟩, ⟨[], [], [], []⟩, ⟨[], [], [], [3, 4]⟩, ⟨[10], [], [10], [3, 4, 5]⟩, ⟨[10], [], [], [3, 4, 5, 6]⟩, ⟨[], [], [], [3, 4, 5, 6, 7]⟩, ⟨[], [], [], []⟩, ⟨[4], [], [4], [9]⟩, ⟨[4], [], [], [9, 10]⟩, ⟨[], [], [], [9, 10, 11]⟩, ⟨[], [], [], []⟩, ⟨[5], [], [5], [13]⟩, ⟨[5], [], [], [13, 14]⟩, ⟨[], [], [], [13, 14, 15]⟩, ⟨[], [], [], [9, 10, 11, 12, 13, 14, 15, 16]⟩, ⟨[], [], [], [3, 4, 5, 6, 7, 8, 9, 10, 11, 12, 13, 14, 15, 16, 17]⟩, ⟨[], [], [], []⟩, ⟨[], [], [], [3, 4, 5, 6, 7, 8, 9, 10, 11, 12, 13, 14, 15, 16, 17, 18, 19]⟩, ⟨[], [], [], [3, 4, 5, 6, 7, 8, 9, 10, 11, 12, 13, 14, 15, 16, 17, 18, 19, 20]⟩, ⟨[10], [], [10], [0, 1, 2, 3, 4, 5, 6, 7, 8, 9, 10, 11, 12, 13, 14, 15, 16, 17, 18, 19, 20, 21]⟩, ⟨[10], [10], [], [0, 1, 2, 3, 4, 5, 6, 7, 8, 9, 10, 11, 12, 13, 14, 15, 16, 17, 18, 19, 20, 21, 22]⟩] (by kernel_rfl) ?_
                  refine d_cons ?_
                  refine a_val (v := (.int .i64 x1081)) (u := []) rfl trivial rfl ?_
                  refine d_next (by kernel_rfl) ?_
                  refine d_cons ?_
                  refine a_val (v := (.int .i64 x1524)) (u := []) rfl trivial rfl ?_
                  refine d_next (by kernel_rfl) ?_
                  refine d_cons ?_
                  refine a_val (v := (.int .i64 (IntKind.i64.wrap (x1081 + x1524)))) (u := []) rfl trivial rfl ?_
                  refine d_next (by kernel_rfl) ?_
                  refine d_cons ?_
                  refine a_val (v := (.int .i64 x1081)) (u := []) rfl trivial rfl ?_
                  refine d_next (by kernel_rfl) ?_
                  refine d_cons ?_
                  refine a_val (v := (.int .i64 x1524)) (u := []) rfl trivial rfl ?_
                  refine d_next (by kernel_rfl) ?_
                  refine d_cons ?_
                  refine a_val (v := (.int .i64 (IntKind.i64.wrap (x1081 + x1524)))) (u := []) rfl trivial rfl ?_
                  refine d_next (by kernel_rfl) ?_
                  refine d_cons ?_
                  obtain ⟨hc1596, h⟩ := ifp_some h
                  refine a_val (v := (.own 10 [(IntKind.i64.wrap (x1081 + x1524)).toNat] [(IntKind.i64.wrap (x1081 + x1524)).toNat * 1])) (u := []) rfl hc1596 rfl ?_
                  refine d_next (by kernel_rfl) ?_
                  refine d_cons ?_
                  have hl1597 : LdOk [(IntKind.i64.wrap (x1081 + x1524)).toNat] (eA64u8 x1525) [(IntKind.i64.wrap (x1081 + x1524)).toNat * 1] 1 false (.int .u8 ((rd x1525.1 (IntKind.i64.wrap (x1081 + x1524)).toNat))) := (.arr (vlt x1525 hc1596) rfl (.nil rfl rfl rfl))
                  refine a_val (v := (.int .u8 ((rd x1525.1 (IntKind.i64.wrap (x1081 + x1524)).toNat)))) (u := []) (ld_own (i := ⟨.int .u8, 1, 1, (.int .u8 0)⟩) rfl rfl rfl hl1597) hl1597.c rfl ?_
                  refine d_next (by kernel_rfl) ?_
                  refine d_cons ?_
                  obtain ⟨x1598, hx1599, h⟩ := letp_some h
                  refine a_val' (v := (.int .i64 (IntKind.i64.wrap ((rd x1525.1 (IntKind.i64.wrap (x1081 + x1524)).toNat))))) (v' := (.int .i64 x1598)) (u := []) (u' := []) rfl (congrArg (fun z => ((.int .i64 z) : AV)) hx1599) rfl trivial rfl ?_
                  refine d_next (by kernel_rfl) ?_
                  refine d_cons ?_
                  refine a_val (v := (.int .i64 x1081)) (u := []) rfl trivial rfl ?_
                  refine d_next (by kernel_rfl) ?_
                  refine d_cons ?_
                  obtain ⟨hc1600, h⟩ := ifp_some h
                  refine a_val (v := (.own 4 [x1081.toNat] [x1081.toNat * 1])) (u := []) rfl hc1600 rfl ?_
                  refine d_next (by kernel_rfl) ?_
                  refine d_cons ?_
                  have hl1601 : LdOk [x1081.toNat] (eA64u8 a1) [x1081.toNat * 1] 1 false (.int .u8 (rd a1.1 x1081.toNat)) := (.arr (vlt a1 hc1600) rfl (.nil rfl rfl rfl))
                  refine a_val (v := (.int .u8 (rd a1.1 x1081.toNat))) (u := []) (ld_own (i := ⟨.int .u8, 1, 1, (.int .u8 0)⟩) rfl rfl rfl hl1601) hl1601.c rfl ?_
                  refine d_next (by kernel_rfl) ?_
                  refine d_cons ?_
                  refine a_val (v := (.int .i64 (IntKind.i64.wrap (rd a1.1 x1081.toNat)))) (u := []) rfl trivial rfl ?_
                  refine d_next (by kernel_rfl) ?_
                  refine d_cons ?_
                  refine a_val (v := (.int .i64 x1524)) (u := []) rfl trivial rfl ?_
                  refine d_next (by kernel_rfl) ?_
                  refine d_cons ?_
                  obtain ⟨hc1602, h⟩ := ifp_some h
                  refine a_val (v := (.own 5 [x1524.toNat] [x1524.toNat * 1])) (u := []) rfl hc1602 rfl ?_
                  refine d_next (by kernel_rfl) ?_
                  refine d_cons ?_
                  have hl1603 : LdOk [x1524.toNat] (eA64u8 a2) [x1524.toNat * 1] 1 false (.int .u8 (rd a2.1 x1524.toNat)) := (.arr (vlt a2 hc1602) rfl (.nil rfl rfl rfl))
                  refine a_val (v := (.int .u8 (rd a2.1 x1524.toNat))) (u := []) (ld_own (i := ⟨.int .u8, 1, 1, (.int .u8 0)⟩) rfl rfl rfl hl1603) hl1603.c rfl ?_
                  refine d_next (by kernel_rfl) ?_
                  refine d_cons ?_
                  refine a_val (v := (.int .i64 (IntKind.i64.wrap (rd a2.1 x1524.toNat)))) (u := []) rfl trivial rfl ?_
                  refine d_next (by kernel_rfl) ?_
                  refine d_cons ?_
                  obtain ⟨x1604, hx1605, h⟩ := letp_some h
                  refine a_val' (v := (.int .i64 (IntKind.i64.wrap ((IntKind.i64.wrap (rd a1.1 x1081.toNat)) * (IntKind.i64.wrap (rd a2.1 x1524.toNat)))))) (v' := (.int .i64 x1604)) (u := []) (u' := []) rfl (congrArg (fun z => ((.int .i64 z) : AV)) hx1605) rfl trivial rfl ?_
                  refine d_next (by kernel_rfl) ?_
                  refine d_cons ?_
                  refine a_val (v := (.int .i64 (IntKind.i64.wrap (x1598 + x1604)))) (u := []) rfl trivial rfl ?_
                  refine d_next (by kernel_rfl) ?_
                  refine d_cons ?_
                  refine a_val (v := (.int .i64 a0)) (u := []) rfl trivial rfl ?_
                  refine d_next (by kernel_rfl) ?_
                  refine d_cons ?_
                  obtain ⟨hc1606, h⟩ := ifp_some h
                  refine a_val (v := (.int .i64 (Int.tmod (IntKind.i64.wrap (x1598 + x1604)) a0))) (u := []) rfl hc1606 rfl ?_
                  refine d_next (by kernel_rfl) ?_
                  refine d_cons ?_
                  obtain ⟨x1607, hx1608, h⟩ := letp_some h
                  refine a_val' (v := (.int .u8 (IntKind.u8.wrap (Int.tmod (IntKind.i64.wrap (x1598 + x1604)) a0)))) (v' := (.int .u8 x1607)) (u := []) (u' := []) rfl (congrArg (fun z => ((.int .u8 z) : AV)) hx1608) rfl trivial rfl ?_
                  refine d_next (by kernel_rfl) ?_
                  refine d_cons ?_
                  obtain ⟨hc1609, h⟩ := ifp_some h
                  refine a_val (v := (.own 10 [(IntKind.i64.wrap (x1081 + x1524)).toNat] [(IntKind.i64.wrap (x1081 + x1524)).toNat * 1])) (u := []) rfl hc1609 rfl ?_
                  refine d_next (by kernel_rfl) ?_
                  refine d_cons ?_
                  have hs1610 : StOk [(IntKind.i64.wrap (x1081 + x1524)).toNat] (eA64u8 x1525) [(IntKind.i64.wrap (x1081 + x1524)).toNat * 1] 1 (.int .u8 x1607) (eA64u8 ((vset x1525 (IntKind.i64.wrap (x1081 + x1524)).toNat x1607))) := (.arr (y := x1607) (vlt x1525 hc1609) rfl (.nil rfl rfl rfl rfl))
                  refine a_val (v := .top) (u := [(10, some ⟨(eA64u8 ((vset x1525 (IntKind.i64.wrap (x1081 + x1524)).toNat x1607))), false⟩)]) (st_own (i := ⟨.int .u8, 1, 1, (.int .u8 0)⟩) rfl rfl (fun _ => rfl) rfl hs1610) (hs1610.c rfl) rfl ?_
                  refine d_next (by kernel_rfl) ?_
                  refine d_nil ?_
                  refine b_norm ?_
                  refine a_next (σ' := ⟨[(0, (.int .i64 a0)), (4, (.own 4 [] [])), (5, (.own 5 [] [])), (6, (.own 6 [] [])), (8, (.int .i64 r9)), (9, (.int .i64 r12)), (10, (.own 10 [] [])), (11, (.int .i64 x1081)), (12, (.int .i64 x1524))], [(4, some ⟨(eA64u8 a1), false⟩), (5, some ⟨(eA64u8 a2), false⟩), (6, some ⟨(eA64u8 ((vrep 64 (0 : Int)))), false⟩), (10, some ⟨(eA64u8 ((vset x1525 (IntKind.i64.wrap (x1081 + x1524)).toNat x1607))), false⟩)]⟩) (by kernel_rfl) ?_
                  refine a_region ?_
                  refine a_val (v := (.int .i64 x1524)) (u := []) rfl trivial rfl ?_
                  refine a_val (v := (.int .i64 (IntKind.i64.wrap (x1524 + 1)))) (u := []) rfl trivial rfl ?_
                  refine a_val (v := (.int .i64 (IntKind.i64.wrap (x1524 + 1)))) (u := []) rfl trivial rfl ?_
                  refine a_nil ?_
                  cases h
                  exact a_again (by kernel_rfl) hX1569
              · have h := hy1575
                refine a_region ?_
                refine a_val (v := (.int .i64 x1524)) (u := []) rfl trivial rfl ?_
                refine a_val (v := (.int .i64 r12)) (u := []) rfl trivial rfl ?_
                refine a_val (v := (.bool ((decide (x1524 ≤ r12))))) (u := []) rfl trivial rfl ?_
                refine a_val (v := (.bool ((decide (x1524 ≤ r12))))) (u := []) rfl trivial rfl ?_
                cases hb1577 : (decide (x1524 ≤ r12))
                · have h := ite_f hb1577 h
                  refine a_gskip rfl ?_
                  refine a_gskip rfl ?_
                  refine a_gskip rfl ?_
                  refine a_gskip rfl ?_
                  refine a_val (v := (.bool false)) (u := []) rfl trivial rfl ?_
                  refine a_nil ?_
                  exact j_leaf false (Option.some.inj h) (by kernel_rfl)
                · have h := ite_t hb1577 h
                  refine a_gval rfl (v := (.int .i64 x1081)) (u := []) rfl trivial rfl ?_
                  obtain ⟨hc1578, h⟩ := ifp_some h
                  refine a_gval rfl (v := (.own 4 [x1081.toNat] [x1081.toNat * 1])) (u := []) rfl hc1578 rfl ?_
                  have hl1579 : LdOk [x1081.toNat] (eA64u8 a1) [x1081.toNat * 1] 1 false (.int .u8 (rd a1.1 x1081.toNat)) := (.arr (vlt a1 hc1578) rfl (.nil rfl rfl rfl))
                  refine a_gval rfl (v := (.int .u8 (rd a1.1 x1081.toNat))) (u := []) (ld_own (i := ⟨.int .u8, 1, 1, (.int .u8 0)⟩) rfl rfl rfl hl1579) hl1579.c rfl ?_
                  refine a_gval rfl (v := (.bool (((rd a1.1 x1081.toNat) != 0)))) (u := []) rfl trivial rfl ?_
                  refine a_val (v := (.bool (((rd a1.1 x1081.toNat) != 0)))) (u := []) rfl trivial rfl ?_
                  refine a_nil ?_
                  exact j_leaf (((rd a1.1 x1081.toNat) != 0)) (Option.some.inj h) (by kernel_rfl)
      · have h := ite_t hb22 h
        refine a_cond_t rfl ?_
        refine a_seq ?_
        refine a_region ?_
        have hl1616 : LdOk [] (eA64u8 ((vrep 64 (0 : Int)))) [] 64 true (eA64u8 ((vrep 64 (0 : Int)))) := (.nil rfl rfl rfl)
        refine a_val (v := (eA64u8 ((vrep 64 (0 : Int))))) (u := []) (ld_own (i := ⟨.arr 64 5, 64, 64, (eA64u8 (vrep 64 (0 : Int)))⟩) rfl rfl rfl hl1616) hl1616.c rfl ?_
        have hs1617 : StOk [] (eA64u8 ((vrep 64 (0 : Int)))) [] 64 (eA64u8 ((vrep 64 (0 : Int)))) (eA64u8 ((vrep 64 (0 : Int)))) := (.nil rfl rfl rfl rfl)
        refine a_val (v := .top) (u := [(6, some ⟨(eA64u8 ((vrep 64 (0 : Int)))), false⟩)]) (st_own (i := ⟨.arr 64 5, 64, 64, (eA64u8 (vrep 64 (0 : Int)))⟩) rfl rfl (fun _ => rfl) rfl hs1617) (hs1617.c rfl) rfl ?_
        refine a_val (v := (.bool false)) (u := []) rfl trivial rfl ?_
        refine a_nil ?_
        refine a_next rfl ?_
        refine a_ret ?_
        refine t_ret ?_
        have hl1618 : LdOk [] (eA64u8 ((vrep 64 (0 : Int)))) [] 64 true (eA64u8 ((vrep 64 (0 : Int)))) := (.nil rfl rfl rfl)
        refine ⟨.inr rfl, ?_⟩
        rw [Try.results151]
        cases h
        exact ⟨_, _, _, _, _, ld_own (i := ⟨.arr 64 5, 64, 64, (eA64u8 (vrep 64 (0 : Int)))⟩) rfl rfl rfl hl1618, hl1618.c, .inl ⟨rfl, .inl rfl⟩, rfl, ⟨_, _, _, _, _, rfl, trivial, .inl ⟨rfl, .inl rfl⟩, rfl, rfl⟩⟩
    · have h := ite_t hb21 h
      refine a_cond_t rfl ?_
      refine a_seq ?_
      refine a_region ?_
      have hl1619 : LdOk [] (eA64u8 ((vrep 64 (0 : Int)))) [] 64 true (eA64u8 ((vrep 64 (0 : Int)))) := (.nil rfl rfl rfl)
      refine a_val (v := (eA64u8 ((vrep 64 (0 : Int))))) (u := []) (ld_own (i := ⟨.arr 64 5, 64, 64, (eA64u8 (vrep 64 (0 : Int)))⟩) rfl rfl rfl hl1619) hl1619.c rfl ?_
      have hs1620 : StOk [] (eA64u8 ((vrep 64 (0 : Int)))) [] 64 (eA64u8 ((vrep 64 (0 : Int)))) (eA64u8 ((vrep 64 (0 : Int)))) := (.nil rfl rfl rfl rfl)
      refine a_val (v := .top) (u := [(6, some ⟨(eA64u8 ((vrep 64 (0 : Int)))), false⟩)]) (st_own (i := ⟨.arr 64 5, 64, 64, (eA64u8 (vrep 64 (0 : Int)))⟩) rfl rfl (fun _ => rfl) rfl hs1620) (hs1620.c rfl) rfl ?_
      refine a_val (v := (.bool true)) (u := []) rfl trivial rfl ?_
      refine a_nil ?_
      refine a_next rfl ?_
      refine a_ret ?_
      refine t_ret ?_
      have hl1621 : LdOk [] (eA64u8 ((vrep 64 (0 : Int)))) [] 64 true (eA64u8 ((vrep 64 (0 : Int)))) := (.nil rfl rfl rfl)
      refine ⟨.inr rfl, ?_⟩
      rw [Try.results151]
      cases h
      exact ⟨_, _, _, _, _, ld_own (i := ⟨.arr 64 5, 64, 64, (eA64u8 (vrep 64 (0 : Int)))⟩) rfl rfl rfl hl1621, hl1621.c, .inl ⟨rfl, .inl rfl⟩, rfl, ⟨_, _, _, _, _, rfl, trivial, .inl ⟨rfl, .inl rfl⟩, rfl, rfl⟩⟩
  · have h := hy18
    refine a_region ?_
    refine a_val (v := (.int .i64 r9)) (u := []) rfl trivial rfl ?_
    refine a_val (v := (.bool ((decide (r9 < 0))))) (u := []) rfl trivial rfl ?_
    refine a_val (v := (.bool ((decide (r9 < 0))))) (u := []) rfl trivial rfl ?_
    cases hb20 : (decide (r9 < 0))
    · have h := ite_f hb20 h
      refine a_gval rfl (v := (.int .i64 r12)) (u := []) rfl trivial rfl ?_
      refine a_gval rfl (v := (.bool ((decide (r12 < 0))))) (u := []) rfl trivial rfl ?_
      refine a_val (v := (.bool ((decide (r12 < 0))))) (u := []) rfl trivial rfl ?_
      refine a_nil ?_
      exact j_leaf ((decide (r12 < 0))) (Option.some.inj h) (by kernel_rfl)
    · have h := ite_t hb20 h
      refine a_gskip rfl ?_
      refine a_gskip rfl ?_
      refine a_val (v := (.bool true)) (u := []) rfl trivial rfl ?_
      refine a_nil ?_
      exact j_leaf true (Option.some.inj h) (by kernel_rfl)
def spec_l01Bezout_c : ACode := (.seq (.region 0 [⟨some 4, .box 24 (.tmp 1), none, []⟩, ⟨some 5, .box 24 (.tmp 2), none, []⟩, ⟨some 6, .alloc 24, none, []⟩, ⟨some 7, .alloc 24, none, []⟩, ⟨some 8, .alloc 24, none, []⟩] false) (.seq (.region 1 [⟨some 22, .call 0 (.func 123) [], none, []⟩, ⟨some 23, .build 24 [], none, []⟩, ⟨some 24, .build 24 [], none, []⟩, ⟨some 25, .call 0 (.func 123) [], none, []⟩, ⟨some 9, .alloc 24, none, []⟩, ⟨some 10, .alloc 24, none, []⟩, ⟨some 11, .alloc 24, none, []⟩, ⟨some 12, .alloc 24, none, []⟩, ⟨none, .store 24 (.tmp 9) (.tmp 22), none, []⟩, ⟨none, .store 24 (.tmp 10) (.tmp 23), none, []⟩, ⟨none, .store 24 (.tmp 11) (.tmp 24), none, []⟩, ⟨none, .store 24 (.tmp 12) (.tmp 25), none, []⟩] false) (.seq (.block 0 (.loop (.seq (.seq (.region 2 [⟨some 26, .load 24 (.tmp 5), none, []⟩, ⟨some 27, .call 0 (.func 81) [(.tmp 26)], none, []⟩, ⟨some 28, .bin .geq 2 (.tmp 27) (.const (.int .i64 0)), none, []⟩] false) (.cond (.tmp 28) .skip (.exit 0))) (.block 1 (.seq (.region 3 [⟨some 30, .mov (.tmp 0), none, []⟩, ⟨some 31, .load 24 (.tmp 4), none, []⟩, ⟨some 32, .load 24 (.tmp 5), none, []⟩, ⟨some 33, .call 0 (.func 103) [(.tmp 30), (.tmp 31), (.tmp 32)], none, []⟩, ⟨some 29, .mov (.tmp 33), none, []⟩, ⟨some 34, .extract (.tmp 29) 0, none, []⟩, ⟨some 35, .extract (.tmp 29) 1, none, []⟩, ⟨some 13, .alloc 24, none, []⟩, ⟨some 14, .alloc 24, none, []⟩, ⟨none, .store 24 (.tmp 13) (.tmp 34), none, []⟩, ⟨none, .store 24 (.tmp 14) (.tmp 35), none, []⟩] false) (.seq (.region 4 [⟨some 37, .mov (.tmp 0), none, []⟩, ⟨some 38, .load 24 (.tmp 13), none, []⟩, ⟨some 39, .load 24 (.tmp 10), none, []⟩, ⟨some 40, .call 0 (.func 151) [(.tmp 37), (.tmp 38), (.tmp 39)], none, []⟩, ⟨some 36, .mov (.tmp 40), none, []⟩, ⟨some 41, .extract (.tmp 36) 0, none, []⟩, ⟨some 42, .extract (.tmp 36) 1, none, []⟩, ⟨some 15, .alloc 24, none, []⟩, ⟨none, .store 24 (.tmp 15) (.tmp 41), none, []⟩, ⟨some 16, .asg 0 (.tmp 42) 4, none, []⟩] false) (.seq (.region 5 [⟨some 44, .mov (.tmp 0), none, []⟩, ⟨some 45, .load 24 (.tmp 13), none, []⟩, ⟨some 46, .load 24 (.tmp 12), none, []⟩, ⟨some 47, .call 0 (.func 151) [(.tmp 44), (.tmp 45), (.tmp 46)], none, []⟩, ⟨some 43, .mov (.tmp 47), none, []⟩, ⟨some 48, .extract (.tmp 43) 0, none, []⟩, ⟨some 49, .extract (.tmp 43) 1, none, []⟩, ⟨some 17, .alloc 24, none, []⟩, ⟨none, .store 24 (.tmp 17) (.tmp 48), none, []⟩, ⟨some 18, .asg 0 (.tmp 49) 4, none, []⟩] false) (.seq (.region 6 [⟨some 50, .mov (.tmp 0), none, []⟩, ⟨some 51, .load 24 (.tmp 9), none, []⟩, ⟨some 52, .load 24 (.tmp 15), none, []⟩, ⟨some 53, .call 0 (.func 99) [(.tmp 50), (.tmp 51), (.tmp 52), (.const (.int .i64 (-1)))], none, [0, 1, 2]⟩, ⟨some 54, .mov (.tmp 0), none, []⟩, ⟨some 55, .load 24 (.tmp 11), none, []⟩, ⟨some 56, .load 24 (.tmp 17), none, []⟩, ⟨some 57, .call 0 (.func 99) [(.tmp 54), (.tmp 55), (.tmp 56), (.const (.int .i64 (-1)))], none, [4, 5, 6, 3]⟩, ⟨some 19, .alloc 24, none, []⟩, ⟨some 20, .alloc 24, none, []⟩, ⟨none, .store 24 (.tmp 19) (.tmp 53), none, [8, 3, 7, 0, 1, 2, 3, 8, 9]⟩, ⟨none, .store 24 (.tmp 20) (.tmp 57), none, [9, 7, 10, 0, 1, 2, 3, 4, 5, 6, 7, 8, 9, 10]⟩] true) (.seq (.region 7 [⟨some 58, .load 24 (.tmp 5), none, []⟩, ⟨none, .store 24 (.tmp 4) (.tmp 58), none, []⟩] false) (.seq (.region 8 [⟨some 59, .load 24 (.tmp 14), none, []⟩, ⟨none, .store 24 (.tmp 5) (.tmp 59), none, []⟩] false) (.seq (.region 9 [⟨some 60, .load 24 (.tmp 10), none, []⟩, ⟨none, .store 24 (.tmp 9) (.tmp 60), none, []⟩] false) (.seq (.region 10 [⟨some 61, .load 24 (.tmp 12), none, []⟩, ⟨none, .store 24 (.tmp 11) (.tmp 61), none, []⟩] false) (.seq (.region 11 [⟨some 62, .load 24 (.tmp 19), none, []⟩, ⟨none, .store 24 (.tmp 10) (.tmp 62), none, []⟩] false) (.region 12 [⟨some 63, .load 24 (.tmp 20), none, []⟩, ⟨none, .store 24 (.tmp 12) (.tmp 63), none, []⟩] false)))))))))))))) (.seq (.region 13 [⟨some 64, .mov (.tmp 0), none, []⟩, ⟨some 65, .load 24 (.tmp 4), none, []⟩, ⟨some 66, .call 0 (.func 81) [(.tmp 65)], none, []⟩, ⟨some 67, .indexAddr 24 (.tmp 4) (.tmp 66), none, []⟩, ⟨some 68, .load 5 (.tmp 67), none, []⟩, ⟨some 69, .call 0 (.func 104) [(.tmp 64), (.tmp 68)], none, []⟩, ⟨some 70, .conv 5 2 (.tmp 69), none, []⟩, ⟨some 21, .asg 0 (.tmp 70) 2, none, []⟩] false) (.seq (.region 14 [⟨some 71, .mov (.tmp 0), none, []⟩, ⟨some 72, .build 24 [], none, []⟩, ⟨some 73, .load 24 (.tmp 4), none, []⟩, ⟨some 74, .mov (.tmp 21), none, []⟩, ⟨some 75, .call 0 (.func 99) [(.tmp 71), (.tmp 72), (.tmp 73), (.tmp 74)], none, [0, 1, 2, 3]⟩, ⟨some 76, .mov (.tmp 0), none, []⟩, ⟨some 77, .build 24 [], none, []⟩, ⟨some 78, .load 24 (.tmp 9), none, []⟩, ⟨some 79, .mov (.tmp 21), none, []⟩, ⟨some 80, .call 0 (.func 99) [(.tmp 76), (.tmp 77), (.tmp 78), (.tmp 79)], none, [5, 6, 7, 8, 4]⟩, ⟨some 81, .mov (.tmp 0), none, []⟩, ⟨some 82, .build 24 [], none, []⟩, ⟨some 83, .load 24 (.tmp 11), none, []⟩, ⟨some 84, .mov (.tmp 21), none, []⟩, ⟨some 85, .call 0 (.func 99) [(.tmp 81), (.tmp 82), (.tmp 83), (.tmp 84)], none, [10, 11, 12, 13, 9]⟩, ⟨none, .store 24 (.tmp 6) (.tmp 75), none, [4, 14, 0, 1, 2, 3, 4]⟩, ⟨none, .store 24 (.tmp 7) (.tmp 80), none, [9, 15, 0, 1, 2, 3, 4, 5, 6, 7, 8, 9, 15]⟩, ⟨none, .store 24 (.tmp 8) (.tmp 85), none, [14, 16, 0, 1, 2, 3, 4, 5, 6, 7, 8, 9, 10, 11, 12, 13, 14, 15, 16]⟩] true) .ret)))))
def spec_l01Bezout_L : Live := [(0, [0, 1, 2]), (1, [0, 4, 5, 6, 7, 8]), (2, [0, 4, 5, 6, 7, 8, 9, 10, 11, 12]), (3, [0, 4, 5, 6, 7, 8, 9, 10, 11, 12]), (4, [0, 4, 5, 6, 7, 8, 9, 10, 11, 12, 13, 14]), (5, [0, 4, 5, 6, 7, 8, 9, 10, 11, 12, 13, 14, 15]), (6, [0, 4, 5, 6, 7, 8, 9, 10, 11, 12, 14, 15, 17]), (7, [0, 4, 5, 6, 7, 8, 9, 10, 11, 12, 14, 19, 20]), (8, [0, 4, 5, 6, 7, 8, 9, 10, 11, 12, 14, 19, 20]), (9, [0, 4, 5, 6, 7, 8, 9, 10, 11, 12, 19, 20]), (10, [0, 4, 5, 6, 7, 8, 9, 10, 11, 12, 19, 20]), (11, [0, 4, 5, 6, 7, 8, 9, 10, 11, 12, 19, 20]), (12, [0, 4, 5, 6, 7, 8, 9, 10, 11, 12, 20]), (13, [0, 4, 6, 7, 8, 9, 11]), (14, [0, 4, 6, 7, 8, 9, 11, 21]), (100028, [0, 4, 5, 6, 7, 8, 9, 10, 11, 12, 28])]
theorem spec_l01Bezout_body : Try.f133.body = some (Try.f133.body.getD .skip) := by kernel_rfl
theorem spec_l01Bezout_strip : strip [] (Try.f133.body.getD .skip) = spec_l01Bezout_c := by kernel_rfl
noncomputable def spec_l01Bezout_l1 (a0 : Int) (x233 : (Vec Int 64)) (x234 : (Vec Int 64)) (x235 : (Vec Int 64)) (x236 : (Vec Int 64)) (x237 : (Vec Int 64)) (x238 : (Vec Int 64)) : Option (((Vec Int 64) × (Vec Int 64) × (Vec Int 64) × (Vec Int 64) × (Vec Int 64) × (Vec Int 64)) ⊕ ((Vec Int 64) × (Vec Int 64) × (Vec Int 64))) :=
  (Option.bind (spec_l01Deg x234) fun r295 => (if (decide (r295 ≥ 0)) then (Option.bind (spec_l01Divide a0 x233 x234) fun r300 => (Option.bind (spec_l01Times a0 r300.1 x236) fun r306 => (Option.bind (spec_l01Times a0 r300.1 x238) fun r311 => (Option.bind (spec_l01Add a0 x235 r306.1 (-1)) fun r326 => (Option.bind (spec_l01Add a0 x237 r311.1 (-1)) fun r330 => (some (.inl (x234, r300.2, x236, r326, x238, r330)))))))) else (some (.inr (x233, x235, x237)))))
noncomputable def spec_l01Bezout (a0 : Int) (a1 : (Vec Int 64)) (a2 : (Vec Int 64)) : Option ((Vec Int 64) × (Vec Int 64) × (Vec Int 64)) :=
  (Option.bind (spec_l01One) fun r1 => (Option.bind (spec_l01One) fun r3 => (Option.bind (α := ((Vec Int 64) × (Vec Int 64) × (Vec Int 64))) ((loopM (fun s : ((Vec Int 64) × (Vec Int 64) × (Vec Int 64) × (Vec Int 64) × (Vec Int 64) × (Vec Int 64)) => spec_l01Bezout_l1 a0 s.1 s.2.1 s.2.2.1 s.2.2.2.1 s.2.2.2.2.1 s.2.2.2.2.2) (a1, a2, r1, (vrep 64 (0 : Int)), (vrep 64 (0 : Int)), r3))) fun ⟨x175, x176, x177⟩ => (Option.bind (spec_l01Deg x175) fun r348 => (ifp (0 ≤ r348 ∧ r348 < ((64 : Nat) : Int)) ((Option.bind (spec_l01Inverse a0 (rd x175.1 r348.toNat)) fun r352 => (Option.bind (spec_l01Add a0 ((vrep 64 (0 : Int))) x175 (IntKind.i64.wrap r352)) fun r367 => (Option.bind (spec_l01Add a0 ((vrep 64 (0 : Int))) x176 (IntKind.i64.wrap r352)) fun r370 => (Option.bind (spec_l01Add a0 ((vrep 64 (0 : Int))) x177 (IntKind.i64.wrap r352)) fun r373 => (some (r367, r370, r373))))))))))))
set_option maxHeartbeats 16000000 in
theorem spec_l01Bezout_ok (a0 : Int) (a1 : (Vec Int 64)) (a2 : (Vec Int 64)) (r : ((Vec Int 64) × (Vec Int 64) × (Vec Int 64))) (h : spec_l01Bezout a0 a1 a2 = some r) : Den Try.prog 133 [(.int .i64 a0), (eA64u8 a1), (eA64u8 a2)] { r := (.tuple [(eA64u8 r.1), (eA64u8 r.2.1), (eA64u8 r.2.2)]) } := by
  refine den_of (rs := [(eA64u8 r.1), (eA64u8 r.2.1), (eA64u8 r.2.2)]) (ac := spec_l01Bezout_c) (L := spec_l01Bezout_L) (n := 86) (m := []) good Try.func133 spec_l01Bezout_body (by kernel_rfl) Try.ntmps133 rfl rfl spec_l01Bezout_strip rfl rfl ?_
  refine a_st (σ' := ⟨[(0, (.int .i64 a0)), (1, (eA64u8 a1)), (2, (eA64u8 a2))], []⟩) (by kernel_rfl) ?_
  unfold spec_l01Bezout_c
  refine a_seq ?_
  refine a_region ?_
  refine a_val (v := (.own 1400 [] [])) (u := [(1400, some ⟨(eA64u8 a1), false⟩)]) rfl trivial rfl ?_
  refine a_val (v := (.own 1500 [] [])) (u := [(1500, some ⟨(eA64u8 a2), false⟩)]) rfl trivial rfl ?_
  refine a_val (v := (.own 1600 [] [])) (u := [(1600, some ⟨(eA64u8 ((vrep 64 (0 : Int)))), false⟩)]) rfl trivial rfl ?_
  refine a_val (v := (.own 1700 [] [])) (u := [(1700, some ⟨(eA64u8 ((vrep 64 (0 : Int)))), false⟩)]) rfl trivial rfl ?_
  refine a_val (v := (.own 1800 [] [])) (u := [(1800, some ⟨(eA64u8 ((vrep 64 (0 : Int)))), false⟩)]) rfl trivial rfl ?_
  refine a_nil ?_
  refine a_next (σ' := ⟨[(0, (.int .i64 a0)), (4, (.own 4 [] [])), (5, (.own 5 [] [])), (6, (.own 6 [] [])), (7, (.own 7 [] [])), (8, (.own 8 [] []))], [(4, some ⟨(eA64u8 a1), false⟩), (5, some ⟨(eA64u8 a2), false⟩), (6, some ⟨(eA64u8 ((vrep 64 (0 : Int)))), false⟩), (7, some ⟨(eA64u8 ((vrep 64 (0 : Int)))), false⟩), (8, some ⟨(eA64u8 ((vrep 64 (0 : Int)))), false⟩)]⟩) (by kernel_rfl) ?_
  refine a_seq ?_
  refine a_region ?_
  obtain ⟨r1, hr2, h⟩ := bind_some h
  refine a_call (args := []) (u := []) (r := (eA64u8 r1)) rfl rfl (spec_l01One_ok r1 hr2) rfl ?_
  refine a_val (v := (eA64u8 ((vrep 64 (0 : Int))))) (u := []) rfl ⟨⟨_, rfl, rfl⟩, all_nil⟩ rfl ?_
  refine a_val (v := (eA64u8 ((vrep 64 (0 : Int))))) (u := []) rfl ⟨⟨_, rfl, rfl⟩, all_nil⟩ rfl ?_
  obtain ⟨r3, hr4, h⟩ := bind_some h
  refine a_call (args := []) (u := []) (r := (eA64u8 r3)) rfl rfl (spec_l01One_ok r3 hr4) rfl ?_
  refine a_val (v := (.own 1900 [] [])) (u := [(1900, some ⟨(eA64u8 ((vrep 64 (0 : Int)))), false⟩)]) rfl trivial rfl ?_
  refine a_val (v := (.own 2000 [] [])) (u := [(2000, some ⟨(eA64u8 ((vrep 64 (0 : Int)))), false⟩)]) rfl trivial rfl ?_
  refine a_val (v := (.own 2100 [] [])) (u := [(2100, some ⟨(eA64u8 ((vrep 64 (0 : Int)))), false⟩)]) rfl trivial rfl ?_
  refine a_val (v := (.own 2200 [] [])) (u := [(2200, some ⟨(eA64u8 ((vrep 64 (0 : Int)))), false⟩)]) rfl trivial rfl ?_
  have hs5 : StOk [] (eA64u8 ((vrep 64 (0 : Int)))) [] 64 (eA64u8 r1) (eA64u8 r1) := (.nil rfl rfl rfl rfl)
  refine a_val (v := .top) (u := [(1900, some ⟨(eA64u8 r1), false⟩)]) (st_own (i := ⟨.arr 64 5, 64, 64, (eA64u8 (vrep 64 (0 : Int)))⟩) rfl rfl (fun _ => rfl) rfl hs5) (hs5.c rfl) rfl ?_
  have hs6 : StOk [] (eA64u8 ((vrep 64 (0 : Int)))) [] 64 (eA64u8 ((vrep 64 (0 : Int)))) (eA64u8 ((vrep 64 (0 : Int)))) := (.nil rfl rfl rfl rfl)
  refine a_val (v := .top) (u := [(2000, some ⟨(eA64u8 ((vrep 64 (0 : Int)))), false⟩)]) (st_own (i := ⟨.arr 64 5, 64, 64, (eA64u8 (vrep 64 (0 : Int)))⟩) rfl rfl (fun _ => rfl) rfl hs6) (hs6.c rfl) rfl ?_
  have hs7 : StOk [] (eA64u8 ((vrep 64 (0 : Int)))) [] 64 (eA64u8 ((vrep 64 (0 : Int)))) (eA64u8 ((vrep 64 (0 : Int)))) := (.nil rfl rfl rfl rfl)
  refine a_val (v := .top) (u := [(2100, some ⟨(eA64u8 ((vrep 64 (0 : Int)))), false⟩)]) (st_own (i := ⟨.arr 64 5, 64, 64, (eA64u8 (vrep 64 (0 : Int)))⟩) rfl rfl (fun _ => rfl) rfl hs7) (hs7.c rfl) rfl ?_
  have hs8 : StOk [] (eA64u8 ((vrep 64 (0 : Int)))) [] 64 (eA64u8 r3) (eA64u8 r3) := (.nil rfl rfl rfl rfl)
  refine a_val (v := .top) (u := [(2200, some ⟨(eA64u8 r3), false⟩)]) (st_own (i := ⟨.arr 64 5, 64, 64, (eA64u8 (vrep 64 (0 : Int)))⟩) rfl rfl (fun _ => rfl) rfl hs8) (hs8.c rfl) rfl ?_
  refine a_nil ?_
  refine a_next (σ' := ⟨[(0, (.int .i64 a0)), (4, (.own 4 [] [])), (5, (.own 5 [] [])), (6, (.own 6 [] [])), (7, (.own 7 [] [])), (8, (.own 8 [] [])), (9, (.own 9 [] [])), (10, (.own 10 [] [])), (11, (.own 11 [] [])), (12, (.own 12 [] []))], [(4, some ⟨(eA64u8 a1), false⟩), (5, some ⟨(eA64u8 a2), false⟩), (6, some ⟨(eA64u8 ((vrep 64 (0 : Int)))), false⟩), (7, some ⟨(eA64u8 ((vrep 64 (0 : Int)))), false⟩), (8, some ⟨(eA64u8 ((vrep 64 (0 : Int)))), false⟩), (9, some ⟨(eA64u8 r1), false⟩), (10, some ⟨(eA64u8 ((vrep 64 (0 : Int)))), false⟩), (11, some ⟨(eA64u8 ((vrep 64 (0 : Int)))), false⟩), (12, some ⟨(eA64u8 r3), false⟩)]⟩) (by kernel_rfl) ?_
  obtain ⟨y178, hy179, hk180⟩ := bind_some h
  clear h
  refine a_join (emb := fun (s : ((Vec Int 64) × (Vec Int 64) × (Vec Int 64))) => ⟨[(0, (.int .i64 a0)), (4, (.own 4 [] [])), (6, (.own 6 [] [])), (7, (.own 7 [] [])), (8, (.own 8 [] [])), (9, (.own 9 [] [])), (11, (.own 11 [] []))], [(4, some ⟨(eA64u8 s.1), false⟩), (6, some ⟨(eA64u8 ((vrep 64 (0 : Int)))), false⟩), (7, some ⟨(eA64u8 ((vrep 64 (0 : Int)))), false⟩), (8, some ⟨(eA64u8 ((vrep 64 (0 : Int)))), false⟩), (9, some ⟨(eA64u8 s.2.1), false⟩), (11, some ⟨(eA64u8 s.2.2), false⟩)]⟩) (pre := fun s => s = y178) ?_ ?_
  · rintro ⟨x175, x176, x177⟩ rfl
    have h := hk180
    refine a_st (σ' := ⟨[(0, (.int .i64 a0)), (4, (.own 4 [] [])), (6, (.own 6 [] [])), (7, (.own 7 [] [])), (8, (.own 8 [] [])), (9, (.own 9 [] [])), (11, (.own 11 [] []))], [(4, some ⟨(eA64u8 x175), false⟩), (6, some ⟨(eA64u8 ((vrep 64 (0 : Int)))), false⟩), (7, some ⟨(eA64u8 ((vrep 64 (0 : Int)))), false⟩), (8, some ⟨(eA64u8 ((vrep 64 (0 : Int)))), false⟩), (9, some ⟨(eA64u8 x176), false⟩), (11, some ⟨(eA64u8 x177), false⟩)]⟩) (by kernel_rfl) ?_
    refine a_seq ?_
    refine a_region ?_
    refine a_val (v := (.int .i64 a0)) (u := []) rfl trivial rfl ?_
    have hl347 : LdOk [] (eA64u8 x175) [] 64 true (eA64u8 x175) := (.nil rfl rfl rfl)
    refine a_val (v := (eA64u8 x175)) (u := []) (ld_own (i := ⟨.arr 64 5, 64, 64, (eA64u8 (vrep 64 (0 : Int)))⟩) rfl rfl rfl hl347) hl347.c rfl ?_
    obtain ⟨r348, hr349, h⟩ := bind_some h
    refine a_call (args := [(eA64u8 x175)]) (u := []) (r := (.int .i64 r348)) rfl rfl (spec_l01Deg_ok x175 r348 hr349) rfl ?_
    obtain ⟨hc350, h⟩ := ifp_some h
    refine a_val (v := (.own 4 [r348.toNat] [r348.toNat * 1])) (u := []) rfl hc350 rfl ?_
    have hl351 : LdOk [r348.toNat] (eA64u8 x175) [r348.toNat * 1] 1 false (.int .u8 (rd x175.1 r348.toNat)) := (.arr (vlt x175 hc350) rfl (.nil rfl rfl rfl))
    refine a_val (v := (.int .u8 (rd x175.1 r348.toNat))) (u := []) (ld_own (i := ⟨.int .u8, 1, 1, (.int .u8 0)⟩) rfl rfl rfl hl351) hl351.c rfl ?_
    obtain ⟨r352, hr353, h⟩ := bind_some h
    refine a_call (args := [(.int .i64 a0), (.int .u8 (rd x175.1 r348.toNat))]) (u := []) (r := (.int .u8 r352)) rfl rfl (spec_l01Inverse_ok a0 (rd x175.1 r348.toNat) r352 hr353) rfl ?_
    refine a_val (v := (.int .i64 (IntKind.i64.wrap r352))) (u := []) rfl trivial rfl ?_
    refine a_val (v := (.int .i64 (IntKind.i64.wrap r352))) (u := []) rfl trivial rfl ?_
    refine a_nil ?_
    refine a_next (σ' := ⟨[(0, (.int .i64 a0)), (4, (.own 4 [] [])), (6, (.own 6 [] [])), (7, (.own 7 [] [])), (8, (.own 8 [] [])), (9, (.own 9 [] [])), (11, (.own 11 [] [])), (21, (.int .i64 (IntKind.i64.wrap r352)))], [(4, some ⟨(eA64u8 x175), false⟩), (6, some ⟨(eA64u8 ((vrep 64 (0 : Int)))), false⟩), (7, some ⟨(eA64u8 ((vrep 64 (0 : Int)))), false⟩), (8, some ⟨(eA64u8 ((vrep 64 (0 : Int)))), false⟩), (9, some ⟨(eA64u8 x176), false⟩), (11, some ⟨(eA64u8 x177), false⟩)]⟩) (by kernel_rfl) ?_
    refine a_seq ?_
    refine a_draw [⟨[], [], [], []⟩, ⟨[], [], [], []⟩, ⟨[4], [], [], []⟩, ⟨[], [], [], []⟩, ⟨[], [], [], [0, 1, 2, 3]⟩, ⟨[], [], [], []⟩, ⟨[], [], [], []⟩, ⟨[9], [], [], []⟩, ⟨[], [], [], []⟩, ⟨[], [], [], [0, 1, 2, 3, 4, 5, 6, 7, 8]⟩, ⟨[], [], [], []⟩, ⟨[], [], [], []⟩, ⟨[11], [], [], []⟩, ⟨[], [], [], []⟩, ⟨[], [], [], [0, 1, 2, 3, 4, 5, 6, 7, 8, 9, 10, 11, 12, 13]⟩, ⟨[6], [6], [], [0, 1, 2, 3, 4, 5, 6, 7, 8, 9, 10, 11, 12, 13, 14]⟩, ⟨[7], [7], [], [0, 1, 2, 3, 4, 5, 6, 7, 8, 9, 10, 11, 12, 13, 14, 15]⟩, ⟨[8], [8], [], [0, 1, 2, 3, 4, 5, 6, 7, 8, 9, 10, 11, 12, 13, 14, 15, 16]⟩] (by kernel_rfl) ?_
    refine d_cons ?_
    refine a_val (v := (.int .i64 a0)) (u := []) rfl trivial rfl ?_
    refine d_next (by kernel_rfl) ?_
    refine d_cons ?_
    refine a_val (v := (eA64u8 ((vrep 64 (0 : Int))))) (u := []) rfl ⟨⟨_, rfl, rfl⟩, all_nil⟩ rfl ?_
    refine d_next (by kernel_rfl) ?_
    refine d_cons ?_
    have hl366 : LdOk [] (eA64u8 x175) [] 64 true (eA64u8 x175) := (.nil rfl rfl rfl)
    refine a_val (v := (eA64u8 x175)) (u := []) (ld_own (i := ⟨.arr 64 5, 64, 64, (eA64u8 (vrep 64 (0 : Int)))⟩) rfl rfl rfl hl366) hl366.c rfl ?_
    refine d_next (by kernel_rfl) ?_
    refine d_cons ?_
    refine a_val (v := (.int .i64 (IntKind.i64.wrap r352))) (u := []) rfl trivial rfl ?_
    refine d_next (by kernel_rfl) ?_
    refine d_cons ?_
    obtain ⟨r367, hr368, h⟩ := bind_some h
    refine a_call (args := [(.int .i64 a0), (eA64u8 ((vrep 64 (0 : Int)))), (eA64u8 x175), (.int .i64 (IntKind.i64.wrap r352))]) (u := []) (r := (eA64u8 r367)) rfl rfl (spec_l01Add_ok a0 ((vrep 64 (0 : Int))) x175 (IntKind.i64.wrap r352) r367 hr368) rfl ?_
    refine d_next (by kernel_rfl) ?_
    refine d_cons ?_
    refine a_val (v := (.int .i64 a0)) (u := []) rfl trivial rfl ?_
    refine d_next (by kernel_rfl) ?_
    refine d_cons ?_
    refine a_val (v := (eA64u8 ((vrep 64 (0 : Int))))) (u := []) rfl ⟨⟨_, rfl, rfl⟩, all_nil⟩ rfl ?_
    refine d_next (by kernel_rfl) ?_
    refine d_cons ?_
    have hl369 : LdOk [] (eA64u8 x176) [] 64 true (eA64u8 x176) := (.nil rfl rfl rfl)
    refine a_val (v := (eA64u8 x176)) (u := []) (ld_own (i := ⟨.arr 64 5, 64, 64, (eA64u8 (vrep 64 (0 : Int)))⟩) rfl rfl rfl hl369) hl369.c rfl ?_
    refine d_next (by kernel_rfl) ?_
    refine d_cons ?_
    refine a_val (v := (.int .i64 (IntKind.i64.wrap r352))) (u := []) rfl trivial rfl ?_
    refine d_next (by kernel_rfl) ?_
    refine d_cons ?_
    obtain ⟨r370, hr371, h⟩ := bind_some h
    refine a_call (args := [(.int .i64 a0), (eA64u8 ((vrep 64 (0 : Int)))), (eA64u8 x176), (.int .i64 (IntKind.i64.wrap r352))]) (u := []) (r := (eA64u8 r370)) rfl rfl (spec_l01Add_ok a0 ((vrep 64 (0 : Int))) x176 (IntKind.i64.wrap r352) r370 hr371) rfl ?_
    refine d_next (by kernel_rfl) ?_
    refine d_cons ?_
    refine a_val (v := (.int .i64 a0)) (u := []) rfl trivial rfl ?_
    refine d_next (by kernel_rfl) ?_
    refine d_cons ?_
    refine a_val (v := (eA64u8 ((vrep 64 (0 : Int))))) (u := []) rfl ⟨⟨_, rfl, rfl⟩, all_nil⟩ rfl ?_
    refine d_next (by kernel_rfl) ?_
    refine d_cons ?_
    have hl372 : LdOk [] (eA64u8 x177) [] 64 true (eA64u8 x177) := (.nil rfl rfl rfl)
    refine a_val (v := (eA64u8 x177)) (u := []) (ld_own (i := ⟨.arr 64 5, 64, 64, (eA64u8 (vrep 64 (0 : Int)))⟩) rfl rfl rfl hl372) hl372.c rfl ?_
    refine d_next (by kernel_rfl) ?_
    refine d_cons ?_
    refine a_val (v := (.int .i64 (IntKind.i64.wrap r352))) (u := []) rfl trivial rfl ?_
    refine d_next (by kernel_rfl) ?_
    refine d_cons ?_
    obtain ⟨r373, hr374, h⟩ := bind_some h
    refine a_call (args := [(.int .i64 a0), (eA64u8 ((vrep 64 (0 : Int)))), (eA64u8 x177), (.int .i64 (IntKind.i64.wrap r352))]) (u := []) (r := (eA64u8 r373)) rfl rfl (spec_l01Add_ok a0 ((vrep 64 (0 : Int))) x177 (IntKind.i64.wrap r352) r373 hr374) rfl ?_
    refine d_next (by kernel_rfl) ?_
    refine d_cons ?_
    have hs375 : StOk [] (eA64u8 ((vrep 64 (0 : Int)))) [] 64 (eA64u8 r367) (eA64u8 r367) := (.nil rfl rfl rfl rfl)
    refine a_val (v := .top) (u := [(6, some ⟨(eA64u8 r367), false⟩)]) (st_own (i := ⟨.arr 64 5, 64, 64, (eA64u8 (vrep 64 (0 : Int)))⟩) rfl rfl (fun _ => rfl) rfl hs375) (hs375.c rfl) rfl ?_
    refine d_next (by kernel_rfl) ?_
    refine d_cons ?_
    have hs376 : StOk [] (eA64u8 ((vrep 64 (0 : Int)))) [] 64 (eA64u8 r370) (eA64u8 r370) := (.nil rfl rfl rfl rfl)
    refine a_val (v := .top) (u := [(7, some ⟨(eA64u8 r370), false⟩)]) (st_own (i := ⟨.arr 64 5, 64, 64, (eA64u8 (vrep 64 (0 : Int)))⟩) rfl rfl (fun _ => rfl) rfl hs376) (hs376.c rfl) rfl ?_
    refine d_next (by kernel_rfl) ?_
    refine d_cons ?_
    have hs377 : StOk [] (eA64u8 ((vrep 64 (0 : Int)))) [] 64 (eA64u8 r373) (eA64u8 r373) := (.nil rfl rfl rfl rfl)
    refine a_val (v := .top) (u := [(8, some ⟨(eA64u8 r373), false⟩)]) (st_own (i := ⟨.arr 64 5, 64, 64, (eA64u8 (vrep 64 (0 : Int)))⟩) rfl rfl (fun _ => rfl) rfl hs377) (hs377.c rfl) rfl ?_
    refine d_next (by kernel_rfl) ?_
    refine d_nil ?_
    refine a_next rfl ?_
    refine a_ret ?_
    have hl378 : LdOk [] (eA64u8 r367) [] 64 true (eA64u8 r367) := (.nil rfl rfl rfl)
    have hl379 : LdOk [] (eA64u8 r370) [] 64 true (eA64u8 r370) := (.nil rfl rfl rfl)
    have hl380 : LdOk [] (eA64u8 r373) [] 64 true (eA64u8 r373) := (.nil rfl rfl rfl)
    refine ⟨.inr rfl, ?_⟩
    rw [Try.results133]
    cases h
    exact ⟨_, _, _, _, _, ld_own (i := ⟨.arr 64 5, 64, 64, (eA64u8 (vrep 64 (0 : Int)))⟩) rfl rfl rfl hl378, hl378.c, .inl ⟨rfl, .inl rfl⟩, rfl, ⟨_, _, _, _, _, ld_own (i := ⟨.arr 64 5, 64, 64, (eA64u8 (vrep 64 (0 : Int)))⟩) rfl rfl rfl hl379, hl379.c, .inl ⟨rfl, .inl rfl⟩, rfl, ⟨_, _, _, _, _, ld_own (i := ⟨.arr 64 5, 64, 64, (eA64u8 (vrep 64 (0 : Int)))⟩) rfl rfl rfl hl380, hl380.c, .inl ⟨rfl, .inl rfl⟩, rfl, rfl⟩⟩⟩
  · have h := hy179
    refine a_block ?_
    refine a_loop (emb := fun (s : ((Vec Int 64) × (Vec Int 64) × (Vec Int 64) × (Vec Int 64) × (Vec Int 64) × (Vec Int 64))) => ⟨[(0, (.int .i64 a0)), (4, (.own 4 [] [])), (5, (.own 5 [] [])), (6, (.own 6 [] [])), (7, (.own 7 [] [])), (8, (.own 8 [] [])), (9, (.own 9 [] [])), (10, (.own 10 [] [])), (11, (.own 11 [] [])), (12, (.own 12 [] []))], [(4, some ⟨(eA64u8 s.1), false⟩), (5, some ⟨(eA64u8 s.2.1), false⟩), (6, some ⟨(eA64u8 ((vrep 64 (0 : Int)))), false⟩), (7, some ⟨(eA64u8 ((vrep 64 (0 : Int)))), false⟩), (8, some ⟨(eA64u8 ((vrep 64 (0 : Int)))), false⟩), (9, some ⟨(eA64u8 s.2.2.1), false⟩), (10, some ⟨(eA64u8 s.2.2.2.1), false⟩), (11, some ⟨(eA64u8 s.2.2.2.2.1), false⟩), (12, some ⟨(eA64u8 s.2.2.2.2.2), false⟩)]⟩) (body := (fun s : ((Vec Int 64) × (Vec Int 64) × (Vec Int 64) × (Vec Int 64) × (Vec Int 64) × (Vec Int 64)) => spec_l01Bezout_l1 a0 s.1 s.2.1 s.2.2.1 s.2.2.2.1 s.2.2.2.2.1 s.2.2.2.2.2)) (G := fun q => some q = some y178) h rfl ?_ (by kernel_rfl)
    rintro X291 ⟨x233, x234, x235, x236, x237, x238⟩ x292 h hX293
    have h : spec_l01Bezout_l1 a0 x233 x234 x235 x236 x237 x238 = some x292 := h
    refine a_st (σ' := ⟨[(0, (.int .i64 a0)), (4, (.own 4 [] [])), (5, (.own 5 [] [])), (6, (.own 6 [] [])), (7, (.own 7 [] [])), (8, (.own 8 [] [])), (9, (.own 9 [] [])), (10, (.own 10 [] [])), (11, (.own 11 [] [])), (12, (.own 12 [] []))], [(4, some ⟨(eA64u8 x233), false⟩), (5, some ⟨(eA64u8 x234), false⟩), (6, some ⟨(eA64u8 ((vrep 64 (0 : Int)))), false⟩), (7, some ⟨(eA64u8 ((vrep 64 (0 : Int)))), false⟩), (8, some ⟨(eA64u8 ((vrep 64 (0 : Int)))), false⟩), (9, some ⟨(eA64u8 x235), false⟩), (10, some ⟨(eA64u8 x236), false⟩), (11, some ⟨(eA64u8 x237), false⟩), (12, some ⟨(eA64u8 x238), false⟩)]⟩) (by kernel_rfl) ?_
    refine a_seq ?_
    refine a_seq ?_
    refine a_region ?_
    have hl294 : LdOk [] (eA64u8 x234) [] 64 true (eA64u8 x234) := (.nil rfl rfl rfl)
    refine a_val (v := (eA64u8 x234)) (u := []) (ld_own (i := ⟨.arr 64 5, 64, 64, (eA64u8 (vrep 64 (0 : Int)))⟩) rfl rfl rfl hl294) hl294.c rfl ?_
    obtain ⟨r295, hr296, h⟩ := bind_some h
    refine a_call (args := [(eA64u8 x234)]) (u := []) (r := (.int .i64 r295)) rfl rfl (spec_l01Deg_ok x234 r295 hr296) rfl ?_
    refine a_val (v := (.bool ((decide (r295 ≥ 0))))) (u := []) rfl trivial rfl ?_
    refine a_nil ?_
    refine a_next (σ' := ⟨[(0, (.int .i64 a0)), (4, (.own 4 [] [])), (5, (.own 5 [] [])), (6, (.own 6 [] [])), (7, (.own 7 [] [])), (8, (.own 8 [] [])), (9, (.own 9 [] [])), (10, (.own 10 [] [])), (11, (.own 11 [] [])), (12, (.own 12 [] [])), (28, (.bool ((decide (r295 ≥ 0)))))], [(4, some ⟨(eA64u8 x233), false⟩), (5, some ⟨(eA64u8 x234), false⟩), (6, some ⟨(eA64u8 ((vrep 64 (0 : Int)))), false⟩), (7, some ⟨(eA64u8 ((vrep 64 (0 : Int)))), false⟩), (8, some ⟨(eA64u8 ((vrep 64 (0 : Int)))), false⟩), (9, some ⟨(eA64u8 x235), false⟩), (10, some ⟨(eA64u8 x236), false⟩), (11, some ⟨(eA64u8 x237), false⟩), (12, some ⟨(eA64u8 x238), false⟩)]⟩) (by kernel_rfl) ?_
    cases hb297 : (decide (r295 ≥ 0))
    · have h := ite_f hb297 h
      refine a_cond_f rfl ?_
      refine a_exit ?_
      refine t_exit ?_
      cases h
      have h := hX293
      refine t_exit ?_
      refine b_exit ?_
      exact j_leaf (x233, x235, x237) (Option.some.inj h) (by kernel_rfl)
    · have h := ite_t hb297 h
      refine a_cond_t rfl ?_
      refine a_skip ?_
      refine a_next (σ' := ⟨[(0, (.int .i64 a0)), (4, (.own 4 [] [])), (5, (.own 5 [] [])), (6, (.own 6 [] [])), (7, (.own 7 [] [])), (8, (.own 8 [] [])), (9, (.own 9 [] [])), (10, (.own 10 [] [])), (11, (.own 11 [] [])), (12, (.own 12 [] []))], [(4, some ⟨(eA64u8 x233), false⟩), (5, some ⟨(eA64u8 x234), false⟩), (6, some ⟨(eA64u8 ((vrep 64 (0 : Int)))), false⟩), (7, some ⟨(eA64u8 ((vrep 64 (0 : Int)))), false⟩), (8, some ⟨(eA64u8 ((vrep 64 (0 : Int)))), false⟩), (9, some ⟨(eA64u8 x235), false⟩), (10, some ⟨(eA64u8 x236), false⟩), (11, some ⟨(eA64u8 x237), false⟩), (12, some ⟨(eA64u8 x238), false⟩)]⟩) (by kernel_rfl) ?_
      refine a_block ?_
      refine a_seq ?_
      refine a_region ?_
      refine a_val (v := (.int .i64 a0)) (u := []) rfl trivial rfl ?_
      have hl298 : LdOk [] (eA64u8 x233) [] 64 true (eA64u8 x233) := (.nil rfl rfl rfl)
      refine a_val (v := (eA64u8 x233)) (u := []) (ld_own (i := ⟨.arr 64 5, 64, 64, (eA64u8 (vrep 64 (0 : Int)))⟩) rfl rfl rfl hl298) hl298.c rfl ?_
      have hl299 : LdOk [] (eA64u8 x234) [] 64 true (eA64u8 x234) := (.nil rfl rfl rfl)
      refine a_val (v := (eA64u8 x234)) (u := []) (ld_own (i := ⟨.arr 64 5, 64, 64, (eA64u8 (vrep 64 (0 : Int)))⟩) rfl rfl rfl hl299) hl299.c rfl ?_
      obtain ⟨r300, hr301, h⟩ := bind_some h
      refine a_call (args := [(.int .i64 a0), (eA64u8 x233), (eA64u8 x234)]) (u := []) (r := (.tuple [(eA64u8 r300.1), (eA64u8 r300.2)])) rfl rfl (spec_l01Divide_ok a0 x233 x234 r300 hr301) rfl ?_
      refine a_val (v := (.tuple [(eA64u8 r300.1), (eA64u8 r300.2)])) (u := []) rfl trivial rfl ?_
      refine a_val (v := (eA64u8 r300.1)) (u := []) rfl (Nat.le_of_ble_eq_true rfl) rfl ?_
      refine a_val (v := (eA64u8 r300.2)) (u := []) rfl (Nat.le_of_ble_eq_true rfl) rfl ?_
      refine a_val (v := (.own 2300 [] [])) (u := [(2300, some ⟨(eA64u8 ((vrep 64 (0 : Int)))), false⟩)]) rfl trivial rfl ?_
      refine a_val (v := (.own 2400 [] [])) (u := [(2400, some ⟨(eA64u8 ((vrep 64 (0 : Int)))), false⟩)]) rfl trivial rfl ?_
      have hs302 : StOk [] (eA64u8 ((vrep 64 (0 : Int)))) [] 64 (eA64u8 r300.1) (eA64u8 r300.1) := (.nil rfl rfl rfl rfl)
      refine a_val (v := .top) (u := [(2300, some ⟨(eA64u8 r300.1), false⟩)]) (st_own (i := ⟨.arr 64 5, 64, 64, (eA64u8 (vrep 64 (0 : Int)))⟩) rfl rfl (fun _ => rfl) rfl hs302) (hs302.c rfl) rfl ?_
      have hs303 : StOk [] (eA64u8 ((vrep 64 (0 : Int)))) [] 64 (eA64u8 r300.2) (eA64u8 r300.2) := (.nil rfl rfl rfl rfl)
      refine a_val (v := .top) (u := [(2400, some ⟨(eA64u8 r300.2), false⟩)]) (st_own (i := ⟨.arr 64 5, 64, 64, (eA64u8 (vrep 64 (0 : Int)))⟩) rfl rfl (fun _ => rfl) rfl hs303) (hs303.c rfl) rfl ?_
      refine a_nil ?_
      refine a_next (σ' := ⟨[(0, (.int .i64 a0)), (4, (.own 4 [] [])), (5, (.own 5 [] [])), (6, (.own 6 [] [])), (7, (.own 7 [] [])), (8, (.own 8 [] [])), (9, (.own 9 [] [])), (10, (.own 10 [] [])), (11, (.own 11 [] [])), (12, (.own 12 [] [])), (13, (.own 13 [] [])), (14, (.own 14 [] []))], [(4, some ⟨(eA64u8 x233), false⟩), (5, some ⟨(eA64u8 x234), false⟩), (6, some ⟨(eA64u8 ((vrep 64 (0 : Int)))), false⟩), (7, some ⟨(eA64u8 ((vrep 64 (0 : Int)))), false⟩), (8, some ⟨(eA64u8 ((vrep 64 (0 : Int)))), false⟩), (9, some ⟨(eA64u8 x235), false⟩), (10, some ⟨(eA64u8 x236), false⟩), (11, some ⟨(eA64u8 x237), false⟩), (12, some ⟨(eA64u8 x238), false⟩), (13, some ⟨(eA64u8 r300.1), false⟩), (14, some ⟨(eA64u8 r300.2), false⟩)]⟩) (by kernel_rfl) ?_
      refine a_seq ?_
      refine a_region ?_
      refine a_val (v := (.int .i64 a0)) (u := []) rfl trivial rfl ?_
      have hl304 : LdOk [] (eA64u8 r300.1) [] 64 true (eA64u8 r300.1) := (.nil rfl rfl rfl)
      refine a_val (v := (eA64u8 r300.1)) (u := []) (ld_own (i := ⟨.arr 64 5, 64, 64, (eA64u8 (vrep 64 (0 : Int)))⟩) rfl rfl rfl hl304) hl304.c rfl ?_
      have hl305 : LdOk [] (eA64u8 x236) [] 64 true (eA64u8 x236) := (.nil rfl rfl rfl)
      refine a_val (v := (eA64u8 x236)) (u := []) (ld_own (i := ⟨.arr 64 5, 64, 64, (eA64u8 (vrep 64 (0 : Int)))⟩) rfl rfl rfl hl305) hl305.c rfl ?_
      obtain ⟨r306, hr307, h⟩ := bind_some h
      refine a_call (args := [(.int .i64 a0), (eA64u8 r300.1), (eA64u8 x236)]) (u := []) (r := (.tuple [(eA64u8 r306.1), (.bool r306.2)])) rfl rfl (spec_l01Times_ok a0 r300.1 x236 r306 hr307) rfl ?_
      refine a_val (v := (.tuple [(eA64u8 r306.1), (.bool r306.2)])) (u := []) rfl trivial rfl ?_
      refine a_val (v := (eA64u8 r306.1)) (u := []) rfl (Nat.le_of_ble_eq_true rfl) rfl ?_
      refine a_val (v := (.bool r306.2)) (u := []) rfl (Nat.le_of_ble_eq_true rfl) rfl ?_
      refine a_val (v := (.own 2500 [] [])) (u := [(2500, some ⟨(eA64u8 ((vrep 64 (0 : Int)))), false⟩)]) rfl trivial rfl ?_
      have hs308 : StOk [] (eA64u8 ((vrep 64 (0 : Int)))) [] 64 (eA64u8 r306.1) (eA64u8 r306.1) := (.nil rfl rfl rfl rfl)
      refine a_val (v := .top) (u := [(2500, some ⟨(eA64u8 r306.1), false⟩)]) (st_own (i := ⟨.arr 64 5, 64, 64, (eA64u8 (vrep 64 (0 : Int)))⟩) rfl rfl (fun _ => rfl) rfl hs308) (hs308.c rfl) rfl ?_
      refine a_val (v := (.bool r306.2)) (u := []) rfl trivial rfl ?_
      refine a_nil ?_
      refine a_next (σ' := ⟨[(0, (.int .i64 a0)), (4, (.own 4 [] [])), (5, (.own 5 [] [])), (6, (.own 6 [] [])), (7, (.own 7 [] [])), (8, (.own 8 [] [])), (9, (.own 9 [] [])), (10, (.own 10 [] [])), (11, (.own 11 [] [])), (12, (.own 12 [] [])), (13, (.own 13 [] [])), (14, (.own 14 [] [])), (15, (.own 15 [] []))], [(4, some ⟨(eA64u8 x233), false⟩), (5, some ⟨(eA64u8 x234), false⟩), (6, some ⟨(eA64u8 ((vrep 64 (0 : Int)))), false⟩), (7, some ⟨(eA64u8 ((vrep 64 (0 : Int)))), false⟩), (8, some ⟨(eA64u8 ((vrep 64 (0 : Int)))), false⟩), (9, some ⟨(eA64u8 x235), false⟩), (10, some ⟨(eA64u8 x236), false⟩), (11, some ⟨(eA64u8 x237), false⟩), (12, some ⟨(eA64u8 x238), false⟩), (13, some ⟨(eA64u8 r300.1), false⟩), (14, some ⟨(eA64u8 r300.2), false⟩), (15, some ⟨(eA64u8 r306.1), false⟩)]⟩) (by kernel_rfl) ?_
      refine a_seq ?_
      refine a_region ?_
      refine a_val (v := (.int .i64 a0)) (u := []) rfl trivial rfl ?_
      have hl309 : LdOk [] (eA64u8 r300.1) [] 64 true (eA64u8 r300.1) := (.nil rfl rfl rfl)
      refine a_val (v := (eA64u8 r300.1)) (u := []) (ld_own (i := ⟨.arr 64 5, 64, 64, (eA64u8 (vrep 64 (0 : Int)))⟩) rfl rfl rfl hl309) hl309.c rfl ?_
      have hl310 : LdOk [] (eA64u8 x238) [] 64 true (eA64u8 x238) := (.nil rfl rfl rfl)
      refine a_val (v := (eA64u8 x238)) (u := []) (ld_own (i := ⟨.arr 64 5, 64, 64, (eA64u8 (vrep 64 (0 : Int)))⟩) rfl rfl rfl hl310) hl310.c rfl ?_
      obtain ⟨r311, hr312, h⟩ := bind_some h
      refine a_call (args := [(.int .i64 a0), (eA64u8 r300.1), (eA64u8 x238)]) (u := []) (r := (.tuple [(eA64u8 r311.1), (.bool r311.2)])) rfl rfl (spec_l01Times_ok a0 r300.1 x238 r311 hr312) rfl ?_
      refine a_val (v := (.tuple [(eA64u8 r311.1), (.bool r311.2)])) (u := []) rfl trivial rfl ?_
      refine a_val (v := (eA64u8 r311.1)) (u := []) rfl (Nat.le_of_ble_eq_true rfl) rfl ?_
      refine a_val (v := (.bool r311.2)) (u := []) rfl (Nat.le_of_ble_eq_true rfl) rfl ?_
      refine a_val (v := (.own 2700 [] [])) (u := [(2700, some ⟨(eA64u8 ((vrep 64 (0 : Int)))), false⟩)]) rfl trivial rfl ?_
      have hs313 : StOk [] (eA64u8 ((vrep 64 (0 : Int)))) [] 64 (eA64u8 r311.1) (eA64u8 r311.1) := (.nil rfl rfl rfl rfl)
      refine a_val (v := .top) (u := [(2700, some ⟨(eA64u8 r311.1), false⟩)]) (st_own (i := ⟨.arr 64 5, 64, 64, (eA64u8 (vrep 64 (0 : Int)))⟩) rfl rfl (fun _ => rfl) rfl hs313) (hs313.c rfl) rfl ?_
      refine a_val (v := (.bool r311.2)) (u := []) rfl trivial rfl ?_
      refine a_nil ?_
      refine a_next (σ' := ⟨[(0, (.int .i64 a0)), (4, (.own 4 [] [])), (5, (.own 5 [] [])), (6, (.own 6 [] [])), (7, (.own 7 [] [])), (8, (.own 8 [] [])), (9, (.own 9 [] [])), (10, (.own 10 [] [])), (11, (.own 11 [] [])), (12, (.own 12 [] [])), (14, (.own 14 [] [])), (15, (.own 15 [] [])), (17, (.own 17 [] []))], [(4, some ⟨(eA64u8 x233), false⟩), (5, some ⟨(eA64u8 x234), false⟩), (6, some ⟨(eA64u8 ((vrep 64 (0 : Int)))), false⟩), (7, some ⟨(eA64u8 ((vrep 64 (0 : Int)))), false⟩), (8, some ⟨(eA64u8 ((vrep 64 (0 : Int)))), false⟩), (9, some ⟨(eA64u8 x235), false⟩), (10, some ⟨(eA64u8 x236), false⟩), (11, some ⟨(eA64u8 x237), false⟩), (12, some ⟨(eA64u8 x238), false⟩), (14, some ⟨(eA64u8 r300.2), false⟩), (15, some ⟨(eA64u8 r306.1), false⟩), (17, some ⟨(eA64u8 r311.1), false⟩)]⟩) (by kernel_rfl) ?_
      refine a_seq ?_
      refine a_draw [⟨[], [], [], []⟩, ⟨[9], [], [], []⟩, ⟨[15], [], [], []⟩, ⟨[], [], [], [0, 1, 2]⟩, ⟨[], [], [], []⟩, ⟨[11], [], [], []⟩, ⟨[17], [], [], []⟩, ⟨[], [], [], [0, 1, 2, 3, 4, 5, 6]⟩, ⟨[2900], [2900], [2900], []⟩, ⟨[3000], [3000], [3000], []⟩, ⟨[2900], [2900], [], [0, 1, 2, 3, 4, 5, 6, 7, 8, 9]⟩, ⟨[3000], [3000], [], [0, 1, 2, 3, 4, 5, 6, 7, 8, 9, 10]⟩] (by kernel_rfl) ?_
      refine d_cons ?_
      refine a_val (v := (.int .i64 a0)) (u := []) rfl trivial rfl ?_
      refine d_next (by kernel_rfl) ?_
      refine d_cons ?_
      have hl324 : LdOk [] (eA64u8 x235) [] 64 true (eA64u8 x235) := (.nil rfl rfl rfl)
      refine a_val (v := (eA64u8 x235)) (u := []) (ld_own (i := ⟨.arr 64 5, 64, 64, (eA64u8 (vrep 64 (0 : Int)))⟩) rfl rfl rfl hl324) hl324.c rfl ?_
      refine d_next (by kernel_rfl) ?_
      refine d_cons ?_
      have hl325 : LdOk [] (eA64u8 r306.1) [] 64 true (eA64u8 r306.1) := (.nil rfl rfl rfl)
      refine a_val (v := (eA64u8 r306.1)) (u := []) (ld_own (i := ⟨.arr 64 5, 64, 64, (eA64u8 (vrep 64 (0 : Int)))⟩) rfl rfl rfl hl325) hl325.c rfl ?_
      refine d_next (by kernel_rfl) ?_
      refine d_cons ?_
      obtain ⟨r326, hr327, h⟩ := bind_some h
      refine a_call (args := [(.int .i64 a0), (eA64u8 x235), (eA64u8 r306.1), (.int .i64 (-1))]) (u := []) (r := (eA64u8 r326)) rfl rfl (spec_l01Add_ok a0 x235 r306.1 (-1) r326 hr327) rfl ?_
      refine d_next (by kernel_rfl) ?_
      refine d_cons ?_
      refine a_val (v := (.int .i64 a0)) (u := []) rfl trivial rfl ?_
      refine d_next (by kernel_rfl) ?_
      refine d_cons ?_
      have hl328 : LdOk [] (eA64u8 x237) [] 64 true (eA64u8 x237) := (.nil rfl rfl rfl)
      refine a_val (v := (eA64u8 x237)) (u := []) (ld_own (i := ⟨.arr 64 5, 64, 64, (eA64u8 (vrep 64 (0 : Int)))⟩) rfl rfl rfl hl328) hl328.c rfl ?_
      refine d_next (by kernel_rfl) ?_
      refine d_cons ?_
      have hl329 : LdOk [] (eA64u8 r311.1) [] 64 true (eA64u8 r311.1) := (.nil rfl rfl rfl)
      refine a_val (v := (eA64u8 r311.1)) (u := []) (ld_own (i := ⟨.arr 64 5, 64, 64, (eA64u8 (vrep 64 (0 : Int)))⟩) rfl rfl rfl hl329) hl329.c rfl ?_
      refine d_next (by kernel_rfl) ?_
      refine d_cons ?_
      obtain ⟨r330, hr331, h⟩ := bind_some h
      refine a_call (args := [(.int .i64 a0), (eA64u8 x237), (eA64u8 r311.1), (.int .i64 (-1))]) (u := []) (r := (eA64u8 r330)) rfl rfl (spec_l01Add_ok a0 x237 r311.1 (-1) r330 hr331) rfl ?_
      refine d_next (by kernel_rfl) ?_
      refine d_cons ?_
      refine a_val (v := (.own 2900 [] [])) (u := [(2900, some ⟨(eA64u8 ((vrep 64 (0 : Int)))), false⟩)]) rfl trivial rfl ?_
      refine d_next (by kernel_rfl) ?_
      refine d_cons ?_
      refine a_val (v := (.own 3000 [] [])) (u := [(3000, some ⟨(eA64u8 ((vrep 64 (0 : Int)))), false⟩)]) rfl trivial rfl ?_
      refine d_next (by kernel_rfl) ?_
      refine d_cons ?_
      have hs332 : StOk [] (eA64u8 ((vrep 64 (0 : Int)))) [] 64 (eA64u8 r326) (eA64u8 r326) := (.nil rfl rfl rfl rfl)
      refine a_val (v := .top) (u := [(2900, some ⟨(eA64u8 r326), false⟩)]) (st_own (i := ⟨.arr 64 5, 64, 64, (eA64u8 (vrep 64 (0 : Int)))⟩) rfl rfl (fun _ => rfl) rfl hs332) (hs332.c rfl) rfl ?_
      refine d_next (by kernel_rfl) ?_
      refine d_cons ?_
      have hs333 : StOk [] (eA64u8 ((vrep 64 (0 : Int)))) [] 64 (eA64u8 r330) (eA64u8 r330) := (.nil rfl rfl rfl rfl)
      refine a_val (v := .top) (u := [(3000, some ⟨(eA64u8 r330), false⟩)]) (st_own (i := ⟨.arr 64 5, 64, 64, (eA64u8 (vrep 64 (0 : Int)))⟩) rfl rfl (fun _ => rfl) rfl hs333) (hs333.c rfl) rfl ?_
      refine d_next (by kernel_rfl) ?_
      refine d_nil ?_
      refine a_next (σ' := ⟨[(0, (.int .i64 a0)), (4, (.own 4 [] [])), (5, (.own 5 [] [])), (6, (.own 6 [] [])), (7, (.own 7 [] [])), (8, (.own 8 [] [])), (9, (.own 9 [] [])), (10, (.own 10 [] [])), (11, (.own 11 [] [])), (12, (.own 12 [] [])), (14, (.own 14 [] [])), (19, (.own 19 [] [])), (20, (.own 20 [] []))], [(4, some ⟨(eA64u8 x233), false⟩), (5, some ⟨(eA64u8 x234), false⟩), (6, some ⟨(eA64u8 ((vrep 64 (0 : Int)))), false⟩), (7, some ⟨(eA64u8 ((vrep 64 (0 : Int)))), false⟩), (8, some ⟨(eA64u8 ((vrep 64 (0 : Int)))), false⟩), (9, some ⟨(eA64u8 x235), false⟩), (10, some ⟨(eA64u8 x236), false⟩), (11, some ⟨(eA64u8 x237), false⟩), (12, some ⟨(eA64u8 x238), false⟩), (14, some ⟨(eA64u8 r300.2), false⟩), (19, some ⟨(eA64u8 r326), false⟩), (20, some ⟨(eA64u8 r330), false⟩)]⟩) (by kernel_rfl) ?_
      refine a_seq ?_
      refine a_region ?_
      have hl334 : LdOk [] (eA64u8 x234) [] 64 true (eA64u8 x234) := (.nil rfl rfl rfl)
      refine a_val (v := (eA64u8 x234)) (u := []) (ld_own (i := ⟨.arr 64 5, 64, 64, (eA64u8 (vrep 64 (0 : Int)))⟩) rfl rfl rfl hl334) hl334.c rfl ?_
      have hs335 : StOk [] (eA64u8 x233) [] 64 (eA64u8 x234) (eA64u8 x234) := (.nil rfl rfl rfl rfl)
      refine a_val (v := .top) (u := [(4, some ⟨(eA64u8 x234), false⟩)]) (st_own (i := ⟨.arr 64 5, 64, 64, (eA64u8 (vrep 64 (0 : Int)))⟩) rfl rfl (fun _ => rfl) rfl hs335) (hs335.c rfl) rfl ?_
      refine a_nil ?_
      refine a_next (σ' := ⟨[(0, (.int .i64 a0)), (4, (.own 4 [] [])), (5, (.own 5 [] [])), (6, (.own 6 [] [])), (7, (.own 7 [] [])), (8, (.own 8 [] [])), (9, (.own 9 [] [])), (10, (.own 10 [] [])), (11, (.own 11 [] [])), (12, (.own 12 [] [])), (14, (.own 14 [] [])), (19, (.own 19 [] [])), (20, (.own 20 [] []))], [(4, some ⟨(eA64u8 x234), false⟩), (5, some ⟨(eA64u8 x234), false⟩), (6, some ⟨(eA64u8 ((vrep 64 (0 : Int)))), false⟩), (7, some ⟨(eA64u8 ((vrep 64 (0 : Int)))), false⟩), (8, some ⟨(eA64u8 ((vrep 64 (0 : Int)))), false⟩), (9, some ⟨(eA64u8 x235), false⟩), (10, some ⟨(eA64u8 x236), false⟩), (11, some ⟨(eA64u8 x237), false⟩), (12, some ⟨(eA64u8 x238), false⟩), (14, some ⟨(eA64u8 r300.2), false⟩), (19, some ⟨(eA64u8 r326), false⟩), (20, some ⟨(eA64u8 r330), false⟩)]⟩) (by kernel_rfl) ?_
      refine a_seq ?_
      refine a_region ?_
      have hl336 : LdOk [] (eA64u8 r300.2) [] 64 true (eA64u8 r300.2) := (.nil rfl rfl rfl)
      refine a_val (v := (eA64u8 r300.2)) (u := []) (ld_own (i := ⟨.arr 64 5, 64, 64, (eA64u8 (vrep 64 (0 : Int)))⟩) rfl rfl rfl hl336) hl336.c rfl ?_
      have hs337 : StOk [] (eA64u8 x234) [] 64 (eA64u8 r300.2) (eA64u8 r300.2) := (.nil rfl rfl rfl rfl)
      refine a_val (v := .top) (u := [(5, some ⟨(eA64u8 r300.2), false⟩)]) (st_own (i := ⟨.arr 64 5, 64, 64, (eA64u8 (vrep 64 (0 : Int)))⟩) rfl rfl (fun _ => rfl) rfl hs337) (hs337.c rfl) rfl ?_
      refine a_nil ?_
      refine a_next (σ' := ⟨[(0, (.int .i64 a0)), (4, (.own 4 [] [])), (5, (.own 5 [] [])), (6, (.own 6 [] [])), (7, (.own 7 [] [])), (8, (.own 8 [] [])), (9, (.own 9 [] [])), (10, (.own 10 [] [])), (11, (.own 11 [] [])), (12, (.own 12 [] [])), (19, (.own 19 [] [])), (20, (.own 20 [] []))], [(4, some ⟨(eA64u8 x234), false⟩), (5, some ⟨(eA64u8 r300.2), false⟩), (6, some ⟨(eA64u8 ((vrep 64 (0 : Int)))), false⟩), (7, some ⟨(eA64u8 ((vrep 64 (0 : Int)))), false⟩), (8, some ⟨(eA64u8 ((vrep 64 (0 : Int)))), false⟩), (9, some ⟨(eA64u8 x235), false⟩), (10, some ⟨(eA64u8 x236), false⟩), (11, some ⟨(eA64u8 x237), false⟩), (12, some ⟨(eA64u8 x238), false⟩), (19, some ⟨(eA64u8 r326), false⟩), (20, some ⟨(eA64u8 r330), false⟩)]⟩) (by kernel_rfl) ?_
      refine a_seq ?_
      refine a_region ?_
      have hl338 : LdOk [] (eA64u8 x236) [] 64 true (eA64u8 x236) := (.nil rfl rfl rfl)
      refine a_val (v := (eA64u8 x236)) (u := []) (ld_own (i := ⟨.arr 64 5, 64, 64, (eA64u8 (vrep 64 (0 : Int)))⟩) rfl rfl rfl hl338) hl338.c rfl ?_
      have hs339 : StOk [] (eA64u8 x235) [] 64 (eA64u8 x236) (eA64u8 x236) := (.nil rfl rfl rfl rfl)
      refine a_val (v := .top) (u := [(9, some ⟨(eA64u8 x236), false⟩)]) (st_own (i := ⟨.arr 64 5, 64, 64, (eA64u8 (vrep 64 (0 : Int)))⟩) rfl rfl (fun _ => rfl) rfl hs339) (hs339.c rfl) rfl ?_
      refine a_nil ?_
      refine a_next (σ' := ⟨[(0, (.int .i64 a0)), (4, (.own 4 [] [])), (5, (.own 5 [] [])), (6, (.own 6 [] [])), (7, (.own 7 [] [])), (8, (.own 8 [] [])), (9, (.own 9 [] [])), (10, (.own 10 [] [])), (11, (.own 11 [] [])), (12, (.own 12 [] [])), (19, (.own 19 [] [])), (20, (.own 20 [] []))], [(4, some ⟨(eA64u8 x234), false⟩), (5, some ⟨(eA64u8 r300.2), false⟩), (6, some ⟨(eA64u8 ((vrep 64 (0 : Int)))), false⟩), (7, some ⟨(eA64u8 ((vrep 64 (0 : Int)))), false⟩), (8, some ⟨(eA64u8 ((vrep 64 (0 : Int)))), false⟩), (9, some ⟨(eA64u8 x236), false⟩), (10, some ⟨(eA64u8 x236), false⟩), (11, some ⟨(eA64u8 x237), false⟩), (12, some ⟨(eA64u8 x238), false⟩), (19, some ⟨(eA64u8 r326), false⟩), (20, some ⟨(eA64u8 r330), false⟩)]⟩) (by kernel_rfl) ?_
      refine a_seq ?_
      refine a_region ?_
      have hl340 : LdOk [] (eA64u8 x238) [] 64 true (eA64u8 x238) := (.nil rfl rfl rfl)
      refine a_val (v := (eA64u8 x238)) (u := []) (ld_own (i := ⟨.arr 64 5, 64, 64, (eA64u8 (vrep 64 (0 : Int)))⟩) rfl rfl rfl hl340) hl340.c rfl ?_
      have hs341 : StOk [] (eA64u8 x237) [] 64 (eA64u8 x238) (eA64u8 x238) := (.nil rfl rfl rfl rfl)
      refine a_val (v := .top) (u := [(11, some ⟨(eA64u8 x238), false⟩)]) (st_own (i := ⟨.arr 64 5, 64, 64, (eA64u8 (vrep 64 (0 : Int)))⟩) rfl rfl (fun _ => rfl) rfl hs341) (hs341.c rfl) rfl ?_
      refine a_nil ?_
      refine a_next (σ' := ⟨[(0, (.int .i64 a0)), (4, (.own 4 [] [])), (5, (.own 5 [] [])), (6, (.own 6 [] [])), (7, (.own 7 [] [])), (8, (.own 8 [] [])), (9, (.own 9 [] [])), (10, (.own 10 [] [])), (11, (.own 11 [] [])), (12, (.own 12 [] [])), (19, (.own 19 [] [])), (20, (.own 20 [] []))], [(4, some ⟨(eA64u8 x234), false⟩), (5, some ⟨(eA64u8 r300.2), false⟩), (6, some ⟨(eA64u8 ((vrep 64 (0 : Int)))), false⟩), (7, some ⟨(eA64u8 ((vrep 64 (0 : Int)))), false⟩), (8, some ⟨(eA64u8 ((vrep 64 (0 : Int)))), false⟩), (9, some ⟨(eA64u8 x236), false⟩), (10, some ⟨(eA64u8 x236), false⟩), (11, some ⟨(eA64u8 x238), false⟩), (12, some ⟨(eA64u8 x238), false⟩), (19, some ⟨(eA64u8 r326), false⟩), (20, some ⟨(eA64u8 r330), false⟩)]⟩) (by kernel_rfl) ?_
      refine a_seq ?_
      refine a_region ?_
      have hl342 : LdOk [] (eA64u8 r326) [] 64 true (eA64u8 r326) := (.nil rfl rfl rfl)
      refine a_val (v := (eA64u8 r326)) (u := []) (ld_own (i := ⟨.arr 64 5, 64, 64, (eA64u8 (vrep 64 (0 : Int)))⟩) rfl rfl rfl hl342) hl342.c rfl ?_
      have hs343 : StOk [] (eA64u8 x236) [] 64 (eA64u8 r326) (eA64u8 r326) := (.nil rfl rfl rfl rfl)
      refine a_val (v := .top) (u := [(10, some ⟨(eA64u8 r326), false⟩)]) (st_own (i := ⟨.arr 64 5, 64, 64, (eA64u8 (vrep 64 (0 : Int)))⟩) rfl rfl (fun _ => rfl) rfl hs343) (hs343.c rfl) rfl ?_
      refine a_nil ?_
      refine a_next (σ' := ⟨[(0, (.int .i64 a0)), (4, (.own 4 [] [])), (5, (.own 5 [] [])), (6, (.own 6 [] [])), (7, (.own 7 [] [])), (8, (.own 8 [] [])), (9, (.own 9 [] [])), (10, (.own 10 [] [])), (11, (.own 11 [] [])), (12, (.own 12 [] [])), (20, (.own 20 [] []))], [(4, some ⟨(eA64u8 x234), false⟩), (5, some ⟨(eA64u8 r300.2), false⟩), (6, some ⟨(eA64u8 ((vrep 64 (0 : Int)))), false⟩), (7, some ⟨(eA64u8 ((vrep 64 (0 : Int)))), false⟩), (8, some ⟨(eA64u8 ((vrep 64 (0 : Int)))), false⟩), (9, some ⟨(eA64u8 x236), false⟩), (10, some ⟨(eA64u8 r326), false⟩), (11, some ⟨(eA64u8 x238), false⟩), (12, some ⟨(eA64u8 x238), false⟩), (20, some ⟨(eA64u8 r330), false⟩)]⟩) (by kernel_rfl) ?_
      refine a_region ?_
      have hl344 : LdOk [] (eA64u8 r330) [] 64 true (eA64u8 r330) := (.nil rfl rfl rfl)
      refine a_val (v := (eA64u8 r330)) (u := []) (ld_own (i := ⟨.arr 64 5, 64, 64, (eA64u8 (vrep 64 (0 : Int)))⟩) rfl rfl rfl hl344) hl344.c rfl ?_
      have hs345 : StOk [] (eA64u8 x238) [] 64 (eA64u8 r330) (eA64u8 r330) := (.nil rfl rfl rfl rfl)
      refine a_val (v := .top) (u := [(12, some ⟨(eA64u8 r330), false⟩)]) (st_own (i := ⟨.arr 64 5, 64, 64, (eA64u8 (vrep 64 (0 : Int)))⟩) rfl rfl (fun _ => rfl) rfl hs345) (hs345.c rfl) rfl ?_
      refine a_nil ?_
      refine b_norm ?_
      cases h
      exact a_again (by kernel_rfl) hX293
def spec_l01Gcd_c : ACode := (.seq (.region 0 [⟨some 4, .box 24 (.tmp 1), none, []⟩, ⟨some 5, .box 24 (.tmp 2), none, []⟩, ⟨some 6, .alloc 24, none, []⟩] false) (.seq (.seq (.region 1 [⟨some 10, .load 24 (.tmp 4), none, []⟩, ⟨some 11, .call 0 (.func 81) [(.tmp 10)], none, []⟩, ⟨some 12, .bin .lss 2 (.tmp 11) (.const (.int .i64 0)), none, []⟩, ⟨some 13, .mov (.tmp 12), none, []⟩, ⟨some 14, .load 24 (.tmp 5), some (13, true), []⟩, ⟨some 15, .call 0 (.func 81) [(.tmp 14)], some (13, true), []⟩, ⟨some 16, .bin .lss 2 (.tmp 15) (.const (.int .i64 0)), some (13, true), []⟩, ⟨some 17, .pick (.tmp 13) (.tmp 16) (.const (.bool false)), none, []⟩] false) (.cond (.tmp 17) (.seq (.region 2 [⟨some 18, .build 24 [], none, []⟩, ⟨none, .store 24 (.tmp 6) (.tmp 18), none, []⟩] false) .ret) .skip)) (.seq (.region 3 [⟨some 20, .mov (.tmp 0), none, []⟩, ⟨some 21, .load 24 (.tmp 4), none, []⟩, ⟨some 22, .load 24 (.tmp 5), none, []⟩, ⟨some 23, .call 0 (.func 133) [(.tmp 20), (.tmp 21), (.tmp 22)], none, []⟩, ⟨some 19, .mov (.tmp 23), none, []⟩, ⟨some 24, .extract (.tmp 19) 0, none, []⟩, ⟨some 25, .extract (.tmp 19) 1, none, []⟩, ⟨some 26, .extract (.tmp 19) 2, none, []⟩, ⟨some 7, .alloc 24, none, []⟩, ⟨some 8, .alloc 24, none, []⟩, ⟨some 9, .alloc 24, none, []⟩, ⟨none, .store 24 (.tmp 7) (.tmp 24), none, []⟩, ⟨none, .store 24 (.tmp 8) (.tmp 25), none, []⟩, ⟨none, .store 24 (.tmp 9) (.tmp 26), none, []⟩] false) (.seq (.region 4 [⟨some 27, .load 24 (.tmp 7), none, []⟩, ⟨none, .store 24 (.tmp 6) (.tmp 27), none, []⟩] false) .ret))))
def spec_l01Gcd_L : Live := [(0, [0, 1, 2]), (1, [0, 4, 5, 6]), (2, [6]), (3, [0, 4, 5, 6]), (4, [6, 7]), (100017, [0, 4, 5, 6, 17])]
theorem spec_l01Gcd_body : Try.f98.body = some (Try.f98.body.getD .skip) := by kernel_rfl
theorem spec_l01Gcd_strip : strip [] (Try.f98.body.getD .skip) = spec_l01Gcd_c := by kernel_rfl
noncomputable def spec_l01Gcd (a0 : Int) (a1 : (Vec Int 64)) (a2 : (Vec Int 64)) : Option (Vec Int 64) :=
  (Option.bind (α := Bool) ((Option.bind (spec_l01Deg a1) fun r13 => (if (decide (r13 < 0)) then (Option.bind (spec_l01Deg a2) fun r17 => (some ((decide (r17 < 0))))) else (some false)))) fun x8 => (if x8 then (some ((vrep 64 (0 : Int)))) else (Option.bind (spec_l01Bezout a0 a1 a2) fun r22 => (some r22.1))))
set_option maxHeartbeats 16000000 in
theorem spec_l01Gcd_ok (a0 : Int) (a1 : (Vec Int 64)) (a2 : (Vec Int 64)) (r : (Vec Int 64)) (h : spec_l01Gcd a0 a1 a2 = some r) : Den Try.prog 98 [(.int .i64 a0), (eA64u8 a1), (eA64u8 a2)] { r := (eA64u8 r) } := by
  refine den_of (rs := [(eA64u8 r)]) (ac := spec_l01Gcd_c) (L := spec_l01Gcd_L) (n := 28) (m := []) good Try.func98 spec_l01Gcd_body (by kernel_rfl) Try.ntmps98 rfl rfl spec_l01Gcd_strip rfl rfl ?_
  refine a_st (σ' := ⟨[(0, (.int .i64 a0)), (1, (eA64u8 a1)), (2, (eA64u8 a2))], []⟩) (by kernel_rfl) ?_
  unfold spec_l01Gcd_c
  refine a_seq ?_
  refine a_region ?_
  refine a_val (v := (.own 1400 [] [])) (u := [(1400, some ⟨(eA64u8 a1), false⟩)]) rfl trivial rfl ?_
  refine a_val (v := (.own 1500 [] [])) (u := [(1500, some ⟨(eA64u8 a2), false⟩)]) rfl trivial rfl ?_
  refine a_val (v := (.own 1600 [] [])) (u := [(1600, some ⟨(eA64u8 ((vrep 64 (0 : Int)))), false⟩)]) rfl trivial rfl ?_
  refine a_nil ?_
  refine a_next (σ' := ⟨[(0, (.int .i64 a0)), (4, (.own 4 [] [])), (5, (.own 5 [] [])), (6, (.own 6 [] []))], [(4, some ⟨(eA64u8 a1), false⟩), (5, some ⟨(eA64u8 a2), false⟩), (6, some ⟨(eA64u8 ((vrep 64 (0 : Int)))), false⟩)]⟩) (by kernel_rfl) ?_
  refine a_seq ?_
  obtain ⟨y9, hy10, hk11⟩ := bind_some h
  clear h
  refine a_join (emb := fun (s : Bool) => ⟨[(0, (.int .i64 a0)), (4, (.own 4 [] [])), (5, (.own 5 [] [])), (6, (.own 6 [] [])), (17, (.bool s))], [(4, some ⟨(eA64u8 a1), false⟩), (5, some ⟨(eA64u8 a2), false⟩), (6, some ⟨(eA64u8 ((vrep 64 (0 : Int)))), false⟩)]⟩) (pre := fun s => s = y9) ?_ ?_
  · rintro x8 rfl
    have h := hk11
    refine a_st (σ' := ⟨[(0, (.int .i64 a0)), (4, (.own 4 [] [])), (5, (.own 5 [] [])), (6, (.own 6 [] [])), (17, (.bool x8))], [(4, some ⟨(eA64u8 a1), false⟩), (5, some ⟨(eA64u8 a2), false⟩), (6, some ⟨(eA64u8 ((vrep 64 (0 : Int)))), false⟩)]⟩) (by kernel_rfl) ?_
    cases hb19 : x8
    · have h := ite_f hb19 h
      refine a_cond_f rfl ?_
      refine a_skip ?_
      refine a_next (σ' := ⟨[(0, (.int .i64 a0)), (4, (.own 4 [] [])), (5, (.own 5 [] [])), (6, (.own 6 [] []))], [(4, some ⟨(eA64u8 a1), false⟩), (5, some ⟨(eA64u8 a2), false⟩), (6, some ⟨(eA64u8 ((vrep 64 (0 : Int)))), false⟩)]⟩) (by kernel_rfl) ?_
      refine a_seq ?_
      refine a_region ?_
      refine a_val (v := (.int .i64 a0)) (u := []) rfl trivial rfl ?_
      have hl20 : LdOk [] (eA64u8 a1) [] 64 true (eA64u8 a1) := (.nil rfl rfl rfl)
      refine a_val (v := (eA64u8 a1)) (u := []) (ld_own (i := ⟨.arr 64 5, 64, 64, (eA64u8 (vrep 64 (0 : Int)))⟩) rfl rfl rfl hl20) hl20.c rfl ?_
      have hl21 : LdOk [] (eA64u8 a2) [] 64 true (eA64u8 a2) := (.nil rfl rfl rfl)
      refine a_val (v := (eA64u8 a2)) (u := []) (ld_own (i := ⟨.arr 64 5, 64, 64, (eA64u8 (vrep 64 (0 : Int)))⟩) rfl rfl rfl hl21) hl21.c rfl ?_
      obtain ⟨r22, hr23, h⟩ := bind_some h
      refine a_call (args := [(.int .i64 a0), (eA64u8 a1), (eA64u8 a2)]) (u := []) (r := (.tuple [(eA64u8 r22.1), (eA64u8 r22.2.1), (eA64u8 r22.2.2)])) rfl rfl (spec_l01Bezout_ok a0 a1 a2 r22 hr23) rfl ?_
      refine a_val (v := (.tuple [(eA64u8 r22.1), (eA64u8 r22.2.1), (eA64u8 r22.2.2)])) (u := []) rfl trivial rfl ?_
      refine a_val (v := (eA64u8 r22.1)) (u := []) rfl (Nat.le_of_ble_eq_true rfl) rfl ?_
      refine a_val (v := (eA64u8 r22.2.1)) (u := []) rfl (Nat.le_of_ble_eq_true rfl) rfl ?_
      refine a_val (v := (eA64u8 r22.2.2)) (u := []) rfl (Nat.le_of_ble_eq_true rfl) rfl ?_
      refine a_val (v := (.own 1700 [] [])) (u := [(1700, some ⟨(eA64u8 ((vrep 64 (0 : Int)))), false⟩)]) rfl trivial rfl ?_
      refine a_val (v := (.own 1800 [] [])) (u := [(1800, some ⟨(eA64u8 ((vrep 64 (0 : Int)))), false⟩)]) rfl trivial rfl ?_
      refine a_val (v := (.own 1900 [] [])) (u := [(1900, some ⟨(eA64u8 ((vrep 64 (0 : Int)))), false⟩)]) rfl trivial rfl ?_
      have hs24 : StOk [] (eA64u8 ((vrep 64 (0 : Int)))) [] 64 (eA64u8 r22.1) (eA64u8 r22.1) := (.nil rfl rfl rfl rfl)
      refine a_val (v := .top) (u := [(1700, some ⟨(eA64u8 r22.1), false⟩)]) (st_own (i := ⟨.arr 64 5, 64, 64, (eA64u8 (vrep 64 (0 : Int)))⟩) rfl rfl (fun _ => rfl) rfl hs24) (hs24.c rfl) rfl ?_
      have hs25 : StOk [] (eA64u8 ((vrep 64 (0 : Int)))) [] 64 (eA64u8 r22.2.1) (eA64u8 r22.2.1) := (.nil rfl rfl rfl rfl)
      refine a_val (v := .top) (u := [(1800, some ⟨(eA64u8 r22.2.1), false⟩)]) (st_own (i := ⟨.arr 64 5, 64, 64, (eA64u8 (vrep 64 (0 : Int)))⟩) rfl rfl (fun _ => rfl) rfl hs25) (hs25.c rfl) rfl ?_
      have hs26 : StOk [] (eA64u8 ((vrep 64 (0 : Int)))) [] 64 (eA64u8 r22.2.2) (eA64u8 r22.2.2) := (.nil rfl rfl rfl rfl)
      refine a_val (v := .top) (u := [(1900, some ⟨(eA64u8 r22.2.2), false⟩)]) (st_own (i := ⟨.arr 64 5, 64, 64, (eA64u8 (vrep 64 (0 : Int)))⟩) rfl rfl (fun _ => rfl) rfl hs26) (hs26.c rfl) rfl ?_
      refine a_nil ?_
      refine a_next (σ' := ⟨[(6, (.own 6 [] [])), (7, (.own 7 [] []))], [(6, some ⟨(eA64u8 ((vrep 64 (0 : Int)))), false⟩), (7, some ⟨(eA64u8 r22.1), false⟩)]⟩) (by kernel_rfl) ?_
      refine a_seq ?_
      refine a_region ?_
      have hl27 : LdOk [] (eA64u8 r22.1) [] 64 true (eA64u8 r22.1) := (.nil rfl rfl rfl)
      refine a_val (v := (eA64u8 r22.1)) (u := []) (ld_own (i := ⟨.arr 64 5, 64, 64, (eA64u8 (vrep 64 (0 : Int)))⟩) rfl rfl rfl hl27) hl27.c rfl ?_
      have hs28 : StOk [] (eA64u8 ((vrep 64 (0 : Int)))) [] 64 (eA64u8 r22.1) (eA64u8 r22.1) := (.nil rfl rfl rfl rfl)
      refine a_val (v := .top) (u := [(6, some ⟨(eA64u8 r22.1), false⟩)]) (st_own (i := ⟨.arr 64 5, 64, 64, (eA64u8 (vrep 64 (0 : Int)))⟩) rfl rfl (fun _ => rfl) rfl hs28) (hs28.c rfl) rfl ?_
      refine a_nil ?_
      refine a_next rfl ?_
      refine a_ret ?_
      have hl29 : LdOk [] (eA64u8 r22.1) [] 64 true (eA64u8 r22.1) := (.nil rfl rfl rfl)
      refine ⟨.inr rfl, ?_⟩
      rw [Try.results98]
      cases h
      exact ⟨_, _, _, _, _, ld_own (i := ⟨.arr 64 5, 64, 64, (eA64u8 (vrep 64 (0 : Int)))⟩) rfl rfl rfl hl29, hl29.c, .inl ⟨rfl, .inl rfl⟩, rfl, rfl⟩
    · have h := ite_t hb19 h
      refine a_cond_t rfl ?_
      refine a_seq ?_
      refine a_region ?_
      refine a_val (v := (eA64u8 ((vrep 64 (0 : Int))))) (u := []) rfl ⟨⟨_, rfl, rfl⟩, all_nil⟩ rfl ?_
      have hs30 : StOk [] (eA64u8 ((vrep 64 (0 : Int)))) [] 64 (eA64u8 ((vrep 64 (0 : Int)))) (eA64u8 ((vrep 64 (0 : Int)))) := (.nil rfl rfl rfl rfl)
      refine a_val (v := .top) (u := [(6, some ⟨(eA64u8 ((vrep 64 (0 : Int)))), false⟩)]) (st_own (i := ⟨.arr 64 5, 64, 64, (eA64u8 (vrep 64 (0 : Int)))⟩) rfl rfl (fun _ => rfl) rfl hs30) (hs30.c rfl) rfl ?_
      refine a_nil ?_
      refine a_next rfl ?_
      refine a_ret ?_
      refine t_ret ?_
      have hl31 : LdOk [] (eA64u8 ((vrep 64 (0 : Int)))) [] 64 true (eA64u8 ((vrep 64 (0 : Int)))) := (.nil rfl rfl rfl)
      refine ⟨.inr rfl, ?_⟩
      rw [Try.results98]
      cases h
      exact ⟨_, _, _, _, _, ld_own (i := ⟨.arr 64 5, 64, 64, (eA64u8 (vrep 64 (0 : Int)))⟩) rfl rfl rfl hl31, hl31.c, .inl ⟨rfl, .inl rfl⟩, rfl, rfl⟩
  · have h := hy10
    refine a_region ?_
    have hl12 : LdOk [] (eA64u8 a1) [] 64 true (eA64u8 a1) := (.nil rfl rfl rfl)
    refine a_val (v := (eA64u8 a1)) (u := []) (ld_own (i := ⟨.arr 64 5, 64, 64, (eA64u8 (vrep 64 (0 : Int)))⟩) rfl rfl rfl hl12) hl12.c rfl ?_
    obtain ⟨r13, hr14, h⟩ := bind_some h
    refine a_call (args := [(eA64u8 a1)]) (u := []) (r := (.int .i64 r13)) rfl rfl (spec_l01Deg_ok a1 r13 hr14) rfl ?_
    refine a_val (v := (.bool ((decide (r13 < 0))))) (u := []) rfl trivial rfl ?_
    refine a_val (v := (.bool ((decide (r13 < 0))))) (u := []) rfl trivial rfl ?_
    cases hb15 : (decide (r13 < 0))
    · have h := ite_f hb15 h
      refine a_gskip rfl ?_
      refine a_gskip rfl ?_
      refine a_gskip rfl ?_
      refine a_val (v := (.bool false)) (u := []) rfl trivial rfl ?_
      refine a_nil ?_
      exact j_leaf false (Option.some.inj h) (by kernel_rfl)
    · have h := ite_t hb15 h
      have hl16 : LdOk [] (eA64u8 a2) [] 64 true (eA64u8 a2) := (.nil rfl rfl rfl)
      refine a_gval rfl (v := (eA64u8 a2)) (u := []) (ld_own (i := ⟨.arr 64 5, 64, 64, (eA64u8 (vrep 64 (0 : Int)))⟩) rfl rfl rfl hl16) hl16.c rfl ?_
      obtain ⟨r17, hr18, h⟩ := bind_some h
      refine a_gcall rfl (args := [(eA64u8 a2)]) (u := []) (r := (.int .i64 r17)) rfl rfl (spec_l01Deg_ok a2 r17 hr18) rfl ?_
      refine a_gval rfl (v := (.bool ((decide (r17 < 0))))) (u := []) rfl trivial rfl ?_
      refine a_val (v := (.bool ((decide (r17 < 0))))) (u := []) rfl trivial rfl ?_
      refine a_nil ?_
      exact j_leaf ((decide (r17 < 0))) (Option.some.inj h) (by kernel_rfl)
end Go.Proofs.Ytcgohoclbjgmkaa
