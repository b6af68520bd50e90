/- Functions of the program: plain Lean functions, and that the program computes them. Printed by gen.py. -/
import Derived.Test.YtdhcpekngpndnaaFnT
import Derived.Test.YtdhcpekngpndnaaFn1
namespace Go.Proofs.Ytdhcpekngpndnaa
open Go.Abs Go.Proofs
set_option linter.unusedSimpArgs false
set_option linter.unusedVariables false
set_option maxHeartbeats 16000000
attribute [local irreducible] Abs.acode Abs.aops Abs.aopsT Abs.thenK Abs.blockK

def spec_l02Split_c : ACode := (.seq (.region 0 [q 3 (.box 26 (t 1)), q 4 (.asg 1 (.const (.slice none 0 0)) 149)] false) (.seq (.region 1 [q 15 (.bslice 2 149 0 []), q 5 (.asg 2 (t 15) 149)] false) (.seq (.seq (.region 2 [q 6 (.asg 0 (.const (.int .i64 1)) 2)] false) (.block 0 (.loop (.seq (.seq (.region 3 [q 16 (.mov (t 6)), q 17 (.bin .mul 2 (.const (.int .i64 2)) (t 16)), q 18 (.load 26 (t 3)), q 19 (.call 0 (.func 75) [(t 18)]), q 20 (.bin .leq 2 (t 17) (t 19))] false) (.cond (t 20) .skip (.exit 0))) (.seq (.block 1 (.seq (.region 5 [q 23 (.mov (t 0)), q 24 (.mov (t 6)), q 25 (.call 0 (.func 104) [(t 23), (t 24)]), q 7 (.asg 0 (t 25) 2)] false) (.block 2 (.loop (.seq (.seq (.region 6 [q 26 (.mov (t 7)), q 27 (.mov (t 0)), q 28 (.mov (t 6)), q 29 (.call 0 (.func 104) [(t 27), (t 28)]), q 30 (.bin .mul 2 (.const (.int .i64 2)) (t 29)), q 31 (.bin .lss 2 (t 26) (t 30)), q 32 (.mov (t 31)), ⟨some 33, .mov (t 6), some (32, true), []⟩, ⟨some 34, .bin .mul 2 (.const (.int .i64 2)) (t 33), some (32, true), []⟩, ⟨some 35, .load 26 (t 3), some (32, true), []⟩, ⟨some 36, .call 0 (.func 75) [(t 35)], some (32, true), []⟩, ⟨some 37, .bin .leq 2 (t 34) (t 36), some (32, true), []⟩, q 38 (.pick (t 32) (t 37) (.const (.bool false)))] false) (.cond (t 38) .skip (.exit 2))) (.seq (.block 3 (.seq (.region 8 [q 41 (.mov (t 0)), q 42 (.mov (t 7)), q 43 (.call 0 (.func 76) [(t 41), (t 42)]), q 8 (.alloc 26), ⟨none, .store 26 (t 8) (t 43), none, []⟩, q 9 (.asg 0 (.const (.int .i64 0)) 2)] false) (.seq (.block 4 (.loop (.seq (.seq (.region 9 [q 44 (.load 26 (t 3)), q 45 (.call 0 (.func 75) [(t 44)]), q 46 (.mov (t 6)), q 47 (.bin .geq 2 (t 45) (t 46))] false) (.cond (t 47) .skip (.exit 4))) (.block 5 (.seq (.region 10 [q 49 (.mov (t 0)), q 50 (.load 26 (t 3)), q 51 (.load 26 (t 8)), q 52 (.call 0 (.func 97) [(t 49), (t 50), (t 51)]), q 48 (.mov (t 52)), q 53 (.extract (t 48) 0), q 54 (.extract (t 48) 1), q 10 (.alloc 26), q 11 (.alloc 26), ⟨none, .store 26 (t 10) (t 53), none, []⟩, ⟨none, .store 26 (t 11) (t 54), none, []⟩] false) (.seq (.seq (.region 11 [q 55 (.load 26 (t 11)), q 56 (.build 26 []), q 57 (.bin .neq 26 (t 55) (t 56))] false) (.cond (t 57) (.exit 4) .skip)) (.seq (.region 12 [q 58 (.load 26 (t 10)), ⟨none, .store 26 (t 3) (t 58), none, []⟩] false) (.region 13 [q 59 (.mov (t 9)), q 60 (.bin .add 2 (t 59) (.const (.int .i64 1))), q 9 (.asg 0 (t 60) 2)] false)))))))) (.seq (.region 14 [q 61 (.mov (t 9)), q 62 (.bin .gtr 2 (t 61) (.const (.int .i64 0)))] false) (.cond (t 62) (.region 15 [q 63 (.mov (t 5)), q 64 (.load 26 (t 8)), q 65 (.mov (t 9)), q 66 (.build 152 [(0, (t 64)), (1, (t 65))]), q 67 (.bslice 0 149 1 [(0, (t 66))]), q 68 (.blt 0 .append [(t 63), (t 67)] [149, 149]), q 5 (.asg 2 (t 68) 149)] false) .skip))))) (.region 7 [q 39 (.mov (t 7)), q 40 (.bin .add 2 (t 39) (.const (.int .i64 1))), q 7 (.asg 0 (t 40) 2)] false))))))) (.region 4 [q 21 (.mov (t 6)), q 22 (.bin .add 2 (t 21) (.const (.int .i64 1))), q 6 (.asg 0 (t 22) 2)] false)))))) (.seq (.seq (.region 16 [q 69 (.load 26 (t 3)), q 70 (.call 0 (.func 75) [(t 69)]), q 12 (.asg 0 (t 70) 2)] false) (.seq (.region 17 [q 71 (.mov (t 12)), q 72 (.bin .gtr 2 (t 71) (.const (.int .i64 0)))] false) (.cond (t 72) (.seq (.region 18 [q 73 (.mov (t 0)), q 74 (.build 26 []), q 75 (.load 26 (t 3)), q 76 (.mov (t 0)), q 77 (.mov (t 12)), ⟨some 78, .indexAddr 26 (t 3) (t 77), none, [4]⟩, ⟨some 79, .load 5 (t 78), none, [5]⟩, ⟨some 80, .call 0 (.func 148) [(t 76), (t 79)], none, [3, 6]⟩, ⟨some 81, .conv 5 2 (t 80), none, [7]⟩, ⟨some 82, .call 0 (.func 94) [(t 73), (t 74), (t 75), (t 81)], none, [0, 1, 2, 8, 7]⟩, q 13 (.alloc 26), ⟨none, .store 26 (t 13) (t 82), none, [10, 9, 9, 0, 1, 2, 3, 4, 5, 6, 7, 8, 9, 10]⟩] true) (.seq (.region 19 [q 83 (.mov (t 5)), q 84 (.blt 0 .len [(t 83)] [149]), q 85 (.bin .sub 3 (t 84) (.const (.int .i64 1))), q 14 (.asg 0 (t 85) 3)] false) (.seq (.region 20 [q 86 (.mov (t 14)), ⟨some 87, .bin .geq 3 (t 86) (.const (.int .i64 0)), none, [0]⟩, ⟨some 88, .mov (t 87), none, [1]⟩, ⟨some 89, .mov (t 5), some (88, true), [2]⟩, ⟨some 90, .mov (t 14), some (88, true), [2]⟩, ⟨some 91, .indexAddr 149 (t 89) (t 90), some (88, true), [3, 4, 2]⟩, ⟨some 92, .fieldAddr 152 (t 91) 0, some (88, true), [5, 2]⟩, ⟨some 93, .load 26 (t 92), some (88, true), [6, 2]⟩, ⟨some 94, .load 26 (t 13), some (88, true), [2]⟩, ⟨some 95, .bin .eql 26 (t 93) (t 94), some (88, true), [7, 8, 2]⟩, ⟨some 96, .pick (t 88) (t 95) (.const (.bool false)), none, [2, 9]⟩] true) (.cond (t 96) (.region 21 [q 97 (.mov (t 5)), q 98 (.mov (t 14)), q 99 (.mov (t 5)), q 100 (.mov (t 14)), q 101 (.indexAddr 149 (t 99) (t 100)), q 102 (.fieldAddr 152 (t 101) 1), q 103 (.load 2 (t 102)), q 104 (.bin .add 2 (t 103) (.const (.int .i64 1))), q 105 (.indexAddr 149 (t 97) (t 98)), q 106 (.fieldAddr 152 (t 105) 1), ⟨none, .store 2 (t 106) (t 104), none, []⟩] false) (.region 22 [q 107 (.mov (t 5)), q 108 (.load 26 (t 13)), q 109 (.build 152 [(0, (t 108)), (1, (.const (.int .i64 1)))]), q 110 (.bslice 0 149 1 [(0, (t 109))]), q 111 (.blt 0 .append [(t 107), (t 110)] [149, 149]), q 5 (.asg 2 (t 111) 149)] false))))) .skip))) (.seq (.region 23 [q 112 (.mov (t 5)), q 4 (.asg 1 (t 112) 149)] false) .ret)))))
def spec_l02Split_L : Live := [(0, [0, 1]), (1, [0, 3]), (2, [0, 3, 5]), (3, [0, 3, 5, 6]), (4, [0, 3, 5, 6]), (5, [0, 3, 5, 6]), (6, [0, 3, 5, 6, 7]), (7, [0, 3, 5, 6, 7]), (8, [0, 3, 5, 6, 7]), (9, [0, 3, 5, 6, 7, 8, 9]), (10, [0, 3, 5, 6, 7, 8, 9]), (11, [0, 3, 5, 6, 7, 8, 9, 10, 11]), (12, [0, 3, 5, 6, 7, 8, 9, 10]), (13, [0, 3, 5, 6, 7, 8, 9]), (14, [0, 3, 5, 6, 7, 8, 9]), (15, [0, 3, 5, 6, 7, 8, 9]), (16, [0, 3, 5]), (17, [0, 3, 5, 12]), (18, [0, 3, 5, 12]), (19, [5, 13]), (20, [5, 13, 14]), (21, [5, 14]), (22, [5, 13]), (23, [5]), (100020, [0, 3, 5, 6, 20]), (100038, [0, 3, 5, 6, 7, 38]), (100047, [0, 3, 5, 6, 7, 8, 9, 47]), (100057, [0, 3, 5, 6, 7, 8, 9, 10, 57]), (100062, [0, 3, 5, 6, 7, 8, 9, 62]), (100072, [0, 3, 5, 12, 72]), (100096, [5, 13, 14, 96])]
noncomputable def spec_l02Split_l3 (x5785 : Int) (a0 : Int) (r8569 : (Vec Int 64)) (x8639 : Int) (x8640 : (Vec Int 64)) : Option ((Int × (Vec Int 64)) ⊕ (Int × (Vec Int 64))) :=
  (Option.bind (spec_l01Deg x8640) fun r8659 => (if (decide (r8659 ≥ x5785)) then (Option.bind (spec_l01Divide a0 x8640 r8569) fun r8664 => (if (!decide (r8664.2 = ((vrep 64 (0 : Int))))) then (some (.inr (x8639, x8640))) else (some (.inl ((IntKind.i64.wrap (x8639 + 1), r8664.1)))))) else (some (.inr (x8639, x8640)))))
noncomputable def spec_l02Split_l2 (a0 : Int) (x5785 : Int) (x8198 : Int) (x8199 : (Vec Int 64)) (x8200 : (List ((Vec Int 64) × Int))) : Option ((Int × (Vec Int 64) × (List ((Vec Int 64) × Int))) ⊕ ((Vec Int 64) × (List ((Vec Int 64) × Int)))) :=
  (Option.bind (α := Bool) ((Option.bind (spec_l01Count a0 x5785) fun r8450 => (if (decide (x8198 < (IntKind.i64.wrap (2 * r8450)))) then (Option.bind (spec_l01Deg x8199) fun r8454 => (some ((decide ((IntKind.i64.wrap (2 * x5785)) ≤ r8454))))) else (some false)))) fun x8446 => (if x8446 then (Option.bind (α := ((Vec Int 64) × (List ((Vec Int 64) × Int)))) ((Option.bind (spec_l01Of a0 x8198) fun r8569 => (Option.bind (α := (Int × (Vec Int 64))) ((loopM (fun s : (Int × (Vec Int 64)) => spec_l02Split_l3 x5785 a0 r8569 s.1 s.2) (0, x8199))) fun ⟨x8620, x8621⟩ => (if (decide (x8620 > 0)) then (ifp ((x8200.length + ([(r8569, x8620)] : List ((Vec Int 64) × Int)).length) * 72 ≤ 140737488355328) ((some ((x8621, (x8200 ++ ([(r8569, x8620)]))))))) else (some (x8621, x8200)))))) fun ⟨x8564, x8565⟩ => (some (.inl ((IntKind.i64.wrap (x8198 + 1), x8564, x8565))))) else (some (.inr (x8199, x8200)))))
noncomputable def spec_l02Split_l1 (a0 : Int) (x5785 : Int) (x5786 : (Vec Int 64)) (x5787 : (List ((Vec Int 64) × Int))) : Option ((Int × (Vec Int 64) × (List ((Vec Int 64) × Int))) ⊕ ((Vec Int 64) × (List ((Vec Int 64) × Int)))) :=
  (Option.bind (spec_l01Deg x5786) fun r7235 => (if (decide ((IntKind.i64.wrap (2 * x5785)) ≤ r7235)) then (Option.bind (α := ((Vec Int 64) × (List ((Vec Int 64) × Int)))) ((Option.bind (spec_l01Count a0 x5785) fun r7960 => (loopM (fun s : (Int × (Vec Int 64) × (List ((Vec Int 64) × Int))) => spec_l02Split_l2 a0 x5785 s.1 s.2.1 s.2.2) (r7960, x5786, x5787)))) fun ⟨x7955, x7956⟩ => (some (.inl ((IntKind.i64.wrap (x5785 + 1), x7955, x7956))))) else (some (.inr (x5786, x5787)))))
noncomputable def spec_l02Split (a0 : Int) (a1 : (Vec Int 64)) : Option (List ((Vec Int 64) × Int)) :=
  (Option.bind (α := ((Vec Int 64) × (List ((Vec Int 64) × Int)))) ((loopM (fun s : (Int × (Vec Int 64) × (List ((Vec Int 64) × Int))) => spec_l02Split_l1 a0 s.1 s.2.1 s.2.2) (1, a1, []))) fun ⟨x4337, x4338⟩ => (Option.bind (α := (List ((Vec Int 64) × Int))) ((Option.bind (spec_l01Deg x4337) fun r8740 => (if (decide (r8740 > 0)) then (ifp (0 ≤ r8740 ∧ r8740 < ((64 : Nat) : Int)) ((Option.bind (spec_l01Inverse a0 (rd x4337.1 r8740.toNat)) fun r8754 => (Option.bind (spec_l01Add a0 ((vrep 64 (0 : Int))) x4337 (IntKind.i64.wrap r8754)) fun r8756 => (Option.bind (α := Bool) ((if (decide ((IntKind.i64.wrap ((x4338.length : Int) - 1)) ≥ 0)) then (ifp (0 ≤ IntKind.i64.wrap ((x4338.length : Int) - 1) ∧ IntKind.i64.wrap ((x4338.length : Int) - 1) < ((x4338.length : Nat) : Int)) ((letp (((rd x4338 (IntKind.i64.wrap ((x4338.length : Int) - 1)).toNat)).1) fun x8784 => (some ((decide (x8784 = r8756))))))) else (some false))) fun x8771 => (if x8771 then (ifp (0 ≤ IntKind.i64.wrap ((x4338.length : Int) - 1) ∧ IntKind.i64.wrap ((x4338.length : Int) - 1) < ((x4338.length : Nat) : Int)) ((letp (((rd x4338 (IntKind.i64.wrap ((x4338.length : Int) - 1)).toNat)).2) fun x8792 => (ifp (0 ≤ IntKind.i64.wrap ((x4338.length : Int) - 1) ∧ IntKind.i64.wrap ((x4338.length : Int) - 1) < ((x4338.length : Nat) : Int)) ((some ((x4338.set (IntKind.i64.wrap ((x4338.length : Int) - 1)).toNat ((((rd x4338 (IntKind.i64.wrap ((x4338.length : Int) - 1)).toNat)).1, IntKind.i64.wrap (x8792 + 1))))))))))) else (ifp ((x4338.length + ([(r8756, 1)] : List ((Vec Int 64) × Int)).length) * 72 ≤ 140737488355328) ((some ((x4338 ++ ([(r8756, 1)])))))))))))) else (some x4338)))) fun x8735 => (some x8735)))
theorem spec_l02Split_ok (a0 : Int) (a1 : (Vec Int 64)) (r : (List ((Vec Int 64) × Int))) (h : spec_l02Split a0 a1 = some r) : Den Try.prog 154 [(i6 a0), (eA64u8 a1)] { r := (eST_A64u8_i64_Z r) } := by
  refine den_of (rs := [(eST_A64u8_i64_Z r)]) (ac := spec_l02Split_c) (L := spec_l02Split_L) (n := 113) (m := [(4, 1), (5, 2), (15, 2)]) (c := Try.f154.body.getD .skip) good Try.func154 (by kernel_rfl) (by kernel_rfl) Try.ntmps154 rfl rfl (by kernel_rfl) rfl rfl ?_
  refine a_st (σ' := ⟨[(0, (i6 a0)), (1, (eA64u8 a1))], []⟩) (by kernel_rfl) ?_
  unfold spec_l02Split_c
  refine sr (vo 1300 (eA64u8 a1) rfl rfl (vp (eST_A64u8_i64_Z ([])) rfl (nx ⟨[(0, (i6 a0)), (3, (ow 3))], [(3, (bk (eA64u8 a1)))]⟩ (by kernel_rfl) (sr (vu (.osl 2500) [(2500, (bk (.row 65 (([]).map eT_A64u8_i64_Z))))] rfl ⟨(Nat.le_of_ble_eq_true rfl), (Nat.le_of_ble_eq_true rfl), all_nil⟩ rfl (vp (.osl 2500) rfl (nx ⟨[(0, (i6 a0)), (3, (ow 3)), (5, (.osl 5))], [(3, (bk (eA64u8 a1))), (5, (bk (.row 65 (([]).map eT_A64u8_i64_Z))))]⟩ (by kernel_rfl) ?_)))))))
  obtain ⟨y4339, hy4340, hk4341⟩ := bind_some h
  clear h
  refine a_join (emb := fun (s : ((Vec Int 64) × (List ((Vec Int 64) × Int)))) => ⟨[(0, (i6 a0)), (3, (ow 3)), (5, (.osl 5))], [(3, (bk (eA64u8 s.1))), (5, (bk (.row 65 (s.2.map eT_A64u8_i64_Z))))]⟩) (pre := fun s => s = y4339) ?_ ?_
  · rintro ⟨x4337, x4338⟩ rfl
    have h := hk4341
    refine a_st (σ' := ⟨[(0, (i6 a0)), (3, (ow 3)), (5, (.osl 5))], [(3, (bk (eA64u8 x4337))), (5, (bk (.row 65 (x4338.map eT_A64u8_i64_Z))))]⟩) (by kernel_rfl) ?_
    obtain ⟨y8736, hy8737, hk8738⟩ := bind_some h
    clear h
    refine a_join (emb := fun (s : (List ((Vec Int 64) × Int))) => ⟨[(5, (.osl 5))], [(5, (bk (.row 65 (s.map eT_A64u8_i64_Z))))]⟩) (pre := fun s => s = y8736) ?_ ?_
    · rintro x8735 rfl
      have h := hk8738
      refine a_st (σ' := ⟨[(5, (.osl 5))], [(5, (bk (.row 65 (x8735.map eT_A64u8_i64_Z))))]⟩) (by kernel_rfl) (sr (vp (.osl 5) rfl (vu (eST_A64u8_i64_Z x8735) [(5, (bf (.row 65 (x8735.map eT_A64u8_i64_Z))))] rfl trivial rfl (nx _ rfl (a_ret ?_)))))
      refine ⟨.inr rfl, ?_⟩
      rw [Try.results154]
      cases h
      exact ⟨_, _, _, _, _, rfl, trivial, .inl ⟨rfl, .inl rfl⟩, rfl, rfl⟩
    · have h := hy8737
      refine sr (vl (eA64u8 x4337) rfl rfl rfl rfl rfl rfl ?_)
      obtain ⟨r8740, hr8741, h⟩ := bind_some h
      refine a_call (args := [(eA64u8 x4337)]) (u := []) (r := (i6 r8740)) rfl rfl (spec_l01Deg_ok x4337 r8740 hr8741) rfl (vp (i6 r8740) rfl (nx ⟨[(0, (i6 a0)), (3, (ow 3)), (5, (.osl 5)), (12, (i6 r8740))], [(3, (bk (eA64u8 x4337))), (5, (bk (.row 65 (x4338.map eT_A64u8_i64_Z))))]⟩ (by kernel_rfl) (sr (vp (i6 r8740) rfl (vp (.bool ((decide (r8740 > 0)))) rfl (nx ⟨[(0, (i6 a0)), (3, (ow 3)), (5, (.osl 5)), (12, (i6 r8740)), (72, (.bool ((decide (r8740 > 0)))))], [(3, (bk (eA64u8 x4337))), (5, (bk (.row 65 (x4338.map eT_A64u8_i64_Z))))]⟩ (by kernel_rfl) ?_))))))
      cases hb8742 : (decide (r8740 > 0))
      · have h := ite_f hb8742 h
        refine a_cond_f rfl (a_skip ?_)
        exact j_leaf x4338 (Option.some.inj h) (by kernel_rfl)
      · have h := ite_t hb8742 h
        refine a_cond_t rfl (a_seq (a_draw [⟨[], [], [], []⟩, ⟨[], [], [], []⟩, ⟨[3], [], [], []⟩, ⟨[], [], [], []⟩, ⟨[], [], [], []⟩, ⟨[3], [], [3], [4]⟩, ⟨[3], [], [], [4, 5]⟩, ⟨[], [], [], [3, 4, 5, 6]⟩, ⟨[], [], [], [3, 4, 5, 6, 7]⟩, ⟨[], [], [], [0, 1, 2, 3, 4, 5, 6, 7, 8]⟩, ⟨[2300], [2300], [2300], []⟩, ⟨[2300], [2300], [], [0, 1, 2, 3, 4, 5, 6, 7, 8, 9, 10]⟩] (by kernel_rfl) (dp (i6 a0) rfl (by kernel_rfl) (d_cons (vq (eA64u8 ((vrep 64 (0 : Int)))) rfl ⟨⟨_, rfl, rfl⟩, all_nil⟩ (d_next (by kernel_rfl) (d_cons (vl (eA64u8 x4337) rfl rfl rfl rfl rfl rfl (d_next (by kernel_rfl) ?_)))))))))
        refine dp (i6 a0) rfl (by kernel_rfl) (dp (i6 r8740) rfl (by kernel_rfl) (d_cons ?_))
        obtain ⟨hc8752, h⟩ := ifp_some h
        refine vq (.own 3 [r8740.toNat] [r8740.toNat * 1]) rfl hc8752 (d_next (by kernel_rfl) (d_cons ?_))
        have hl8753 : LdOk [r8740.toNat] (eA64u8 x4337) [r8740.toNat * 1] 1 false (b8 (rd x4337.1 r8740.toNat)) := (.arr (vlt x4337 hc8752) rfl (.nil rfl rfl rfl))
        refine vq (b8 (rd x4337.1 r8740.toNat)) (ld_own (i := ⟨.int .u8, 1, 1, (.int .u8 0)⟩) rfl rfl rfl hl8753) hl8753.c (d_next (by kernel_rfl) (d_cons ?_))
        obtain ⟨r8754, hr8755, h⟩ := bind_some h
        refine a_call (args := [(i6 a0), (b8 (rd x4337.1 r8740.toNat))]) (u := []) (r := (b8 r8754)) rfl rfl (spec_l01Inverse_ok a0 (rd x4337.1 r8740.toNat) r8754 hr8755) rfl (d_next (by kernel_rfl) (dp (i6 (IntKind.i64.wrap r8754)) rfl (by kernel_rfl) (d_cons ?_)))
        obtain ⟨r8756, hr8757, h⟩ := bind_some h
        refine a_call (args := [(i6 a0), (eA64u8 ((vrep 64 (0 : Int)))), (eA64u8 x4337), (i6 (IntKind.i64.wrap r8754))]) (u := []) (r := (eA64u8 r8756)) rfl rfl (spec_l01Add_ok a0 ((vrep 64 (0 : Int))) x4337 (IntKind.i64.wrap r8754) r8756 hr8757) rfl (d_next (by kernel_rfl) (d_cons (vo 2300 (eA64u8 ((vrep 64 (0 : Int)))) rfl rfl (d_next (by kernel_rfl) (d_cons (vs (eA64u8 r8756) rfl rfl (fun _ => rfl) rfl rfl rfl rfl rfl rfl (d_next (by kernel_rfl) (d_nil (a_next (σ' := ⟨[(5, (.osl 5)), (13, (ow 13))], [(5, (bk (.row 65 (x4338.map eT_A64u8_i64_Z)))), (13, (bk (eA64u8 r8756)))]⟩) (by kernel_rfl) ?_)))))))))
        refine sr (vp (.osl 5) rfl (vq (i6 (x4338.length : Int)) (leno_run rfl rfl rfl) trivial (vp (i6 (IntKind.i64.wrap ((x4338.length : Int) - 1))) rfl (vp (i6 (IntKind.i64.wrap ((x4338.length : Int) - 1))) rfl (nx ⟨[(5, (.osl 5)), (13, (ow 13)), (14, (i6 (IntKind.i64.wrap ((x4338.length : Int) - 1))))], [(5, (bk (.row 65 (x4338.map eT_A64u8_i64_Z)))), (13, (bk (eA64u8 r8756)))]⟩ (by kernel_rfl) ?_)))))
        obtain ⟨y8772, hy8773, hk8774⟩ := bind_some h
        clear h
        refine a_join (emb := fun (s : Bool) => ⟨[(5, (.osl 5)), (13, (ow 13)), (14, (i6 (IntKind.i64.wrap ((x4338.length : Int) - 1)))), (96, (.bool s))], [(5, (bk (.row 65 (x4338.map eT_A64u8_i64_Z)))), (13, (bk (eA64u8 r8756)))]⟩) (pre := fun s => s = y8772) ?_ ?_
        · rintro x8771 rfl
          have h := hk8774
          refine a_st (σ' := ⟨[(5, (.osl 5)), (13, (ow 13)), (14, (i6 (IntKind.i64.wrap ((x4338.length : Int) - 1)))), (96, (.bool x8771))], [(5, (bk (.row 65 (x4338.map eT_A64u8_i64_Z)))), (13, (bk (eA64u8 r8756)))]⟩) (by kernel_rfl) ?_
          cases hb8787 : x8771
          · have h := ite_f hb8787 h
            refine a_cond_f rfl (a_region (vp (.osl 5) rfl (vl (eA64u8 r8756) rfl rfl rfl rfl rfl rfl (vq (eT_A64u8_i64_Z (r8756, 1)) rfl ⟨rfl, (all_cons ⟨(Nat.le_of_ble_eq_true rfl), rfl⟩ (all_cons ⟨(Nat.le_of_ble_eq_true rfl), rfl⟩ all_nil))⟩ (vq (.sl 65 true (([(r8756, 1)]).map eT_A64u8_i64_Z)) rfl ⟨(Nat.le_of_ble_eq_true rfl), (Nat.le_of_ble_eq_true rfl), (all_cons ⟨(Nat.le_of_ble_eq_true rfl), rfl⟩ all_nil)⟩ ?_)))))
            obtain ⟨hc8789, h⟩ := ifp_some h
            refine vu (.osl 12100) [(12100, (bk (.row 65 (((x4338 ++ ([(r8756, 1)]))).map eT_A64u8_i64_Z)))), (5, none)] (app_run (i := ⟨.struct [(0, 26), (64, 2)], 65, 72, (eT_A64u8_i64_Z ((vrep 64 (0 : Int)), (0 : Int)))⟩) (f := eT_A64u8_i64_Z) (l := x4338) (l2 := [(r8756, 1)]) rfl rfl rfl rfl (fun _ => rfl) rfl rfl) (app_c (f := eT_A64u8_i64_Z) (s := 65) (sz := 65) (by' := 72) (u := []) (id := 5) hc8789 (.inr rfl) rfl rfl rfl) rfl (vp (.osl 12100) rfl (a_nil ?_))
            exact j_leaf ((x4338 ++ ([(r8756, 1)]))) (Option.some.inj h) (by kernel_rfl)
          · have h := ite_t hb8787 h
            refine a_cond_t rfl (a_region (vp (.osl 5) rfl (vp (i6 (IntKind.i64.wrap ((x4338.length : Int) - 1))) rfl (vp (.osl 5) rfl (vp (i6 (IntKind.i64.wrap ((x4338.length : Int) - 1))) rfl ?_)))))
            obtain ⟨hc8790, h⟩ := ifp_some h
            refine vq (.own 5 [(IntKind.i64.wrap ((x4338.length : Int) - 1)).toNat] [(IntKind.i64.wrap ((x4338.length : Int) - 1)).toNat * 65]) rfl (lmap hc8790) (vb (.own 5 [(IntKind.i64.wrap ((x4338.length : Int) - 1)).toNat, 1] [(IntKind.i64.wrap ((x4338.length : Int) - 1)).toNat * 65, 64]) rfl rfl ?_)
            have hl8791 : LdOk [(IntKind.i64.wrap ((x4338.length : Int) - 1)).toNat, 1] (.row 65 (x4338.map eT_A64u8_i64_Z)) [(IntKind.i64.wrap ((x4338.length : Int) - 1)).toNat * 65, 64] 1 false (i6 (((rd x4338 (IntKind.i64.wrap ((x4338.length : Int) - 1)).toNat)).2)) := (.row (llt hc8790) rfl (.fld rfl rfl rfl rfl (.nil rfl rfl rfl)))
            obtain ⟨x8792, hx8793, h⟩ := letp_some h
            refine a_val' (v := (i6 (((rd x4338 (IntKind.i64.wrap ((x4338.length : Int) - 1)).toNat)).2))) (v' := (i6 x8792)) (u := []) (u' := []) (ld_own (i := ⟨.int .i64, 1, 8, (.int .i64 0)⟩) rfl rfl rfl hl8791) (congrArg (fun z => ((i6 z) : AV)) hx8793) rfl hl8791.c rfl (vp (i6 (IntKind.i64.wrap (x8792 + 1))) rfl ?_)
            obtain ⟨hc8794, h⟩ := ifp_some h
            refine vq (.own 5 [(IntKind.i64.wrap ((x4338.length : Int) - 1)).toNat] [(IntKind.i64.wrap ((x4338.length : Int) - 1)).toNat * 65]) rfl (lmap hc8794) (vb (.own 5 [(IntKind.i64.wrap ((x4338.length : Int) - 1)).toNat, 1] [(IntKind.i64.wrap ((x4338.length : Int) - 1)).toNat * 65, 64]) rfl rfl ?_)
            have hs8795 : StOk [(IntKind.i64.wrap ((x4338.length : Int) - 1)).toNat, 1] (.row 65 (x4338.map eT_A64u8_i64_Z)) [(IntKind.i64.wrap ((x4338.length : Int) - 1)).toNat * 65, 64] 1 (i6 (IntKind.i64.wrap (x8792 + 1))) (.row 65 (((x4338.set (IntKind.i64.wrap ((x4338.length : Int) - 1)).toNat ((((rd x4338 (IntKind.i64.wrap ((x4338.length : Int) - 1)).toNat)).1, IntKind.i64.wrap (x8792 + 1))))).map eT_A64u8_i64_Z)) := (.row (y := (((rd x4338 (IntKind.i64.wrap ((x4338.length : Int) - 1)).toNat)).1, IntKind.i64.wrap (x8792 + 1))) (llt hc8794) rfl (.fld rfl rfl rfl rfl (.nil rfl rfl rfl rfl)))
            refine vu .top [(5, (bk (.row 65 (((x4338.set (IntKind.i64.wrap ((x4338.length : Int) - 1)).toNat ((((rd x4338 (IntKind.i64.wrap ((x4338.length : Int) - 1)).toNat)).1, IntKind.i64.wrap (x8792 + 1))))).map eT_A64u8_i64_Z))))] (st_own (i := ⟨.int .i64, 1, 8, (.int .i64 0)⟩) rfl rfl (fun _ => rfl) rfl hs8795) (hs8795.c rfl) rfl (a_nil ?_)
            exact j_leaf ((x4338.set (IntKind.i64.wrap ((x4338.length : Int) - 1)).toNat ((((rd x4338 (IntKind.i64.wrap ((x4338.length : Int) - 1)).toNat)).1, IntKind.i64.wrap (x8792 + 1))))) (Option.some.inj h) (by kernel_rfl)
        · have h := hy8773
          refine a_draw [⟨[], [], [], []⟩, ⟨[], [], [], [0]⟩, ⟨[], [], [], [0, 1]⟩, ⟨[], [], [5], [0, 1, 2]⟩, ⟨[], [], [], [0, 1, 2]⟩, ⟨[5], [], [5], [0, 1, 2, 3, 4]⟩, ⟨[5], [], [5], [0, 1, 2, 3, 4, 5]⟩, ⟨[5], [], [], [0, 1, 2, 3, 4, 5, 6]⟩, ⟨[13], [], [], [0, 1, 2]⟩, ⟨[], [], [], [0, 1, 2, 3, 4, 5, 6, 7, 8]⟩, ⟨[], [], [], [0, 1, 2, 3, 4, 5, 6, 7, 8, 9]⟩] (by kernel_rfl) (dp (i6 (IntKind.i64.wrap ((x4338.length : Int) - 1))) rfl (by kernel_rfl) (dp (.bool ((decide ((IntKind.i64.wrap ((x4338.length : Int) - 1)) ≥ 0)))) rfl (by kernel_rfl) (dp (.bool ((decide ((IntKind.i64.wrap ((x4338.length : Int) - 1)) ≥ 0)))) rfl (by kernel_rfl) ?_)))
          cases hb8781 : (decide ((IntKind.i64.wrap ((x4338.length : Int) - 1)) ≥ 0))
          · have h := ite_f hb8781 h
            refine dk rfl (by kernel_rfl) (dk rfl (by kernel_rfl) (dk rfl (by kernel_rfl) (dk rfl (by kernel_rfl) (dk rfl (by kernel_rfl) (dk rfl (by kernel_rfl) (dk rfl (by kernel_rfl) (dp (.bool false) rfl (by kernel_rfl) (d_nil ?_))))))))
            exact j_leaf false (Option.some.inj h) (by kernel_rfl)
          · have h := ite_t hb8781 h
            refine dg (.osl 5) rfl rfl (by kernel_rfl) (dg (i6 (IntKind.i64.wrap ((x4338.length : Int) - 1))) rfl rfl (by kernel_rfl) (d_cons ?_))
            obtain ⟨hc8782, h⟩ := ifp_some h
            refine gq (.own 5 [(IntKind.i64.wrap ((x4338.length : Int) - 1)).toNat] [(IntKind.i64.wrap ((x4338.length : Int) - 1)).toNat * 65]) rfl rfl (lmap hc8782) (d_next (by kernel_rfl) (d_cons (gq (.own 5 [(IntKind.i64.wrap ((x4338.length : Int) - 1)).toNat, 0] [(IntKind.i64.wrap ((x4338.length : Int) - 1)).toNat * 65, 0]) rfl rfl (Nat.le_of_ble_eq_true rfl) (d_next (by kernel_rfl) (d_cons ?_)))))
            have hl8783 : LdOk [(IntKind.i64.wrap ((x4338.length : Int) - 1)).toNat, 0] (.row 65 (x4338.map eT_A64u8_i64_Z)) [(IntKind.i64.wrap ((x4338.length : Int) - 1)).toNat * 65, 0] 64 true (eA64u8 (((rd x4338 (IntKind.i64.wrap ((x4338.length : Int) - 1)).toNat)).1)) := (.row (llt hc8782) rfl (.fld rfl rfl rfl rfl (.nil rfl rfl rfl)))
            obtain ⟨x8784, hx8785, h⟩ := letp_some h
            refine a_gval' rfl (v := (eA64u8 (((rd x4338 (IntKind.i64.wrap ((x4338.length : Int) - 1)).toNat)).1))) (v' := (eA64u8 x8784)) (u := []) (u' := []) (ld_own (i := ⟨.arr 64 5, 64, 64, (eA64u8 (vrep 64 (0 : Int)))⟩) rfl rfl rfl hl8783) (congrArg (fun z => ((eA64u8 z) : AV)) hx8785) rfl hl8783.c rfl (d_next (by kernel_rfl) (d_cons ?_))
            have hl8786 : LdOk [] (eA64u8 r8756) [] 64 true (eA64u8 r8756) := (.nil rfl rfl rfl)
            refine gq (eA64u8 r8756) rfl (ld_own (i := ⟨.arr 64 5, 64, 64, (eA64u8 (vrep 64 (0 : Int)))⟩) rfl rfl rfl hl8786) hl8786.c (d_next (by kernel_rfl) (d_cons (gq (.bool ((decide (x8784 = r8756)))) rfl (eqa_run (f := (AV.int .u8)) (a := x8784.1) (b := r8756.1) rfl rfl (eqb_vec (fun _ _ => eqb_int _ _) x8784 r8756)) (cmp_arr (g := 8) (f := (AV.int .u8)) (x := x8784) (y := r8756) rfl rfl rfl (fun _ _ => rfl) (fun _ _ => cmp_int rfl)) (d_next (by kernel_rfl) (dp (.bool ((decide (x8784 = r8756)))) rfl (by kernel_rfl) (d_nil ?_))))))
            exact j_leaf ((decide (x8784 = r8756))) (Option.some.inj h) (by kernel_rfl)
  · have h := hy4340
    refine sr (vp (i6 1) rfl (nx ⟨[(0, (i6 a0)), (3, (ow 3)), (5, (.osl 5)), (6, (i6 1))], [(3, (bk (eA64u8 a1))), (5, (bk (.row 65 (([]).map eT_A64u8_i64_Z))))]⟩ (by kernel_rfl) (a_block ?_)))
    refine a_loop (emb := fun (s : (Int × (Vec Int 64) × (List ((Vec Int 64) × Int)))) => ⟨[(0, (i6 a0)), (3, (ow 3)), (5, (.osl 5)), (6, (i6 s.1))], [(3, (bk (eA64u8 s.2.1))), (5, (bk (.row 65 (s.2.2.map eT_A64u8_i64_Z))))]⟩) (body := (fun s : (Int × (Vec Int 64) × (List ((Vec Int 64) × Int))) => spec_l02Split_l1 a0 s.1 s.2.1 s.2.2)) (G := fun q => some q = some y4339) h rfl ?_ (by kernel_rfl)
    rintro X7231 ⟨x5785, x5786, x5787⟩ x7232 h hX7233
    have h : spec_l02Split_l1 a0 x5785 x5786 x5787 = some x7232 := h
    refine a_st (σ' := ⟨[(0, (i6 a0)), (3, (ow 3)), (5, (.osl 5)), (6, (i6 x5785))], [(3, (bk (eA64u8 x5786))), (5, (bk (.row 65 (x5787.map eT_A64u8_i64_Z))))]⟩) (by kernel_rfl) (a_seq (sr (vp (i6 x5785) rfl (vp (i6 (IntKind.i64.wrap (2 * x5785))) rfl (vl (eA64u8 x5786) rfl rfl rfl rfl rfl rfl ?_)))))
    obtain ⟨r7235, hr7236, h⟩ := bind_some h
    refine a_call (args := [(eA64u8 x5786)]) (u := []) (r := (i6 r7235)) rfl rfl (spec_l01Deg_ok x5786 r7235 hr7236) rfl (vp (.bool ((decide ((IntKind.i64.wrap (2 * x5785)) ≤ r7235)))) rfl (nx ⟨[(0, (i6 a0)), (3, (ow 3)), (5, (.osl 5)), (6, (i6 x5785)), (20, (.bool ((decide ((IntKind.i64.wrap (2 * x5785)) ≤ r7235)))))], [(3, (bk (eA64u8 x5786))), (5, (bk (.row 65 (x5787.map eT_A64u8_i64_Z))))]⟩ (by kernel_rfl) ?_))
    cases hb7237 : (decide ((IntKind.i64.wrap (2 * x5785)) ≤ r7235))
    · have h := ite_f hb7237 h
      refine a_cond_f rfl (a_exit (t_exit ?_))
      cases h
      have h := hX7233
      refine t_exit (b_exit ?_)
      exact j_leaf (x5786, x5787) (Option.some.inj h) (by kernel_rfl)
    · have h := ite_t hb7237 h
      refine a_cond_t rfl (a_skip (a_next (σ' := ⟨[(0, (i6 a0)), (3, (ow 3)), (5, (.osl 5)), (6, (i6 x5785))], [(3, (bk (eA64u8 x5786))), (5, (bk (.row 65 (x5787.map eT_A64u8_i64_Z))))]⟩) (by kernel_rfl) ?_))
      obtain ⟨y7957, hy7958, hk7959⟩ := bind_some h
      clear h
      refine a_join (emb := fun (s : ((Vec Int 64) × (List ((Vec Int 64) × Int)))) => ⟨[(0, (i6 a0)), (3, (ow 3)), (5, (.osl 5)), (6, (i6 x5785))], [(3, (bk (eA64u8 s.1))), (5, (bk (.row 65 (s.2.map eT_A64u8_i64_Z))))]⟩) (pre := fun s => s = y7957) ?_ ?_
      · rintro ⟨x7955, x7956⟩ rfl
        have h := hk7959
        refine a_st (σ' := ⟨[(0, (i6 a0)), (3, (ow 3)), (5, (.osl 5)), (6, (i6 x5785))], [(3, (bk (eA64u8 x7955))), (5, (bk (.row 65 (x7956.map eT_A64u8_i64_Z))))]⟩) (by kernel_rfl) (a_region (vp (i6 x5785) rfl (vp (i6 (IntKind.i64.wrap (x5785 + 1))) rfl (vp (i6 (IntKind.i64.wrap (x5785 + 1))) rfl (a_nil ?_)))))
        cases h
        exact a_again (by kernel_rfl) hX7233
      · have h := hy7958
        refine a_block (sr (vp (i6 a0) rfl (vp (i6 x5785) rfl ?_)))
        obtain ⟨r7960, hr7961, h⟩ := bind_some h
        refine a_call (args := [(i6 a0), (i6 x5785)]) (u := []) (r := (i6 r7960)) rfl rfl (spec_l01Count_ok a0 x5785 r7960 hr7961) rfl (vp (i6 r7960) rfl (nx ⟨[(0, (i6 a0)), (3, (ow 3)), (5, (.osl 5)), (6, (i6 x5785)), (7, (i6 r7960))], [(3, (bk (eA64u8 x5786))), (5, (bk (.row 65 (x5787.map eT_A64u8_i64_Z))))]⟩ (by kernel_rfl) (a_block ?_)))
        refine a_loop (emb := fun (s : (Int × (Vec Int 64) × (List ((Vec Int 64) × Int)))) => ⟨[(0, (i6 a0)), (3, (ow 3)), (5, (.osl 5)), (6, (i6 x5785)), (7, (i6 s.1))], [(3, (bk (eA64u8 s.2.1))), (5, (bk (.row 65 (s.2.2.map eT_A64u8_i64_Z))))]⟩) (body := (fun s : (Int × (Vec Int 64) × (List ((Vec Int 64) × Int))) => spec_l02Split_l2 a0 x5785 s.1 s.2.1 s.2.2)) (G := fun q => some q = some y7957) h rfl ?_ (by kernel_rfl)
        rintro X8437 ⟨x8198, x8199, x8200⟩ x8438 h hX8439
        have h : spec_l02Split_l2 a0 x5785 x8198 x8199 x8200 = some x8438 := h
        refine a_st (σ' := ⟨[(0, (i6 a0)), (3, (ow 3)), (5, (.osl 5)), (6, (i6 x5785)), (7, (i6 x8198))], [(3, (bk (eA64u8 x8199))), (5, (bk (.row 65 (x8200.map eT_A64u8_i64_Z))))]⟩) (by kernel_rfl) (a_seq ?_)
        obtain ⟨y8447, hy8448, hk8449⟩ := bind_some h
        clear h
        refine a_join (emb := fun (s : Bool) => ⟨[(0, (i6 a0)), (3, (ow 3)), (5, (.osl 5)), (6, (i6 x5785)), (7, (i6 x8198)), (38, (.bool s))], [(3, (bk (eA64u8 x8199))), (5, (bk (.row 65 (x8200.map eT_A64u8_i64_Z))))]⟩) (pre := fun s => s = y8447) ?_ ?_
        · rintro x8446 rfl
          have h := hk8449
          refine a_st (σ' := ⟨[(0, (i6 a0)), (3, (ow 3)), (5, (.osl 5)), (6, (i6 x5785)), (7, (i6 x8198)), (38, (.bool x8446))], [(3, (bk (eA64u8 x8199))), (5, (bk (.row 65 (x8200.map eT_A64u8_i64_Z))))]⟩) (by kernel_rfl) ?_
          cases hb8456 : x8446
          · have h := ite_f hb8456 h
            refine a_cond_f rfl (a_exit (t_exit ?_))
            cases h
            have h := hX8439
            refine t_exit (b_exit (b_norm ?_))
            exact j_leaf (x8199, x8200) (Option.some.inj h) (by kernel_rfl)
          · have h := ite_t hb8456 h
            refine a_cond_t rfl (a_skip (a_next (σ' := ⟨[(0, (i6 a0)), (3, (ow 3)), (5, (.osl 5)), (6, (i6 x5785)), (7, (i6 x8198))], [(3, (bk (eA64u8 x8199))), (5, (bk (.row 65 (x8200.map eT_A64u8_i64_Z))))]⟩) (by kernel_rfl) ?_))
            obtain ⟨y8566, hy8567, hk8568⟩ := bind_some h
            clear h
            refine a_join (emb := fun (s : ((Vec Int 64) × (List ((Vec Int 64) × Int)))) => ⟨[(0, (i6 a0)), (3, (ow 3)), (5, (.osl 5)), (6, (i6 x5785)), (7, (i6 x8198))], [(3, (bk (eA64u8 s.1))), (5, (bk (.row 65 (s.2.map eT_A64u8_i64_Z))))]⟩) (pre := fun s => s = y8566) ?_ ?_
            · rintro ⟨x8564, x8565⟩ rfl
              have h := hk8568
              refine a_st (σ' := ⟨[(0, (i6 a0)), (3, (ow 3)), (5, (.osl 5)), (6, (i6 x5785)), (7, (i6 x8198))], [(3, (bk (eA64u8 x8564))), (5, (bk (.row 65 (x8565.map eT_A64u8_i64_Z))))]⟩) (by kernel_rfl) (a_region (vp (i6 x8198) rfl (vp (i6 (IntKind.i64.wrap (x8198 + 1))) rfl (vp (i6 (IntKind.i64.wrap (x8198 + 1))) rfl (a_nil ?_)))))
              cases h
              exact a_again (by kernel_rfl) hX8439
            · have h := hy8567
              refine a_block (sr (vp (i6 a0) rfl (vp (i6 x8198) rfl ?_)))
              obtain ⟨r8569, hr8570, h⟩ := bind_some h
              refine a_call (args := [(i6 a0), (i6 x8198)]) (u := []) (r := (eA64u8 r8569)) rfl rfl (spec_l01Of_ok a0 x8198 r8569 hr8570) rfl (vo 1800 (eA64u8 ((vrep 64 (0 : Int)))) rfl rfl (vs (eA64u8 r8569) rfl rfl (fun _ => rfl) rfl rfl rfl rfl rfl rfl (vp (i6 0) rfl (nx ⟨[(0, (i6 a0)), (3, (ow 3)), (5, (.osl 5)), (6, (i6 x5785)), (7, (i6 x8198)), (8, (ow 8)), (9, (i6 0))], [(3, (bk (eA64u8 x8199))), (5, (bk (.row 65 (x8200.map eT_A64u8_i64_Z)))), (8, (bk (eA64u8 r8569)))]⟩ (by kernel_rfl) ?_))))
              obtain ⟨y8622, hy8623, hk8624⟩ := bind_some h
              clear h
              refine a_join (emb := fun (s : (Int × (Vec Int 64))) => ⟨[(0, (i6 a0)), (3, (ow 3)), (5, (.osl 5)), (6, (i6 x5785)), (7, (i6 x8198)), (8, (ow 8)), (9, (i6 s.1))], [(3, (bk (eA64u8 s.2))), (5, (bk (.row 65 (x8200.map eT_A64u8_i64_Z)))), (8, (bk (eA64u8 r8569)))]⟩) (pre := fun s => s = y8622) ?_ ?_
              · rintro ⟨x8620, x8621⟩ rfl
                have h := hk8624
                refine a_st (σ' := ⟨[(0, (i6 a0)), (3, (ow 3)), (5, (.osl 5)), (6, (i6 x5785)), (7, (i6 x8198)), (8, (ow 8)), (9, (i6 x8620))], [(3, (bk (eA64u8 x8621))), (5, (bk (.row 65 (x8200.map eT_A64u8_i64_Z)))), (8, (bk (eA64u8 r8569)))]⟩) (by kernel_rfl) (sr (vp (i6 x8620) rfl (vp (.bool ((decide (x8620 > 0)))) rfl (nx ⟨[(0, (i6 a0)), (3, (ow 3)), (5, (.osl 5)), (6, (i6 x5785)), (7, (i6 x8198)), (8, (ow 8)), (9, (i6 x8620)), (62, (.bool ((decide (x8620 > 0)))))], [(3, (bk (eA64u8 x8621))), (5, (bk (.row 65 (x8200.map eT_A64u8_i64_Z)))), (8, (bk (eA64u8 r8569)))]⟩ (by kernel_rfl) ?_))))
                cases hb8673 : (decide (x8620 > 0))
                · have h := ite_f hb8673 h
                  refine a_cond_f rfl (a_skip (b_norm ?_))
                  exact j_leaf (x8621, x8200) (Option.some.inj h) (by kernel_rfl)
                · have h := ite_t hb8673 h
                  refine a_cond_t rfl (a_region (vp (.osl 5) rfl (vl (eA64u8 r8569) rfl rfl rfl rfl rfl rfl (vp (i6 x8620) rfl (vq (eT_A64u8_i64_Z (r8569, x8620)) rfl ⟨rfl, (all_cons ⟨(Nat.le_of_ble_eq_true rfl), rfl⟩ (all_cons ⟨(Nat.le_of_ble_eq_true rfl), rfl⟩ all_nil))⟩ (vq (.sl 65 true (([(r8569, x8620)]).map eT_A64u8_i64_Z)) rfl ⟨(Nat.le_of_ble_eq_true rfl), (Nat.le_of_ble_eq_true rfl), (all_cons ⟨(Nat.le_of_ble_eq_true rfl), rfl⟩ all_nil)⟩ ?_))))))
                  obtain ⟨hc8675, h⟩ := ifp_some h
                  refine vu (.osl 7800) [(7800, (bk (.row 65 (((x8200 ++ ([(r8569, x8620)]))).map eT_A64u8_i64_Z)))), (5, none)] (app_run (i := ⟨.struct [(0, 26), (64, 2)], 65, 72, (eT_A64u8_i64_Z ((vrep 64 (0 : Int)), (0 : Int)))⟩) (f := eT_A64u8_i64_Z) (l := x8200) (l2 := [(r8569, x8620)]) rfl rfl rfl rfl (fun _ => rfl) rfl rfl) (app_c (f := eT_A64u8_i64_Z) (s := 65) (sz := 65) (by' := 72) (u := []) (id := 5) hc8675 (.inr rfl) rfl rfl rfl) rfl (vp (.osl 7800) rfl (a_nil (b_norm ?_)))
                  exact j_leaf ((x8621, (x8200 ++ ([(r8569, x8620)])))) (Option.some.inj h) (by kernel_rfl)
              · have h := hy8623
                refine a_block ?_
                refine a_loop (emb := fun (s : (Int × (Vec Int 64))) => ⟨[(0, (i6 a0)), (3, (ow 3)), (5, (.osl 5)), (6, (i6 x5785)), (7, (i6 x8198)), (8, (ow 8)), (9, (i6 s.1))], [(3, (bk (eA64u8 s.2))), (5, (bk (.row 65 (x8200.map eT_A64u8_i64_Z)))), (8, (bk (eA64u8 r8569)))]⟩) (body := (fun s : (Int × (Vec Int 64)) => spec_l02Split_l3 x5785 a0 r8569 s.1 s.2)) (G := fun q => some q = some y8622) h rfl ?_ (by kernel_rfl)
                rintro X8655 ⟨x8639, x8640⟩ x8656 h hX8657
                have h : spec_l02Split_l3 x5785 a0 r8569 x8639 x8640 = some x8656 := h
                refine a_st (σ' := ⟨[(0, (i6 a0)), (3, (ow 3)), (5, (.osl 5)), (6, (i6 x5785)), (7, (i6 x8198)), (8, (ow 8)), (9, (i6 x8639))], [(3, (bk (eA64u8 x8640))), (5, (bk (.row 65 (x8200.map eT_A64u8_i64_Z)))), (8, (bk (eA64u8 r8569)))]⟩) (by kernel_rfl) (a_seq (sr (vl (eA64u8 x8640) rfl rfl rfl rfl rfl rfl ?_)))
                obtain ⟨r8659, hr8660, h⟩ := bind_some h
                refine a_call (args := [(eA64u8 x8640)]) (u := []) (r := (i6 r8659)) rfl rfl (spec_l01Deg_ok x8640 r8659 hr8660) rfl (vp (i6 x5785) rfl (vp (.bool ((decide (r8659 ≥ x5785)))) rfl (nx ⟨[(0, (i6 a0)), (3, (ow 3)), (5, (.osl 5)), (6, (i6 x5785)), (7, (i6 x8198)), (8, (ow 8)), (9, (i6 x8639)), (47, (.bool ((decide (r8659 ≥ x5785)))))], [(3, (bk (eA64u8 x8640))), (5, (bk (.row 65 (x8200.map eT_A64u8_i64_Z)))), (8, (bk (eA64u8 r8569)))]⟩ (by kernel_rfl) ?_)))
                cases hb8661 : (decide (r8659 ≥ x5785))
                · have h := ite_f hb8661 h
                  refine a_cond_f rfl (a_exit (t_exit ?_))
                  cases h
                  have h := hX8657
                  refine t_exit (b_exit ?_)
                  exact j_leaf (x8639, x8640) (Option.some.inj h) (by kernel_rfl)
                · have h := ite_t hb8661 h
                  refine a_cond_t rfl (a_skip (a_next (σ' := ⟨[(0, (i6 a0)), (3, (ow 3)), (5, (.osl 5)), (6, (i6 x5785)), (7, (i6 x8198)), (8, (ow 8)), (9, (i6 x8639))], [(3, (bk (eA64u8 x8640))), (5, (bk (.row 65 (x8200.map eT_A64u8_i64_Z)))), (8, (bk (eA64u8 r8569)))]⟩) (by kernel_rfl) (a_block (sr (vp (i6 a0) rfl (vl (eA64u8 x8640) rfl rfl rfl rfl rfl rfl (vl (eA64u8 r8569) rfl rfl rfl rfl rfl rfl ?_)))))))
                  obtain ⟨r8664, hr8665, h⟩ := bind_some h
                  refine a_call (args := [(i6 a0), (eA64u8 x8640), (eA64u8 r8569)]) (u := []) (r := (.tuple [(eA64u8 r8664.1), (eA64u8 r8664.2)])) rfl rfl (spec_l01Divide_ok a0 x8640 r8569 r8664 hr8665) rfl (vp (.tuple [(eA64u8 r8664.1), (eA64u8 r8664.2)]) rfl (vb (eA64u8 r8664.1) rfl rfl (vb (eA64u8 r8664.2) rfl rfl (vo 2000 (eA64u8 ((vrep 64 (0 : Int)))) rfl rfl (vo 2100 (eA64u8 ((vrep 64 (0 : Int)))) rfl rfl (vs (eA64u8 r8664.1) rfl rfl (fun _ => rfl) rfl rfl rfl rfl rfl rfl (vs (eA64u8 r8664.2) rfl rfl (fun _ => rfl) rfl rfl rfl rfl rfl rfl (nx ⟨[(0, (i6 a0)), (3, (ow 3)), (5, (.osl 5)), (6, (i6 x5785)), (7, (i6 x8198)), (8, (ow 8)), (9, (i6 x8639)), (10, (ow 10)), (11, (ow 11))], [(3, (bk (eA64u8 x8640))), (5, (bk (.row 65 (x8200.map eT_A64u8_i64_Z)))), (8, (bk (eA64u8 r8569))), (10, (bk (eA64u8 r8664.1))), (11, (bk (eA64u8 r8664.2)))]⟩ (by kernel_rfl) (a_seq ?_)))))))))
                  refine sr (vl (eA64u8 r8664.2) rfl rfl rfl rfl rfl rfl (vq (eA64u8 ((vrep 64 (0 : Int)))) rfl ⟨⟨_, rfl, rfl⟩, all_nil⟩ (vq (.bool ((!decide (r8664.2 = ((vrep 64 (0 : Int))))))) (nea_run (f := (AV.int .u8)) (a := r8664.2.1) (b := ((vrep 64 (0 : Int))).1) rfl rfl (eqb_vec (fun _ _ => eqb_int _ _) r8664.2 ((vrep 64 (0 : Int))))) (cmp_arr (g := 8) (f := (AV.int .u8)) (x := r8664.2) (y := ((vrep 64 (0 : Int)))) rfl rfl rfl (fun _ _ => rfl) (fun _ _ => cmp_int rfl)) (nx ⟨[(0, (i6 a0)), (3, (ow 3)), (5, (.osl 5)), (6, (i6 x5785)), (7, (i6 x8198)), (8, (ow 8)), (9, (i6 x8639)), (10, (ow 10)), (57, (.bool ((!decide (r8664.2 = ((vrep 64 (0 : Int))))))))], [(3, (bk (eA64u8 x8640))), (5, (bk (.row 65 (x8200.map eT_A64u8_i64_Z)))), (8, (bk (eA64u8 r8569))), (10, (bk (eA64u8 r8664.1)))]⟩ (by kernel_rfl) ?_))))
                  cases hb8669 : (!decide (r8664.2 = ((vrep 64 (0 : Int)))))
                  · have h := ite_f hb8669 h
                    refine a_cond_f rfl (a_skip (a_next (σ' := ⟨[(0, (i6 a0)), (3, (ow 3)), (5, (.osl 5)), (6, (i6 x5785)), (7, (i6 x8198)), (8, (ow 8)), (9, (i6 x8639)), (10, (ow 10))], [(3, (bk (eA64u8 x8640))), (5, (bk (.row 65 (x8200.map eT_A64u8_i64_Z)))), (8, (bk (eA64u8 r8569))), (10, (bk (eA64u8 r8664.1)))]⟩) (by kernel_rfl) (sr (vl (eA64u8 r8664.1) rfl rfl rfl rfl rfl rfl (vs (eA64u8 r8664.1) rfl rfl (fun _ => rfl) rfl rfl rfl rfl rfl rfl (nx ⟨[(0, (i6 a0)), (3, (ow 3)), (5, (.osl 5)), (6, (i6 x5785)), (7, (i6 x8198)), (8, (ow 8)), (9, (i6 x8639))], [(3, (bk (eA64u8 r8664.1))), (5, (bk (.row 65 (x8200.map eT_A64u8_i64_Z)))), (8, (bk (eA64u8 r8569)))]⟩ (by kernel_rfl) (a_region (vp (i6 x8639) rfl (vp (i6 (IntKind.i64.wrap (x8639 + 1))) rfl ?_)))))))))
                    refine vp (i6 (IntKind.i64.wrap (x8639 + 1))) rfl (a_nil (b_norm ?_))
                    cases h
                    exact a_again (by kernel_rfl) hX8657
                  · have h := ite_t hb8669 h
                    refine a_cond_t rfl (a_exit (t_exit (b_other rfl ?_)))
                    cases h
                    have h := hX8657
                    refine t_exit (b_exit ?_)
                    exact j_leaf (x8639, x8640) (Option.some.inj h) (by kernel_rfl)
        · have h := hy8448
          refine a_region (vp (i6 x8198) rfl (vp (i6 a0) rfl (vp (i6 x5785) rfl ?_)))
          obtain ⟨r8450, hr8451, h⟩ := bind_some h
          refine a_call (args := [(i6 a0), (i6 x5785)]) (u := []) (r := (i6 r8450)) rfl rfl (spec_l01Count_ok a0 x5785 r8450 hr8451) rfl (vp (i6 (IntKind.i64.wrap (2 * r8450))) rfl (vp (.bool ((decide (x8198 < (IntKind.i64.wrap (2 * r8450)))))) rfl (vp (.bool ((decide (x8198 < (IntKind.i64.wrap (2 * r8450)))))) rfl ?_)))
          cases hb8452 : (decide (x8198 < (IntKind.i64.wrap (2 * r8450))))
          · have h := ite_f hb8452 h
            refine a_gskip rfl (a_gskip rfl (a_gskip rfl (a_gskip rfl (a_gskip rfl (vp (.bool false) rfl (a_nil ?_))))))
            exact j_leaf false (Option.some.inj h) (by kernel_rfl)
          · have h := ite_t hb8452 h
            refine gp (i6 x5785) rfl rfl (gp (i6 (IntKind.i64.wrap (2 * x5785))) rfl rfl ?_)
            have hl8453 : LdOk [] (eA64u8 x8199) [] 64 true (eA64u8 x8199) := (.nil rfl rfl rfl)
            refine gq (eA64u8 x8199) rfl (ld_own (i := ⟨.arr 64 5, 64, 64, (eA64u8 (vrep 64 (0 : Int)))⟩) rfl rfl rfl hl8453) hl8453.c ?_
            obtain ⟨r8454, hr8455, h⟩ := bind_some h
            refine a_gcall rfl (args := [(eA64u8 x8199)]) (u := []) (r := (i6 r8454)) rfl rfl (spec_l01Deg_ok x8199 r8454 hr8455) rfl (gp (.bool ((decide ((IntKind.i64.wrap (2 * x5785)) ≤ r8454)))) rfl rfl (vp (.bool ((decide ((IntKind.i64.wrap (2 * x5785)) ≤ r8454)))) rfl (a_nil ?_)))
            exact j_leaf ((decide ((IntKind.i64.wrap (2 * x5785)) ≤ r8454))) (Option.some.inj h) (by kernel_rfl)
def spec_l02Power_c : ACode := (.seq (.region 0 [q 4 (.asg 0 (.const (.int .i64 0)) 2)] false) (.seq (.region 1 [q 5 (.asg 0 (.const (.int .i64 1)) 2)] false) (.seq (.block 0 (.loop (.seq (.seq (.region 2 [q 6 (.mov (t 1)), q 7 (.bin .gtr 2 (t 6) (.const (.int .i64 0)))] false) (.cond (t 7) .skip (.exit 0))) (.seq (.block 1 (.region 4 [q 10 (.mov (t 5)), q 11 (.mov (t 0)), q 12 (.bin .mul 2 (t 10) (t 11)), q 5 (.asg 0 (t 12) 2)] false)) (.region 3 [q 8 (.mov (t 1)), q 9 (.bin .sub 2 (t 8) (.const (.int .i64 1))), q 1 (.asg 0 (t 9) 2)] false))))) (.seq (.region 5 [q 13 (.mov (t 5)), q 4 (.asg 0 (t 13) 2)] false) .ret))))
def spec_l02Power_L : Live := [(0, [0, 1]), (1, [0, 1]), (2, [0, 1, 5]), (3, [0, 1, 5]), (4, [0, 1, 5]), (5, [5]), (100007, [0, 1, 5, 7])]
noncomputable def spec_l02Power_l1 (a0 : Int) (x15 : Int) (x16 : Int) : Option ((Int × Int) ⊕ Int) :=
  (if (decide (x15 > 0)) then (some (.inl ((IntKind.i64.wrap (x15 - 1), IntKind.i64.wrap (x16 * a0))))) else (some (.inr x16)))
noncomputable def spec_l02Power (a0 : Int) (a1 : Int) : Option Int :=
  (Option.bind (α := Int) ((loopM (fun s : (Int × Int) => spec_l02Power_l1 a0 s.1 s.2) (a1, 1))) fun x10 => (some x10))
theorem spec_l02Power_ok (a0 : Int) (a1 : Int) (r : Int) (h : spec_l02Power a0 a1 = some r) : Den Try.prog 155 [(i6 a0), (i6 a1)] { r := (i6 r) } := by
  refine den_of (rs := [(i6 r)]) (ac := spec_l02Power_c) (L := spec_l02Power_L) (n := 14) (m := []) (c := Try.f155.body.getD .skip) good Try.func155 (by kernel_rfl) (by kernel_rfl) Try.ntmps155 rfl rfl (by kernel_rfl) rfl rfl ?_
  refine a_st (σ' := ⟨[(0, (i6 a0)), (1, (i6 a1))], []⟩) (by kernel_rfl) ?_
  unfold spec_l02Power_c
  refine sr (vp (i6 0) rfl (nx ⟨[(0, (i6 a0)), (1, (i6 a1))], []⟩ (by kernel_rfl) (sr (vp (i6 1) rfl (nx ⟨[(0, (i6 a0)), (1, (i6 a1)), (5, (i6 1))], []⟩ (by kernel_rfl) ?_)))))
  obtain ⟨y11, hy12, hk13⟩ := bind_some h
  clear h
  refine a_join (emb := fun (s : Int) => ⟨[(5, (i6 s))], []⟩) (pre := fun s => s = y11) ?_ ?_
  · rintro x10 rfl
    have h := hk13
    refine a_st (σ' := ⟨[(5, (i6 x10))], []⟩) (by kernel_rfl) (sr (vp (i6 x10) rfl (vp (i6 x10) rfl (nx _ rfl (a_ret ?_)))))
    refine ⟨.inr rfl, ?_⟩
    rw [Try.results155]
    cases h
    exact ⟨_, _, _, _, _, rfl, trivial, .inl ⟨rfl, .inl rfl⟩, rfl, rfl⟩
  · have h := hy12
    refine a_block ?_
    refine a_loop (emb := fun (s : (Int × Int)) => ⟨[(0, (i6 a0)), (1, (i6 s.1)), (5, (i6 s.2))], []⟩) (body := (fun s : (Int × Int) => spec_l02Power_l1 a0 s.1 s.2)) (G := fun q => some q = some y11) h rfl ?_ (by kernel_rfl)
    rintro X18 ⟨x15, x16⟩ x19 h hX20
    have h : spec_l02Power_l1 a0 x15 x16 = some x19 := h
    refine a_st (σ' := ⟨[(0, (i6 a0)), (1, (i6 x15)), (5, (i6 x16))], []⟩) (by kernel_rfl) (a_seq (sr (vp (i6 x15) rfl (vp (.bool ((decide (x15 > 0)))) rfl (nx ⟨[(0, (i6 a0)), (1, (i6 x15)), (5, (i6 x16)), (7, (.bool ((decide (x15 > 0)))))], []⟩ (by kernel_rfl) ?_)))))
    cases hb21 : (decide (x15 > 0))
    · have h := ite_f hb21 h
      refine a_cond_f rfl (a_exit (t_exit ?_))
      cases h
      have h := hX20
      refine t_exit (b_exit ?_)
      exact j_leaf x16 (Option.some.inj h) (by kernel_rfl)
    · have h := ite_t hb21 h
      refine a_cond_t rfl (a_skip (a_next (σ' := ⟨[(0, (i6 a0)), (1, (i6 x15)), (5, (i6 x16))], []⟩) (by kernel_rfl) (a_seq (a_block (a_region (vp (i6 x16) rfl (vp (i6 a0) rfl (vp (i6 (IntKind.i64.wrap (x16 * a0))) rfl (vp (i6 (IntKind.i64.wrap (x16 * a0))) rfl ?_)))))))))
      refine a_nil (b_norm (a_next (σ' := ⟨[(0, (i6 a0)), (1, (i6 x15)), (5, (i6 (IntKind.i64.wrap (x16 * a0))))], []⟩) (by kernel_rfl) (a_region (vp (i6 x15) rfl (vp (i6 (IntKind.i64.wrap (x15 - 1))) rfl (vp (i6 (IntKind.i64.wrap (x15 - 1))) rfl (a_nil ?_)))))))
      cases h
      exact a_again (by kernel_rfl) hX20
def spec_l01One_c : ACode := (.seq (.region 0 [q 0 (.alloc 26)] false) (.seq (.region 1 [q 1 (.build 26 [(0, (.const (.int .u8 1)))]), ⟨none, .store 26 (t 0) (t 1), none, []⟩] false) .ret))
def spec_l01One_L : Live := [(0, []), (1, [0])]
noncomputable def spec_l01One  : Option (Vec Int 64) :=
  (some ((vset (vrep 64 (0 : Int)) 0 1)))
theorem spec_l01One_ok  (r : (Vec Int 64)) (h : spec_l01One = some r) : Den Try.prog 95 [] { r := (eA64u8 r) } := by
  refine den_of (rs := [(eA64u8 r)]) (ac := spec_l01One_c) (L := spec_l01One_L) (n := 2) (m := []) (c := Try.f95.body.getD .skip) good Try.func95 (by kernel_rfl) (by kernel_rfl) Try.ntmps95 rfl rfl (by kernel_rfl) rfl rfl ?_
  refine a_st (σ' := ⟨[], []⟩) (by kernel_rfl) ?_
  unfold spec_l01One_c
  refine sr (vo 1000 (eA64u8 ((vrep 64 (0 : Int)))) rfl rfl (nx ⟨[(0, (ow 0))], [(0, (bk (eA64u8 ((vrep 64 (0 : Int))))))]⟩ (by kernel_rfl) (sr (vq (eA64u8 ((vset (vrep 64 (0 : Int)) 0 1))) rfl ⟨⟨_, rfl, rfl⟩, (all_cons ⟨(Nat.le_of_ble_eq_true rfl), rfl⟩ all_nil)⟩ (vs (eA64u8 ((vset (vrep 64 (0 : Int)) 0 1))) rfl rfl (fun _ => rfl) rfl rfl rfl rfl rfl rfl (nx _ rfl (a_ret ?_)))))))
  have hl2 : LdOk [] (eA64u8 ((vset (vrep 64 (0 : Int)) 0 1))) [] 64 true (eA64u8 ((vset (vrep 64 (0 : Int)) 0 1))) := (.nil rfl rfl rfl)
  refine ⟨.inr rfl, ?_⟩
  rw [Try.results95]
  cases h
  exact ⟨_, _, _, _, _, ld_own (i := ⟨.arr 64 5, 64, 64, (eA64u8 (vrep 64 (0 : Int)))⟩) rfl rfl rfl hl2, hl2.c, .inl ⟨rfl, .inl rfl⟩, rfl, rfl⟩
def spec_l01Mod_c : ACode := (.seq (.region 0 [q 4 (.box 26 (t 1)), q 5 (.box 26 (t 2)), q 6 (.alloc 26)] false) (.seq (.region 1 [q 10 (.mov (t 0)), q 11 (.load 26 (t 4)), q 12 (.load 26 (t 5)), q 13 (.call 0 (.func 97) [(t 10), (t 11), (t 12)]), q 9 (.mov (t 13)), q 14 (.extract (t 9) 0), q 15 (.extract (t 9) 1), q 7 (.alloc 26), q 8 (.alloc 26), ⟨none, .store 26 (t 7) (t 14), none, []⟩, ⟨none, .store 26 (t 8) (t 15), none, []⟩] false) (.seq (.region 2 [q 16 (.load 26 (t 8)), ⟨none, .store 26 (t 6) (t 16), none, []⟩] false) .ret)))
def spec_l01Mod_L : Live := [(0, [0, 1, 2]), (1, [0, 4, 5, 6]), (2, [6, 8])]
noncomputable def spec_l01Mod (a0 : Int) (a1 : (Vec Int 64)) (a2 : (Vec Int 64)) : Option (Vec Int 64) :=
  (Option.bind (spec_l01Divide a0 a1 a2) fun r3 => (some r3.2))
theorem spec_l01Mod_ok (a0 : Int) (a1 : (Vec Int 64)) (a2 : (Vec Int 64)) (r : (Vec Int 64)) (h : spec_l01Mod a0 a1 a2 = some r) : Den Try.prog 96 [(i6 a0), (eA64u8 a1), (eA64u8 a2)] { r := (eA64u8 r) } := by
  refine den_of (rs := [(eA64u8 r)]) (ac := spec_l01Mod_c) (L := spec_l01Mod_L) (n := 17) (m := []) (c := Try.f96.body.getD .skip) good Try.func96 (by kernel_rfl) (by kernel_rfl) Try.ntmps96 rfl rfl (by kernel_rfl) rfl rfl ?_
  refine a_st (σ' := ⟨[(0, (i6 a0)), (1, (eA64u8 a1)), (2, (eA64u8 a2))], []⟩) (by kernel_rfl) ?_
  unfold spec_l01Mod_c
  refine sr (vo 1400 (eA64u8 a1) rfl rfl (vo 1500 (eA64u8 a2) rfl rfl (vo 1600 (eA64u8 ((vrep 64 (0 : Int)))) rfl rfl (nx ⟨[(0, (i6 a0)), (4, (ow 4)), (5, (ow 5)), (6, (ow 6))], [(4, (bk (eA64u8 a1))), (5, (bk (eA64u8 a2))), (6, (bk (eA64u8 ((vrep 64 (0 : Int))))))]⟩ (by kernel_rfl) (sr (vp (i6 a0) rfl (vl (eA64u8 a1) rfl rfl rfl rfl rfl rfl (vl (eA64u8 a2) rfl rfl rfl rfl rfl rfl ?_))))))))
  obtain ⟨r3, hr4, h⟩ := bind_some h
  refine a_call (args := [(i6 a0), (eA64u8 a1), (eA64u8 a2)]) (u := []) (r := (.tuple [(eA64u8 r3.1), (eA64u8 r3.2)])) rfl rfl (spec_l01Divide_ok a0 a1 a2 r3 hr4) rfl (vp (.tuple [(eA64u8 r3.1), (eA64u8 r3.2)]) rfl (vb (eA64u8 r3.1) rfl rfl (vb (eA64u8 r3.2) rfl rfl (vo 1700 (eA64u8 ((vrep 64 (0 : Int)))) rfl rfl (vo 1800 (eA64u8 ((vrep 64 (0 : Int)))) rfl rfl (vs (eA64u8 r3.1) rfl rfl (fun _ => rfl) rfl rfl rfl rfl rfl rfl (vs (eA64u8 r3.2) rfl rfl (fun _ => rfl) rfl rfl rfl rfl rfl rfl (nx ⟨[(6, (ow 6)), (8, (ow 8))], [(6, (bk (eA64u8 ((vrep 64 (0 : Int)))))), (8, (bk (eA64u8 r3.2)))]⟩ (by kernel_rfl) (sr ?_)))))))))
  refine vl (eA64u8 r3.2) rfl rfl rfl rfl rfl rfl (vs (eA64u8 r3.2) rfl rfl (fun _ => rfl) rfl rfl rfl rfl rfl rfl (nx _ rfl (a_ret ?_)))
  have hl9 : LdOk [] (eA64u8 r3.2) [] 64 true (eA64u8 r3.2) := (.nil rfl rfl rfl)
  refine ⟨.inr rfl, ?_⟩
  rw [Try.results96]
  cases h
  exact ⟨_, _, _, _, _, ld_own (i := ⟨.arr 64 5, 64, 64, (eA64u8 (vrep 64 (0 : Int)))⟩) rfl rfl rfl hl9, hl9.c, .inl ⟨rfl, .inl rfl⟩, rfl, rfl⟩
def spec_l01Up_c : ACode := (.seq (.region 0 [q 4 (.box 26 (t 1)), q 5 (.box 26 (t 2)), q 6 (.alloc 26)] false) (.seq (.region 1 [q 13 (.load 26 (t 5)), q 14 (.call 0 (.func 75) [(t 13)]), q 7 (.asg 0 (t 14) 2)] false) (.seq (.seq (.region 2 [q 15 (.mov (t 7)), q 16 (.bin .eql 2 (t 15) (.const (.int .i64 0)))] false) (.cond (t 16) (.seq (.region 3 [q 17 (.build 26 []), ⟨none, .store 26 (t 6) (t 17), none, []⟩] false) .ret) .skip)) (.seq (.region 4 [q 18 (.mov (t 7)), q 19 (.bin .sub 2 (t 18) (.const (.int .i64 1))), q 20 (.indexAddr 26 (t 4) (t 19)), q 21 (.load 5 (t 20)), q 22 (.conv 5 2 (t 21)), q 23 (.build 26 []), q 9 (.alloc 26), q 8 (.asg 0 (t 22) 2), ⟨none, .store 26 (t 9) (t 23), none, []⟩] false) (.seq (.seq (.region 5 [q 10 (.asg 0 (.const (.int .i64 1)) 2)] false) (.block 0 (.loop (.seq (.seq (.region 6 [q 24 (.mov (t 10)), q 25 (.mov (t 7)), q 26 (.bin .lss 2 (t 24) (t 25))] false) (.cond (t 26) .skip (.exit 0))) (.seq (.block 1 (.region 8 [q 29 (.mov (t 10)), q 30 (.mov (t 10)), q 31 (.bin .sub 2 (t 30) (.const (.int .i64 1))), q 32 (.indexAddr 26 (t 4) (t 31)), q 33 (.load 5 (t 32)), q 34 (.indexAddr 26 (t 9) (t 29)), ⟨none, .store 5 (t 34) (t 33), none, []⟩] false)) (.region 7 [q 27 (.mov (t 10)), q 28 (.bin .add 2 (t 27) (.const (.int .i64 1))), q 10 (.asg 0 (t 28) 2)] false)))))) (.seq (.region 9 [q 35 (.mov (t 8)), q 36 (.mov (t 0)), q 37 (.mov (t 7)), q 38 (.indexAddr 26 (t 5) (t 37)), q 39 (.load 5 (t 38)), q 40 (.call 0 (.func 148) [(t 36), (t 39)]), q 41 (.conv 5 2 (t 40)), q 42 (.bin .mul 2 (t 35) (t 41)), q 43 (.mov (t 0)), q 44 (.bin .rem 2 (t 42) (t 43)), q 11 (.asg 0 (t 44) 2)] false) (.seq (.seq (.region 10 [q 12 (.asg 0 (.const (.int .i64 0)) 2)] false) (.block 2 (.loop (.seq (.seq (.region 11 [q 45 (.mov (t 12)), q 46 (.mov (t 7)), q 47 (.bin .lss 2 (t 45) (t 46))] false) (.cond (t 47) .skip (.exit 2))) (.seq (.block 3 (.region 13 [q 50 (.mov (t 12)), q 51 (.mov (t 12)), ⟨some 52, .indexAddr 26 (t 9) (t 51), none, [1]⟩, ⟨some 53, .load 5 (t 52), none, [2]⟩, ⟨some 54, .conv 5 2 (t 53), none, [3]⟩, q 55 (.mov (t 11)), q 56 (.mov (t 12)), ⟨some 57, .indexAddr 26 (t 5) (t 56), none, [6]⟩, ⟨some 58, .load 5 (t 57), none, [7]⟩, ⟨some 59, .conv 5 2 (t 58), none, [8]⟩, ⟨some 60, .bin .mul 2 (t 55) (t 59), none, [5, 9]⟩, ⟨some 61, .bin .sub 2 (t 54) (t 60), none, [4, 10]⟩, q 62 (.mov (t 0)), ⟨some 63, .bin .rem 2 (t 61) (t 62), none, [11, 12]⟩, q 64 (.mov (t 0)), ⟨some 65, .bin .add 2 (t 63) (t 64), none, [13, 14]⟩, q 66 (.mov (t 0)), ⟨some 67, .bin .rem 2 (t 65) (t 66), none, [15, 16]⟩, ⟨some 68, .conv 2 5 (t 67), none, [17]⟩, ⟨some 69, .indexAddr 26 (t 9) (t 50), none, [0, 0, 1, 2, 3, 4, 5, 6, 7, 8, 9, 10, 11, 12, 13, 14, 15, 16, 17, 18]⟩, ⟨none, .store 5 (t 69) (t 68), none, [19, 18, 0, 1, 2, 3, 4, 5, 6, 7, 8, 9, 10, 11, 12, 13, 14, 15, 16, 17, 18]⟩] true)) (.region 12 [q 48 (.mov (t 12)), q 49 (.bin .add 2 (t 48) (.const (.int .i64 1))), q 12 (.asg 0 (t 49) 2)] false)))))) (.seq (.region 14 [q 70 (.load 26 (t 9)), ⟨none, .store 26 (t 6) (t 70), none, []⟩] false) .ret))))))))
def spec_l01Up_L : Live := [(0, [0, 1, 2]), (1, [0, 4, 5, 6]), (2, [0, 4, 5, 6, 7]), (3, [6]), (4, [0, 4, 5, 6, 7]), (5, [0, 4, 5, 6, 7, 8, 9]), (6, [0, 4, 5, 6, 7, 8, 9, 10]), (7, [0, 4, 5, 6, 7, 8, 9, 10]), (8, [0, 4, 5, 6, 7, 8, 9, 10]), (9, [0, 5, 6, 7, 8, 9]), (10, [0, 5, 6, 7, 9, 11]), (11, [0, 5, 6, 7, 9, 11, 12]), (12, [0, 5, 6, 7, 9, 11, 12]), (13, [0, 5, 6, 7, 9, 11, 12]), (14, [6, 9]), (100016, [0, 4, 5, 6, 7, 16]), (100026, [0, 4, 5, 6, 7, 8, 9, 10, 26]), (100047, [0, 5, 6, 7, 9, 11, 12, 47])]
noncomputable def spec_l01Up_l1 (r2 : Int) (a1 : (Vec Int 64)) (x40 : Int) (x41 : (Vec Int 64)) : Option ((Int × (Vec Int 64)) ⊕ (Vec Int 64)) :=
  (if (decide (x40 < r2)) then (ifp (0 ≤ IntKind.i64.wrap (x40 - 1) ∧ IntKind.i64.wrap (x40 - 1) < ((64 : Nat) : Int)) ((ifp (0 ≤ x40 ∧ x40 < ((64 : Nat) : Int)) ((some (.inl ((IntKind.i64.wrap (x40 + 1), (vset x41 x40.toNat ((rd a1.1 (IntKind.i64.wrap (x40 - 1)).toNat))))))))))) else (some (.inr x41)))
noncomputable def spec_l01Up_l2 (r2 : Int) (x7 : Int) (r58 : Int) (a0 : Int) (a2 : (Vec Int 64)) (x187 : Int) (x188 : (Vec Int 64)) : Option ((Int × (Vec Int 64)) ⊕ (Vec Int 64)) :=
  (if (decide (x187 < r2)) then (ifp (0 ≤ x187 ∧ x187 < ((64 : Nat) : Int)) ((ifp (0 ≤ x187 ∧ x187 < ((64 : Nat) : Int)) ((letp (IntKind.i64.wrap ((Int.tmod (IntKind.i64.wrap (x7 * (IntKind.i64.wrap r58))) a0) * (IntKind.i64.wrap (rd a2.1 x187.toNat)))) fun x240 => (letp (IntKind.i64.wrap ((IntKind.i64.wrap (rd x188.1 x187.toNat)) - x240)) fun x242 => (ifp (a0 ≠ 0) ((ifp (a0 ≠ 0) ((letp (IntKind.u8.wrap (Int.tmod (IntKind.i64.wrap ((Int.tmod x242 a0) + a0)) a0)) fun x246 => (ifp (0 ≤ x187 ∧ x187 < ((64 : Nat) : Int)) ((some (.inl ((IntKind.i64.wrap (x187 + 1), (vset x188 x187.toNat x246)))))))))))))))))) else (some (.inr x188)))
noncomputable def spec_l01Up (a0 : Int) (a1 : (Vec Int 64)) (a2 : (Vec Int 64)) : Option (Vec Int 64) :=
  (Option.bind (spec_l01Deg a2) fun r2 => (if (r2 == 0) then (some ((vrep 64 (0 : Int)))) else (ifp (0 ≤ IntKind.i64.wrap (r2 - 1) ∧ IntKind.i64.wrap (r2 - 1) < ((64 : Nat) : Int)) ((letp (IntKind.i64.wrap ((rd a1.1 (IntKind.i64.wrap (r2 - 1)).toNat))) fun x7 => (Option.bind (α := (Vec Int 64)) ((loopM (fun s : (Int × (Vec Int 64)) => spec_l01Up_l1 r2 a1 s.1 s.2) (1, (vrep 64 (0 : Int))))) fun x31 => (ifp (0 ≤ r2 ∧ r2 < ((64 : Nat) : Int)) ((Option.bind (spec_l01Inverse a0 (rd a2.1 r2.toNat)) fun r58 => (ifp (a0 ≠ 0) ((Option.bind (α := (Vec Int 64)) ((loopM (fun s : (Int × (Vec Int 64)) => spec_l01Up_l2 r2 x7 r58 a0 a2 s.1 s.2) (0, x31))) fun x154 => (some x154)))))))))))))
theorem spec_l01Up_ok (a0 : Int) (a1 : (Vec Int 64)) (a2 : (Vec Int 64)) (r : (Vec Int 64)) (h : spec_l01Up a0 a1 a2 = some r) : Den Try.prog 191 [(i6 a0), (eA64u8 a1), (eA64u8 a2)] { r := (eA64u8 r) } := by
  refine den_of (rs := [(eA64u8 r)]) (ac := spec_l01Up_c) (L := spec_l01Up_L) (n := 71) (m := []) (c := Try.f191.body.getD .skip) good Try.func191 (by kernel_rfl) (by kernel_rfl) Try.ntmps191 rfl rfl (by kernel_rfl) rfl rfl ?_
  refine a_st (σ' := ⟨[(0, (i6 a0)), (1, (eA64u8 a1)), (2, (eA64u8 a2))], []⟩) (by kernel_rfl) ?_
  unfold spec_l01Up_c
  refine sr (vo 1400 (eA64u8 a1) rfl rfl (vo 1500 (eA64u8 a2) rfl rfl (vo 1600 (eA64u8 ((vrep 64 (0 : Int)))) rfl rfl (nx ⟨[(0, (i6 a0)), (4, (ow 4)), (5, (ow 5)), (6, (ow 6))], [(4, (bk (eA64u8 a1))), (5, (bk (eA64u8 a2))), (6, (bk (eA64u8 ((vrep 64 (0 : Int))))))]⟩ (by kernel_rfl) (sr (vl (eA64u8 a2) rfl rfl rfl rfl rfl rfl ?_))))))
  obtain ⟨r2, hr3, h⟩ := bind_some h
  refine a_call (args := [(eA64u8 a2)]) (u := []) (r := (i6 r2)) rfl rfl (spec_l01Deg_ok a2 r2 hr3) rfl (vp (i6 r2) rfl (nx ⟨[(0, (i6 a0)), (4, (ow 4)), (5, (ow 5)), (6, (ow 6)), (7, (i6 r2))], [(4, (bk (eA64u8 a1))), (5, (bk (eA64u8 a2))), (6, (bk (eA64u8 ((vrep 64 (0 : Int))))))]⟩ (by kernel_rfl) (a_seq (sr (vp (i6 r2) rfl (vp (.bool (r2 == 0)) rfl (nx ⟨[(0, (i6 a0)), (4, (ow 4)), (5, (ow 5)), (6, (ow 6)), (7, (i6 r2)), (16, (.bool (r2 == 0)))], [(4, (bk (eA64u8 a1))), (5, (bk (eA64u8 a2))), (6, (bk (eA64u8 ((vrep 64 (0 : Int))))))]⟩ (by kernel_rfl) ?_)))))))
  cases hb4 : (r2 == 0)
  · have h := ite_f hb4 h
    refine a_cond_f rfl (a_skip (a_next (σ' := ⟨[(0, (i6 a0)), (4, (ow 4)), (5, (ow 5)), (6, (ow 6)), (7, (i6 r2))], [(4, (bk (eA64u8 a1))), (5, (bk (eA64u8 a2))), (6, (bk (eA64u8 ((vrep 64 (0 : Int))))))]⟩) (by kernel_rfl) (sr (vp (i6 r2) rfl (vp (i6 (IntKind.i64.wrap (r2 - 1))) rfl ?_)))))
    obtain ⟨hc5, h⟩ := ifp_some h
    refine vq (.own 4 [(IntKind.i64.wrap (r2 - 1)).toNat] [(IntKind.i64.wrap (r2 - 1)).toNat * 1]) rfl hc5 ?_
    have hl6 : LdOk [(IntKind.i64.wrap (r2 - 1)).toNat] (eA64u8 a1) [(IntKind.i64.wrap (r2 - 1)).toNat * 1] 1 false (b8 ((rd a1.1 (IntKind.i64.wrap (r2 - 1)).toNat))) := (.arr (vlt a1 hc5) rfl (.nil rfl rfl rfl))
    refine vq (b8 ((rd a1.1 (IntKind.i64.wrap (r2 - 1)).toNat))) (ld_own (i := ⟨.int .u8, 1, 1, (.int .u8 0)⟩) rfl rfl rfl hl6) hl6.c ?_
    obtain ⟨x7, hx8, h⟩ := letp_some h
    refine a_val' (v := (i6 (IntKind.i64.wrap ((rd a1.1 (IntKind.i64.wrap (r2 - 1)).toNat))))) (v' := (i6 x7)) (u := []) (u' := []) rfl (congrArg (fun z => ((i6 z) : AV)) hx8) rfl trivial rfl (vq (eA64u8 ((vrep 64 (0 : Int)))) rfl ⟨⟨_, rfl, rfl⟩, all_nil⟩ (vo 1900 (eA64u8 ((vrep 64 (0 : Int)))) rfl rfl (vp (i6 x7) rfl (vs (eA64u8 ((vrep 64 (0 : Int)))) rfl rfl (fun _ => rfl) rfl rfl rfl rfl rfl rfl (nx ⟨[(0, (i6 a0)), (4, (ow 4)), (5, (ow 5)), (6, (ow 6)), (7, (i6 r2)), (8, (i6 x7)), (9, (ow 9))], [(4, (bk (eA64u8 a1))), (5, (bk (eA64u8 a2))), (6, (bk (eA64u8 ((vrep 64 (0 : Int)))))), (9, (bk (eA64u8 ((vrep 64 (0 : Int))))))]⟩ (by kernel_rfl) ?_)))))
    obtain ⟨y32, hy33, hk34⟩ := bind_some h
    clear h
    refine a_join (emb := fun (s : (Vec Int 64)) => ⟨[(0, (i6 a0)), (5, (ow 5)), (6, (ow 6)), (7, (i6 r2)), (8, (i6 x7)), (9, (ow 9))], [(5, (bk (eA64u8 a2))), (6, (bk (eA64u8 ((vrep 64 (0 : Int)))))), (9, (bk (eA64u8 s)))]⟩) (pre := fun s => s = y32) ?_ ?_
    · rintro x31 rfl
      have h := hk34
      refine a_st (σ' := ⟨[(0, (i6 a0)), (5, (ow 5)), (6, (ow 6)), (7, (i6 r2)), (8, (i6 x7)), (9, (ow 9))], [(5, (bk (eA64u8 a2))), (6, (bk (eA64u8 ((vrep 64 (0 : Int)))))), (9, (bk (eA64u8 x31)))]⟩) (by kernel_rfl) (sr (vp (i6 x7) rfl (vp (i6 a0) rfl (vp (i6 r2) rfl ?_))))
      obtain ⟨hc56, h⟩ := ifp_some h
      refine vq (.own 5 [r2.toNat] [r2.toNat * 1]) rfl hc56 ?_
      have hl57 : LdOk [r2.toNat] (eA64u8 a2) [r2.toNat * 1] 1 false (b8 (rd a2.1 r2.toNat)) := (.arr (vlt a2 hc56) rfl (.nil rfl rfl rfl))
      refine vq (b8 (rd a2.1 r2.toNat)) (ld_own (i := ⟨.int .u8, 1, 1, (.int .u8 0)⟩) rfl rfl rfl hl57) hl57.c ?_
      obtain ⟨r58, hr59, h⟩ := bind_some h
      refine a_call (args := [(i6 a0), (b8 (rd a2.1 r2.toNat))]) (u := []) (r := (b8 r58)) rfl rfl (spec_l01Inverse_ok a0 (rd a2.1 r2.toNat) r58 hr59) rfl (vp (i6 (IntKind.i64.wrap r58)) rfl (vp (i6 (IntKind.i64.wrap (x7 * (IntKind.i64.wrap r58)))) rfl (vp (i6 a0) rfl ?_)))
      obtain ⟨hc60, h⟩ := ifp_some h
      refine vq (i6 (Int.tmod (IntKind.i64.wrap (x7 * (IntKind.i64.wrap r58))) a0)) rfl hc60 (vp (i6 (Int.tmod (IntKind.i64.wrap (x7 * (IntKind.i64.wrap r58))) a0)) rfl (nx ⟨[(0, (i6 a0)), (5, (ow 5)), (6, (ow 6)), (7, (i6 r2)), (9, (ow 9)), (11, (i6 (Int.tmod (IntKind.i64.wrap (x7 * (IntKind.i64.wrap r58))) a0)))], [(5, (bk (eA64u8 a2))), (6, (bk (eA64u8 ((vrep 64 (0 : Int)))))), (9, (bk (eA64u8 x31)))]⟩ (by kernel_rfl) ?_))
      obtain ⟨y155, hy156, hk157⟩ := bind_some h
      clear h
      refine a_join (emb := fun (s : (Vec Int 64)) => ⟨[(6, (ow 6)), (9, (ow 9))], [(6, (bk (eA64u8 ((vrep 64 (0 : Int)))))), (9, (bk (eA64u8 s)))]⟩) (pre := fun s => s = y155) ?_ ?_
      · rintro x154 rfl
        have h := hk157
        refine a_st (σ' := ⟨[(6, (ow 6)), (9, (ow 9))], [(6, (bk (eA64u8 ((vrep 64 (0 : Int)))))), (9, (bk (eA64u8 x154)))]⟩) (by kernel_rfl) (sr (vl (eA64u8 x154) rfl rfl rfl rfl rfl rfl (vs (eA64u8 x154) rfl rfl (fun _ => rfl) rfl rfl rfl rfl rfl rfl (nx _ rfl (a_ret ?_)))))
        have hl253 : LdOk [] (eA64u8 x154) [] 64 true (eA64u8 x154) := (.nil rfl rfl rfl)
        refine ⟨.inr rfl, ?_⟩
        rw [Try.results191]
        cases h
        exact ⟨_, _, _, _, _, ld_own (i := ⟨.arr 64 5, 64, 64, (eA64u8 (vrep 64 (0 : Int)))⟩) rfl rfl rfl hl253, hl253.c, .inl ⟨rfl, .inl rfl⟩, rfl, rfl⟩
      · have h := hy156
        refine sr (vp (i6 0) rfl (nx ⟨[(0, (i6 a0)), (5, (ow 5)), (6, (ow 6)), (7, (i6 r2)), (9, (ow 9)), (11, (i6 (Int.tmod (IntKind.i64.wrap (x7 * (IntKind.i64.wrap r58))) a0))), (12, (i6 0))], [(5, (bk (eA64u8 a2))), (6, (bk (eA64u8 ((vrep 64 (0 : Int)))))), (9, (bk (eA64u8 x31)))]⟩ (by kernel_rfl) (a_block ?_)))
        refine a_loop (emb := fun (s : (Int × (Vec Int 64))) => ⟨[(0, (i6 a0)), (5, (ow 5)), (6, (ow 6)), (7, (i6 r2)), (9, (ow 9)), (11, (i6 (Int.tmod (IntKind.i64.wrap (x7 * (IntKind.i64.wrap r58))) a0))), (12, (i6 s.1))], [(5, (bk (eA64u8 a2))), (6, (bk (eA64u8 ((vrep 64 (0 : Int)))))), (9, (bk (eA64u8 s.2)))]⟩) (body := (fun s : (Int × (Vec Int 64)) => spec_l01Up_l2 r2 x7 r58 a0 a2 s.1 s.2)) (G := fun q => some q = some y155) h rfl ?_ (by kernel_rfl)
        rintro X218 ⟨x187, x188⟩ x219 h hX220
        have h : spec_l01Up_l2 r2 x7 r58 a0 a2 x187 x188 = some x219 := h
        refine a_st (σ' := ⟨[(0, (i6 a0)), (5, (ow 5)), (6, (ow 6)), (7, (i6 r2)), (9, (ow 9)), (11, (i6 (Int.tmod (IntKind.i64.wrap (x7 * (IntKind.i64.wrap r58))) a0))), (12, (i6 x187))], [(5, (bk (eA64u8 a2))), (6, (bk (eA64u8 ((vrep 64 (0 : Int)))))), (9, (bk (eA64u8 x188)))]⟩) (by kernel_rfl) (a_seq (sr (vp (i6 x187) rfl (vp (i6 r2) rfl (vp (.bool ((decide (x187 < r2)))) rfl (nx ⟨[(0, (i6 a0)), (5, (ow 5)), (6, (ow 6)), (7, (i6 r2)), (9, (ow 9)), (11, (i6 (Int.tmod (IntKind.i64.wrap (x7 * (IntKind.i64.wrap r58))) a0))), (12, (i6 x187)), (47, (.bool ((decide (x187 < r2)))))], [(5, (bk (eA64u8 a2))), (6, (bk (eA64u8 ((vrep 64 (0 : Int)))))), (9, (bk (eA64u8 x188)))]⟩ (by kernel_rfl) ?_))))))
        cases hb221 : (decide (x187 < r2))
        · have h := ite_f hb221 h
          refine a_cond_f rfl (a_exit (t_exit ?_))
          cases h
          have h := hX220
          refine t_exit (b_exit ?_)
          exact j_leaf x188 (Option.some.inj h) (by kernel_rfl)
        · have h := ite_t hb221 h
          refine a_cond_t rfl (a_skip (a_next (σ' := ⟨[(0, (i6 a0)), (5, (ow 5)), (6, (ow 6)), (7, (i6 r2)), (9, (ow 9)), (11, (i6 (Int.tmod (IntKind.i64.wrap (x7 * (IntKind.i64.wrap r58))) a0))), (12, (i6 x187))], [(5, (bk (eA64u8 a2))), (6, (bk (eA64u8 ((vrep 64 (0 : Int)))))), (9, (bk (eA64u8 x188)))]⟩) (by kernel_rfl) (a_seq (a_block (a_draw [⟨[], [], [], []⟩, ⟨[], [], [], []⟩, ⟨[9], [], [9], [1]⟩, ⟨[9], [], [], [1, 2]⟩, ⟨[], [], [], [1, 2, 3]⟩, ⟨[], [], [], []⟩, ⟨[], [], [], []⟩, ⟨[5], [], [5], [6]⟩, ⟨[5], [], [], [6, 7]⟩, ⟨[], [], [], [6, 7, 8]⟩, ⟨[], [], [], [5, 6, 7, 8, 9]⟩, ⟨[], [], [], [1, 2, 3, 4, 5, 6, 7, 8, 9, 10]⟩, ⟨[], [], [], []⟩, ⟨[], [], [], [1, 2, 3, 4, 5, 6, 7, 8, 9, 10, 11, 12]⟩, ⟨[], [], [], []⟩, ⟨[], [], [], [1, 2, 3, 4, 5, 6, 7, 8, 9, 10, 11, 12, 13, 14]⟩, ⟨[], [], [], []⟩, ⟨[], [], [], [1, 2, 3, 4, 5, 6, 7, 8, 9, 10, 11, 12, 13, 14, 15, 16]⟩, ⟨[], [], [], [1, 2, 3, 4, 5, 6, 7, 8, 9, 10, 11, 12, 13, 14, 15, 16, 17]⟩, ⟨[9], [], [9], [0, 1, 2, 3, 4, 5, 6, 7, 8, 9, 10, 11, 12, 13, 14, 15, 16, 17, 18]⟩, ⟨[9], [9], [], [0, 1, 2, 3, 4, 5, 6, 7, 8, 9, 10, 11, 12, 13, 14, 15, 16, 17, 18, 19]⟩] (by kernel_rfl) (dp (i6 x187) rfl (by kernel_rfl) (dp (i6 x187) rfl (by kernel_rfl) (d_cons ?_))))))))
          obtain ⟨hc236, h⟩ := ifp_some h
          refine vq (.own 9 [x187.toNat] [x187.toNat * 1]) rfl hc236 (d_next (by kernel_rfl) (d_cons ?_))
          have hl237 : LdOk [x187.toNat] (eA64u8 x188) [x187.toNat * 1] 1 false (b8 (rd x188.1 x187.toNat)) := (.arr (vlt x188 hc236) rfl (.nil rfl rfl rfl))
          refine vq (b8 (rd x188.1 x187.toNat)) (ld_own (i := ⟨.int .u8, 1, 1, (.int .u8 0)⟩) rfl rfl rfl hl237) hl237.c (d_next (by kernel_rfl) (dp (i6 (IntKind.i64.wrap (rd x188.1 x187.toNat))) rfl (by kernel_rfl) (dp (i6 (Int.tmod (IntKind.i64.wrap (x7 * (IntKind.i64.wrap r58))) a0)) rfl (by kernel_rfl) (dp (i6 x187) rfl (by kernel_rfl) (d_cons ?_)))))
          obtain ⟨hc238, h⟩ := ifp_some h
          refine vq (.own 5 [x187.toNat] [x187.toNat * 1]) rfl hc238 (d_next (by kernel_rfl) (d_cons ?_))
          have hl239 : LdOk [x187.toNat] (eA64u8 a2) [x187.toNat * 1] 1 false (b8 (rd a2.1 x187.toNat)) := (.arr (vlt a2 hc238) rfl (.nil rfl rfl rfl))
          refine vq (b8 (rd a2.1 x187.toNat)) (ld_own (i := ⟨.int .u8, 1, 1, (.int .u8 0)⟩) rfl rfl rfl hl239) hl239.c (d_next (by kernel_rfl) (dp (i6 (IntKind.i64.wrap (rd a2.1 x187.toNat))) rfl (by kernel_rfl) (d_cons ?_)))
          obtain ⟨x240, hx241, h⟩ := letp_some h
          refine a_val' (v := (i6 (IntKind.i64.wrap ((Int.tmod (IntKind.i64.wrap (x7 * (IntKind.i64.wrap r58))) a0) * (IntKind.i64.wrap (rd a2.1 x187.toNat)))))) (v' := (i6 x240)) (u := []) (u' := []) rfl (congrArg (fun z => ((i6 z) : AV)) hx241) rfl trivial rfl (d_next (by kernel_rfl) (d_cons ?_))
          obtain ⟨x242, hx243, h⟩ := letp_some h
          refine a_val' (v := (i6 (IntKind.i64.wrap ((IntKind.i64.wrap (rd x188.1 x187.toNat)) - x240)))) (v' := (i6 x242)) (u := []) (u' := []) rfl (congrArg (fun z => ((i6 z) : AV)) hx243) rfl trivial rfl (d_next (by kernel_rfl) (dp (i6 a0) rfl (by kernel_rfl) (d_cons ?_)))
          obtain ⟨hc244, h⟩ := ifp_some h
          refine vq (i6 (Int.tmod x242 a0)) rfl hc244 (d_next (by kernel_rfl) (dp (i6 a0) rfl (by kernel_rfl) (dp (i6 (IntKind.i64.wrap ((Int.tmod x242 a0) + a0))) rfl (by kernel_rfl) (dp (i6 a0) rfl (by kernel_rfl) (d_cons ?_)))))
          obtain ⟨hc245, h⟩ := ifp_some h
          refine vq (i6 (Int.tmod (IntKind.i64.wrap ((Int.tmod x242 a0) + a0)) a0)) rfl hc245 (d_next (by kernel_rfl) (d_cons ?_))
          obtain ⟨x246, hx247, h⟩ := letp_some h
          refine a_val' (v := (b8 (IntKind.u8.wrap (Int.tmod (IntKind.i64.wrap ((Int.tmod x242 a0) + a0)) a0)))) (v' := (b8 x246)) (u := []) (u' := []) rfl (congrArg (fun z => ((b8 z) : AV)) hx247) rfl trivial rfl (d_next (by kernel_rfl) (d_cons ?_))
          obtain ⟨hc248, h⟩ := ifp_some h
          refine vq (.own 9 [x187.toNat] [x187.toNat * 1]) rfl hc248 (d_next (by kernel_rfl) (d_cons ?_))
          have hs249 : StOk [x187.toNat] (eA64u8 x188) [x187.toNat * 1] 1 (b8 x246) (eA64u8 (vset x188 x187.toNat x246)) := (.arr (y := x246) (vlt x188 hc248) rfl (.nil rfl rfl rfl rfl))
          refine vu .top [(9, (bk (eA64u8 (vset x188 x187.toNat x246))))] (st_own (i := ⟨.int .u8, 1, 1, (.int .u8 0)⟩) rfl rfl (fun _ => rfl) rfl hs249) (hs249.c rfl) rfl (d_next (by kernel_rfl) (d_nil (b_norm (a_next (σ' := ⟨[(0, (i6 a0)), (5, (ow 5)), (6, (ow 6)), (7, (i6 r2)), (9, (ow 9)), (11, (i6 (Int.tmod (IntKind.i64.wrap (x7 * (IntKind.i64.wrap r58))) a0))), (12, (i6 x187))], [(5, (bk (eA64u8 a2))), (6, (bk (eA64u8 ((vrep 64 (0 : Int)))))), (9, (bk (eA64u8 (vset x188 x187.toNat x246))))]⟩) (by kernel_rfl) (a_region (vp (i6 x187) rfl (vp (i6 (IntKind.i64.wrap (x187 + 1))) rfl (vp (i6 (IntKind.i64.wrap (x187 + 1))) rfl (a_nil ?_)))))))))
          cases h
          exact a_again (by kernel_rfl) hX220
    · have h := hy33
      refine sr (vp (i6 1) rfl (nx ⟨[(0, (i6 a0)), (4, (ow 4)), (5, (ow 5)), (6, (ow 6)), (7, (i6 r2)), (8, (i6 x7)), (9, (ow 9)), (10, (i6 1))], [(4, (bk (eA64u8 a1))), (5, (bk (eA64u8 a2))), (6, (bk (eA64u8 ((vrep 64 (0 : Int)))))), (9, (bk (eA64u8 ((vrep 64 (0 : Int))))))]⟩ (by kernel_rfl) (a_block ?_)))
      refine a_loop (emb := fun (s : (Int × (Vec Int 64))) => ⟨[(0, (i6 a0)), (4, (ow 4)), (5, (ow 5)), (6, (ow 6)), (7, (i6 r2)), (8, (i6 x7)), (9, (ow 9)), (10, (i6 s.1))], [(4, (bk (eA64u8 a1))), (5, (bk (eA64u8 a2))), (6, (bk (eA64u8 ((vrep 64 (0 : Int)))))), (9, (bk (eA64u8 s.2)))]⟩) (body := (fun s : (Int × (Vec Int 64)) => spec_l01Up_l1 r2 a1 s.1 s.2)) (G := fun q => some q = some y32) h rfl ?_ (by kernel_rfl)
      rintro X47 ⟨x40, x41⟩ x48 h hX49
      have h : spec_l01Up_l1 r2 a1 x40 x41 = some x48 := h
      refine a_st (σ' := ⟨[(0, (i6 a0)), (4, (ow 4)), (5, (ow 5)), (6, (ow 6)), (7, (i6 r2)), (8, (i6 x7)), (9, (ow 9)), (10, (i6 x40))], [(4, (bk (eA64u8 a1))), (5, (bk (eA64u8 a2))), (6, (bk (eA64u8 ((vrep 64 (0 : Int)))))), (9, (bk (eA64u8 x41)))]⟩) (by kernel_rfl) (a_seq (sr (vp (i6 x40) rfl (vp (i6 r2) rfl (vp (.bool ((decide (x40 < r2)))) rfl (nx ⟨[(0, (i6 a0)), (4, (ow 4)), (5, (ow 5)), (6, (ow 6)), (7, (i6 r2)), (8, (i6 x7)), (9, (ow 9)), (10, (i6 x40)), (26, (.bool ((decide (x40 < r2)))))], [(4, (bk (eA64u8 a1))), (5, (bk (eA64u8 a2))), (6, (bk (eA64u8 ((vrep 64 (0 : Int)))))), (9, (bk (eA64u8 x41)))]⟩ (by kernel_rfl) ?_))))))
      cases hb50 : (decide (x40 < r2))
      · have h := ite_f hb50 h
        refine a_cond_f rfl (a_exit (t_exit ?_))
        cases h
        have h := hX49
        refine t_exit (b_exit ?_)
        exact j_leaf x41 (Option.some.inj h) (by kernel_rfl)
      · have h := ite_t hb50 h
        refine a_cond_t rfl (a_skip (a_next (σ' := ⟨[(0, (i6 a0)), (4, (ow 4)), (5, (ow 5)), (6, (ow 6)), (7, (i6 r2)), (8, (i6 x7)), (9, (ow 9)), (10, (i6 x40))], [(4, (bk (eA64u8 a1))), (5, (bk (eA64u8 a2))), (6, (bk (eA64u8 ((vrep 64 (0 : Int)))))), (9, (bk (eA64u8 x41)))]⟩) (by kernel_rfl) (a_seq (a_block (a_region (vp (i6 x40) rfl (vp (i6 x40) rfl (vp (i6 (IntKind.i64.wrap (x40 - 1))) rfl ?_))))))))
        obtain ⟨hc51, h⟩ := ifp_some h
        refine vq (.own 4 [(IntKind.i64.wrap (x40 - 1)).toNat] [(IntKind.i64.wrap (x40 - 1)).toNat * 1]) rfl hc51 ?_
        have hl52 : LdOk [(IntKind.i64.wrap (x40 - 1)).toNat] (eA64u8 a1) [(IntKind.i64.wrap (x40 - 1)).toNat * 1] 1 false (b8 ((rd a1.1 (IntKind.i64.wrap (x40 - 1)).toNat))) := (.arr (vlt a1 hc51) rfl (.nil rfl rfl rfl))
        refine vq (b8 ((rd a1.1 (IntKind.i64.wrap (x40 - 1)).toNat))) (ld_own (i := ⟨.int .u8, 1, 1, (.int .u8 0)⟩) rfl rfl rfl hl52) hl52.c ?_
        obtain ⟨hc53, h⟩ := ifp_some h
        refine vq (.own 9 [x40.toNat] [x40.toNat * 1]) rfl hc53 ?_
        have hs54 : StOk [x40.toNat] (eA64u8 x41) [x40.toNat * 1] 1 (b8 ((rd a1.1 (IntKind.i64.wrap (x40 - 1)).toNat))) (eA64u8 ((vset x41 x40.toNat ((rd a1.1 (IntKind.i64.wrap (x40 - 1)).toNat))))) := (.arr (y := (rd a1.1 (IntKind.i64.wrap (x40 - 1)).toNat)) (vlt x41 hc53) rfl (.nil rfl rfl rfl rfl))
        refine vu .top [(9, (bk (eA64u8 ((vset x41 x40.toNat ((rd a1.1 (IntKind.i64.wrap (x40 - 1)).toNat)))))))] (st_own (i := ⟨.int .u8, 1, 1, (.int .u8 0)⟩) rfl rfl (fun _ => rfl) rfl hs54) (hs54.c rfl) rfl (a_nil (b_norm (a_next (σ' := ⟨[(0, (i6 a0)), (4, (ow 4)), (5, (ow 5)), (6, (ow 6)), (7, (i6 r2)), (8, (i6 x7)), (9, (ow 9)), (10, (i6 x40))], [(4, (bk (eA64u8 a1))), (5, (bk (eA64u8 a2))), (6, (bk (eA64u8 ((vrep 64 (0 : Int)))))), (9, (bk (eA64u8 ((vset x41 x40.toNat ((rd a1.1 (IntKind.i64.wrap (x40 - 1)).toNat)))))))]⟩) (by kernel_rfl) (a_region (vp (i6 x40) rfl (vp (i6 (IntKind.i64.wrap (x40 + 1))) rfl (vp (i6 (IntKind.i64.wrap (x40 + 1))) rfl (a_nil ?_))))))))
        cases h
        exact a_again (by kernel_rfl) hX49
  · have h := ite_t hb4 h
    refine a_cond_t rfl (sr (vq (eA64u8 ((vrep 64 (0 : Int)))) rfl ⟨⟨_, rfl, rfl⟩, all_nil⟩ (vs (eA64u8 ((vrep 64 (0 : Int)))) rfl rfl (fun _ => rfl) rfl rfl rfl rfl rfl rfl (nx _ rfl (a_ret (t_ret ?_))))))
    have hl255 : LdOk [] (eA64u8 ((vrep 64 (0 : Int)))) [] 64 true (eA64u8 ((vrep 64 (0 : Int)))) := (.nil rfl rfl rfl)
    refine ⟨.inr rfl, ?_⟩
    rw [Try.results191]
    cases h
    exact ⟨_, _, _, _, _, ld_own (i := ⟨.arr 64 5, 64, 64, (eA64u8 (vrep 64 (0 : Int)))⟩) rfl rfl rfl hl255, hl255.c, .inl ⟨rfl, .inl rfl⟩, rfl, rfl⟩
def spec_l01MulMod_c : ACode := (.seq (.region 0 [q 5 (.box 26 (t 1)), q 6 (.box 26 (t 2)), q 7 (.box 26 (t 3)), q 8 (.alloc 26)] false) (.seq (.region 1 [q 11 (.build 26 []), q 9 (.alloc 26), ⟨none, .store 26 (t 9) (t 11), none, []⟩] false) (.seq (.seq (.region 2 [q 12 (.load 26 (t 6)), q 13 (.call 0 (.func 75) [(t 12)]), q 10 (.asg 0 (t 13) 2)] false) (.block 0 (.loop (.seq (.seq (.region 3 [q 14 (.mov (t 10)), q 15 (.bin .geq 2 (t 14) (.const (.int .i64 0)))] false) (.cond (t 15) .skip (.exit 0))) (.seq (.block 1 (.seq (.region 5 [q 18 (.mov (t 0)), q 19 (.load 26 (t 9)), q 20 (.load 26 (t 7)), q 21 (.call 0 (.func 191) [(t 18), (t 19), (t 20)]), ⟨none, .store 26 (t 9) (t 21), none, []⟩] false) (.region 6 [q 22 (.mov (t 0)), q 23 (.mov (t 0)), q 24 (.load 26 (t 9)), q 25 (.load 26 (t 5)), q 26 (.mov (t 10)), ⟨some 27, .indexAddr 26 (t 6) (t 26), none, [4]⟩, ⟨some 28, .load 5 (t 27), none, [5]⟩, ⟨some 29, .conv 5 2 (t 28), none, [6]⟩, ⟨some 30, .call 0 (.func 94) [(t 23), (t 24), (t 25), (t 29)], none, [1, 2, 3, 7]⟩, q 31 (.load 26 (t 7)), ⟨some 32, .call 0 (.func 96) [(t 22), (t 30), (t 31)], none, [0, 8, 9, 8]⟩, ⟨none, .store 26 (t 9) (t 32), none, [10, 10, 0, 1, 2, 3, 4, 5, 6, 7, 8, 9, 10]⟩] true))) (.region 4 [q 16 (.mov (t 10)), q 17 (.bin .sub 2 (t 16) (.const (.int .i64 1))), q 10 (.asg 0 (t 17) 2)] false)))))) (.seq (.region 7 [q 33 (.load 26 (t 9)), ⟨none, .store 26 (t 8) (t 33), none, []⟩] false) .ret))))
def spec_l01MulMod_L : Live := [(0, [0, 1, 2, 3]), (1, [0, 5, 6, 7, 8]), (2, [0, 5, 6, 7, 8, 9]), (3, [0, 5, 6, 7, 8, 9, 10]), (4, [0, 5, 6, 7, 8, 9, 10]), (5, [0, 5, 6, 7, 8, 9, 10]), (6, [0, 5, 6, 7, 8, 9, 10]), (7, [8, 9]), (100015, [0, 5, 6, 7, 8, 9, 10, 15])]
noncomputable def spec_l01MulMod_l1 (a0 : Int) (a3 : (Vec Int 64)) (a1 : (Vec Int 64)) (a2 : (Vec Int 64)) (x122 : Int) (x123 : (Vec Int 64)) : Option ((Int × (Vec Int 64)) ⊕ (Vec Int 64)) :=
  (if (decide (x122 ≥ 0)) then (Option.bind (spec_l01Up a0 x123 a3) fun r156 => (ifp (0 ≤ x122 ∧ x122 < ((64 : Nat) : Int)) ((Option.bind (spec_l01Add a0 r156 a1 (IntKind.i64.wrap (rd a2.1 x122.toNat))) fun r173 => (Option.bind (spec_l01Mod a0 r173 a3) fun r176 => (some (.inl ((IntKind.i64.wrap (x122 - 1), r176))))))))) else (some (.inr x123)))
noncomputable def spec_l01MulMod (a0 : Int) (a1 : (Vec Int 64)) (a2 : (Vec Int 64)) (a3 : (Vec Int 64)) : Option (Vec Int 64) :=
  (Option.bind (α := (Vec Int 64)) ((Option.bind (spec_l01Deg a2) fun r94 => (loopM (fun s : (Int × (Vec Int 64)) => spec_l01MulMod_l1 a0 a3 a1 a2 s.1 s.2) (r94, (vrep 64 (0 : Int)))))) fun x89 => (some x89))
theorem spec_l01MulMod_ok (a0 : Int) (a1 : (Vec Int 64)) (a2 : (Vec Int 64)) (a3 : (Vec Int 64)) (r : (Vec Int 64)) (h : spec_l01MulMod a0 a1 a2 a3 = some r) : Den Try.prog 162 [(i6 a0), (eA64u8 a1), (eA64u8 a2), (eA64u8 a3)] { r := (eA64u8 r) } := by
  refine den_of (rs := [(eA64u8 r)]) (ac := spec_l01MulMod_c) (L := spec_l01MulMod_L) (n := 34) (m := []) (c := Try.f162.body.getD .skip) good Try.func162 (by kernel_rfl) (by kernel_rfl) Try.ntmps162 rfl rfl (by kernel_rfl) rfl rfl ?_
  refine a_st (σ' := ⟨[(0, (i6 a0)), (1, (eA64u8 a1)), (2, (eA64u8 a2)), (3, (eA64u8 a3))], []⟩) (by kernel_rfl) ?_
  unfold spec_l01MulMod_c
  refine sr (vo 1500 (eA64u8 a1) rfl rfl (vo 1600 (eA64u8 a2) rfl rfl (vo 1700 (eA64u8 a3) rfl rfl (vo 1800 (eA64u8 ((vrep 64 (0 : Int)))) rfl rfl (nx ⟨[(0, (i6 a0)), (5, (ow 5)), (6, (ow 6)), (7, (ow 7)), (8, (ow 8))], [(5, (bk (eA64u8 a1))), (6, (bk (eA64u8 a2))), (7, (bk (eA64u8 a3))), (8, (bk (eA64u8 ((vrep 64 (0 : Int))))))]⟩ (by kernel_rfl) (sr (vq (eA64u8 ((vrep 64 (0 : Int)))) rfl ⟨⟨_, rfl, rfl⟩, all_nil⟩ (vo 1900 (eA64u8 ((vrep 64 (0 : Int)))) rfl rfl (vs (eA64u8 ((vrep 64 (0 : Int)))) rfl rfl (fun _ => rfl) rfl rfl rfl rfl rfl rfl ?_)))))))))
  refine nx ⟨[(0, (i6 a0)), (5, (ow 5)), (6, (ow 6)), (7, (ow 7)), (8, (ow 8)), (9, (ow 9))], [(5, (bk (eA64u8 a1))), (6, (bk (eA64u8 a2))), (7, (bk (eA64u8 a3))), (8, (bk (eA64u8 ((vrep 64 (0 : Int)))))), (9, (bk (eA64u8 ((vrep 64 (0 : Int))))))]⟩ (by kernel_rfl) ?_
  obtain ⟨y90, hy91, hk92⟩ := bind_some h
  clear h
  refine a_join (emb := fun (s : (Vec Int 64)) => ⟨[(8, (ow 8)), (9, (ow 9))], [(8, (bk (eA64u8 ((vrep 64 (0 : Int)))))), (9, (bk (eA64u8 s)))]⟩) (pre := fun s => s = y90) ?_ ?_
  · rintro x89 rfl
    have h := hk92
    refine a_st (σ' := ⟨[(8, (ow 8)), (9, (ow 9))], [(8, (bk (eA64u8 ((vrep 64 (0 : Int)))))), (9, (bk (eA64u8 x89)))]⟩) (by kernel_rfl) (sr (vl (eA64u8 x89) rfl rfl rfl rfl rfl rfl (vs (eA64u8 x89) rfl rfl (fun _ => rfl) rfl rfl rfl rfl rfl rfl (nx _ rfl (a_ret ?_)))))
    have hl182 : LdOk [] (eA64u8 x89) [] 64 true (eA64u8 x89) := (.nil rfl rfl rfl)
    refine ⟨.inr rfl, ?_⟩
    rw [Try.results162]
    cases h
    exact ⟨_, _, _, _, _, ld_own (i := ⟨.arr 64 5, 64, 64, (eA64u8 (vrep 64 (0 : Int)))⟩) rfl rfl rfl hl182, hl182.c, .inl ⟨rfl, .inl rfl⟩, rfl, rfl⟩
  · have h := hy91
    refine sr (vl (eA64u8 a2) rfl rfl rfl rfl rfl rfl ?_)
    obtain ⟨r94, hr95, h⟩ := bind_some h
    refine a_call (args := [(eA64u8 a2)]) (u := []) (r := (i6 r94)) rfl rfl (spec_l01Deg_ok a2 r94 hr95) rfl (vp (i6 r94) rfl (nx ⟨[(0, (i6 a0)), (5, (ow 5)), (6, (ow 6)), (7, (ow 7)), (8, (ow 8)), (9, (ow 9)), (10, (i6 r94))], [(5, (bk (eA64u8 a1))), (6, (bk (eA64u8 a2))), (7, (bk (eA64u8 a3))), (8, (bk (eA64u8 ((vrep 64 (0 : Int)))))), (9, (bk (eA64u8 ((vrep 64 (0 : Int))))))]⟩ (by kernel_rfl) (a_block ?_)))
    refine a_loop (emb := fun (s : (Int × (Vec Int 64))) => ⟨[(0, (i6 a0)), (5, (ow 5)), (6, (ow 6)), (7, (ow 7)), (8, (ow 8)), (9, (ow 9)), (10, (i6 s.1))], [(5, (bk (eA64u8 a1))), (6, (bk (eA64u8 a2))), (7, (bk (eA64u8 a3))), (8, (bk (eA64u8 ((vrep 64 (0 : Int)))))), (9, (bk (eA64u8 s.2)))]⟩) (body := (fun s : (Int × (Vec Int 64)) => spec_l01MulMod_l1 a0 a3 a1 a2 s.1 s.2)) (G := fun q => some q = some y90) h rfl ?_ (by kernel_rfl)
    rintro X150 ⟨x122, x123⟩ x151 h hX152
    have h : spec_l01MulMod_l1 a0 a3 a1 a2 x122 x123 = some x151 := h
    refine a_st (σ' := ⟨[(0, (i6 a0)), (5, (ow 5)), (6, (ow 6)), (7, (ow 7)), (8, (ow 8)), (9, (ow 9)), (10, (i6 x122))], [(5, (bk (eA64u8 a1))), (6, (bk (eA64u8 a2))), (7, (bk (eA64u8 a3))), (8, (bk (eA64u8 ((vrep 64 (0 : Int)))))), (9, (bk (eA64u8 x123)))]⟩) (by kernel_rfl) (a_seq (sr (vp (i6 x122) rfl (vp (.bool ((decide (x122 ≥ 0)))) rfl (nx ⟨[(0, (i6 a0)), (5, (ow 5)), (6, (ow 6)), (7, (ow 7)), (8, (ow 8)), (9, (ow 9)), (10, (i6 x122)), (15, (.bool ((decide (x122 ≥ 0)))))], [(5, (bk (eA64u8 a1))), (6, (bk (eA64u8 a2))), (7, (bk (eA64u8 a3))), (8, (bk (eA64u8 ((vrep 64 (0 : Int)))))), (9, (bk (eA64u8 x123)))]⟩ (by kernel_rfl) ?_)))))
    cases hb153 : (decide (x122 ≥ 0))
    · have h := ite_f hb153 h
      refine a_cond_f rfl (a_exit (t_exit ?_))
      cases h
      have h := hX152
      refine t_exit (b_exit ?_)
      exact j_leaf x123 (Option.some.inj h) (by kernel_rfl)
    · have h := ite_t hb153 h
      refine a_cond_t rfl (a_skip (a_next (σ' := ⟨[(0, (i6 a0)), (5, (ow 5)), (6, (ow 6)), (7, (ow 7)), (8, (ow 8)), (9, (ow 9)), (10, (i6 x122))], [(5, (bk (eA64u8 a1))), (6, (bk (eA64u8 a2))), (7, (bk (eA64u8 a3))), (8, (bk (eA64u8 ((vrep 64 (0 : Int)))))), (9, (bk (eA64u8 x123)))]⟩) (by kernel_rfl) (a_seq (a_block (sr (vp (i6 a0) rfl (vl (eA64u8 x123) rfl rfl rfl rfl rfl rfl (vl (eA64u8 a3) rfl rfl rfl rfl rfl rfl ?_))))))))
      obtain ⟨r156, hr157, h⟩ := bind_some h
      refine a_call (args := [(i6 a0), (eA64u8 x123), (eA64u8 a3)]) (u := []) (r := (eA64u8 r156)) rfl rfl (spec_l01Up_ok a0 x123 a3 r156 hr157) rfl (vs (eA64u8 r156) rfl rfl (fun _ => rfl) rfl rfl rfl rfl rfl rfl (nx ⟨[(0, (i6 a0)), (5, (ow 5)), (6, (ow 6)), (7, (ow 7)), (8, (ow 8)), (9, (ow 9)), (10, (i6 x122))], [(5, (bk (eA64u8 a1))), (6, (bk (eA64u8 a2))), (7, (bk (eA64u8 a3))), (8, (bk (eA64u8 ((vrep 64 (0 : Int)))))), (9, (bk (eA64u8 r156)))]⟩ (by kernel_rfl) (a_draw [⟨[], [], [], []⟩, ⟨[], [], [], []⟩, ⟨[9], [], [], []⟩, ⟨[5], [], [], []⟩, ⟨[], [], [], []⟩, ⟨[6], [], [6], [4]⟩, ⟨[6], [], [], [4, 5]⟩, ⟨[], [], [], [4, 5, 6]⟩, ⟨[], [], [], [1, 2, 3, 4, 5, 6, 7]⟩, ⟨[7], [], [], []⟩, ⟨[], [], [], [0, 1, 2, 3, 4, 5, 6, 7, 8, 9]⟩, ⟨[9], [9], [], [0, 1, 2, 3, 4, 5, 6, 7, 8, 9, 10]⟩] (by kernel_rfl) (dp (i6 a0) rfl (by kernel_rfl) (dp (i6 a0) rfl (by kernel_rfl) (d_cons (vl (eA64u8 r156) rfl rfl rfl rfl rfl rfl (d_next (by kernel_rfl) (d_cons ?_)))))))))
      refine vl (eA64u8 a1) rfl rfl rfl rfl rfl rfl (d_next (by kernel_rfl) (dp (i6 x122) rfl (by kernel_rfl) (d_cons ?_)))
      obtain ⟨hc171, h⟩ := ifp_some h
      refine vq (.own 6 [x122.toNat] [x122.toNat * 1]) rfl hc171 (d_next (by kernel_rfl) (d_cons ?_))
      have hl172 : LdOk [x122.toNat] (eA64u8 a2) [x122.toNat * 1] 1 false (b8 (rd a2.1 x122.toNat)) := (.arr (vlt a2 hc171) rfl (.nil rfl rfl rfl))
      refine vq (b8 (rd a2.1 x122.toNat)) (ld_own (i := ⟨.int .u8, 1, 1, (.int .u8 0)⟩) rfl rfl rfl hl172) hl172.c (d_next (by kernel_rfl) (dp (i6 (IntKind.i64.wrap (rd a2.1 x122.toNat))) rfl (by kernel_rfl) (d_cons ?_)))
      obtain ⟨r173, hr174, h⟩ := bind_some h
      refine a_call (args := [(i6 a0), (eA64u8 r156), (eA64u8 a1), (i6 (IntKind.i64.wrap (rd a2.1 x122.toNat)))]) (u := []) (r := (eA64u8 r173)) rfl rfl (spec_l01Add_ok a0 r156 a1 (IntKind.i64.wrap (rd a2.1 x122.toNat)) r173 hr174) rfl (d_next (by kernel_rfl) (d_cons (vl (eA64u8 a3) rfl rfl rfl rfl rfl rfl (d_next (by kernel_rfl) (d_cons ?_)))))
      obtain ⟨r176, hr177, h⟩ := bind_some h
      refine a_call (args := [(i6 a0), (eA64u8 r173), (eA64u8 a3)]) (u := []) (r := (eA64u8 r176)) rfl rfl (spec_l01Mod_ok a0 r173 a3 r176 hr177) rfl (d_next (by kernel_rfl) (d_cons (vs (eA64u8 r176) rfl rfl (fun _ => rfl) rfl rfl rfl rfl rfl rfl (d_next (by kernel_rfl) (d_nil (b_norm (a_next (σ' := ⟨[(0, (i6 a0)), (5, (ow 5)), (6, (ow 6)), (7, (ow 7)), (8, (ow 8)), (9, (ow 9)), (10, (i6 x122))], [(5, (bk (eA64u8 a1))), (6, (bk (eA64u8 a2))), (7, (bk (eA64u8 a3))), (8, (bk (eA64u8 ((vrep 64 (0 : Int)))))), (9, (bk (eA64u8 r176)))]⟩) (by kernel_rfl) (a_region (vp (i6 x122) rfl ?_)))))))))
      refine vp (i6 (IntKind.i64.wrap (x122 - 1))) rfl (vp (i6 (IntKind.i64.wrap (x122 - 1))) rfl (a_nil ?_))
      cases h
      exact a_again (by kernel_rfl) hX152
def spec_l01PowMod_c : ACode := (.seq (.region 0 [q 5 (.box 26 (t 1)), q 7 (.box 26 (t 3)), q 8 (.alloc 26)] false) (.seq (.region 1 [q 11 (.mov (t 0)), q 12 (.call 0 (.func 95) []), q 13 (.load 26 (t 7)), ⟨some 14, .call 0 (.func 96) [(t 11), (t 12), (t 13)], none, [0, 1, 2, 1]⟩, q 15 (.mov (t 0)), q 16 (.load 26 (t 5)), q 17 (.load 26 (t 7)), ⟨some 18, .call 0 (.func 96) [(t 15), (t 16), (t 17)], none, [4, 5, 6, 3]⟩, q 9 (.alloc 26), q 10 (.alloc 26), ⟨none, .store 26 (t 9) (t 14), none, [8, 3, 7, 0, 1, 2, 3, 8, 9]⟩, ⟨none, .store 26 (t 10) (t 18), none, [9, 7, 10, 0, 1, 2, 3, 4, 5, 6, 7, 8, 9, 10]⟩] true) (.seq (.block 0 (.loop (.seq (.seq (.region 2 [q 19 (.mov (t 2)), q 20 (.bin .gtr 2 (t 19) (.const (.int .i64 0)))] false) (.cond (t 20) .skip (.exit 0))) (.seq (.block 1 (.seq (.seq (.region 4 [q 23 (.mov (t 2)), q 24 (.bin .rem 2 (t 23) (.const (.int .i64 2))), q 25 (.bin .eql 2 (t 24) (.const (.int .i64 1)))] false) (.cond (t 25) (.region 5 [q 26 (.mov (t 0)), q 27 (.load 26 (t 9)), q 28 (.load 26 (t 10)), q 29 (.load 26 (t 7)), q 30 (.call 0 (.func 162) [(t 26), (t 27), (t 28), (t 29)]), ⟨none, .store 26 (t 9) (t 30), none, []⟩] false) .skip)) (.region 6 [q 31 (.mov (t 0)), q 32 (.load 26 (t 10)), q 33 (.load 26 (t 10)), q 34 (.load 26 (t 7)), q 35 (.call 0 (.func 162) [(t 31), (t 32), (t 33), (t 34)]), ⟨none, .store 26 (t 10) (t 35), none, []⟩] false))) (.region 3 [q 21 (.mov (t 2)), q 22 (.bin .quo 2 (t 21) (.const (.int .i64 2))), q 2 (.asg 0 (t 22) 2)] false))))) (.seq (.region 7 [q 36 (.load 26 (t 9)), ⟨none, .store 26 (t 8) (t 36), none, []⟩] false) .ret))))
def spec_l01PowMod_L : Live := [(0, [0, 1, 2, 3]), (1, [0, 2, 5, 7, 8]), (2, [0, 2, 7, 8, 9, 10]), (3, [0, 2, 7, 8, 9, 10]), (4, [0, 2, 7, 8, 9, 10]), (5, [0, 2, 7, 8, 9, 10]), (6, [0, 2, 7, 8, 9, 10]), (7, [8, 9]), (100020, [0, 2, 7, 8, 9, 10, 20]), (100025, [0, 2, 7, 8, 9, 10, 25])]
noncomputable def spec_l01PowMod_l1 (a0 : Int) (a3 : (Vec Int 64)) (x134 : Int) (x135 : (Vec Int 64)) (x136 : (Vec Int 64)) : Option ((Int × (Vec Int 64) × (Vec Int 64)) ⊕ (Vec Int 64)) :=
  (if (decide (x134 > 0)) then (Option.bind (α := (Vec Int 64)) ((if ((Int.tmod x134 2) == 1) then (Option.bind (spec_l01MulMod a0 x135 x136 a3) fun r181 => (some r181)) else (some x135))) fun x173 => (Option.bind (spec_l01MulMod a0 x136 x136 a3) fun r187 => (some (.inl ((IntKind.i64.wrap (Int.tdiv x134 2), x173, r187)))))) else (some (.inr x135)))
noncomputable def spec_l01PowMod (a0 : Int) (a1 : (Vec Int 64)) (a2 : Int) (a3 : (Vec Int 64)) : Option (Vec Int 64) :=
  (Option.bind (spec_l01One) fun r12 => (Option.bind (spec_l01Mod a0 r12 a3) fun r15 => (Option.bind (spec_l01Mod a0 a1 a3) fun r19 => (Option.bind (α := (Vec Int 64)) ((loopM (fun s : (Int × (Vec Int 64) × (Vec Int 64)) => spec_l01PowMod_l1 a0 a3 s.1 s.2.1 s.2.2) (a2, r15, r19))) fun x105 => (some x105)))))
theorem spec_l01PowMod_ok (a0 : Int) (a1 : (Vec Int 64)) (a2 : Int) (a3 : (Vec Int 64)) (r : (Vec Int 64)) (h : spec_l01PowMod a0 a1 a2 a3 = some r) : Den Try.prog 109 [(i6 a0), (eA64u8 a1), (i6 a2), (eA64u8 a3)] { r := (eA64u8 r) } := by
  refine den_of (rs := [(eA64u8 r)]) (ac := spec_l01PowMod_c) (L := spec_l01PowMod_L) (n := 37) (m := []) (c := Try.f109.body.getD .skip) good Try.func109 (by kernel_rfl) (by kernel_rfl) Try.ntmps109 rfl rfl (by kernel_rfl) rfl rfl ?_
  refine a_st (σ' := ⟨[(0, (i6 a0)), (1, (eA64u8 a1)), (2, (i6 a2)), (3, (eA64u8 a3))], []⟩) (by kernel_rfl) ?_
  unfold spec_l01PowMod_c
  refine sr (vo 1500 (eA64u8 a1) rfl rfl (vo 1700 (eA64u8 a3) rfl rfl (vo 1800 (eA64u8 ((vrep 64 (0 : Int)))) rfl rfl (nx ⟨[(0, (i6 a0)), (2, (i6 a2)), (5, (ow 5)), (7, (ow 7)), (8, (ow 8))], [(5, (bk (eA64u8 a1))), (7, (bk (eA64u8 a3))), (8, (bk (eA64u8 ((vrep 64 (0 : Int))))))]⟩ (by kernel_rfl) (a_seq (a_draw [⟨[], [], [], []⟩, ⟨[], [], [], []⟩, ⟨[7], [], [], []⟩, ⟨[], [], [], [0, 1, 2]⟩, ⟨[], [], [], []⟩, ⟨[5], [], [], []⟩, ⟨[7], [], [], []⟩, ⟨[], [], [], [0, 1, 2, 3, 4, 5, 6]⟩, ⟨[1900], [1900], [1900], []⟩, ⟨[2000], [2000], [2000], []⟩, ⟨[1900], [1900], [], [0, 1, 2, 3, 4, 5, 6, 7, 8, 9]⟩, ⟨[2000], [2000], [], [0, 1, 2, 3, 4, 5, 6, 7, 8, 9, 10]⟩] (by kernel_rfl) (dp (i6 a0) rfl (by kernel_rfl) (d_cons ?_))))))))
  obtain ⟨r12, hr13, h⟩ := bind_some h
  refine a_call (args := []) (u := []) (r := (eA64u8 r12)) rfl rfl (spec_l01One_ok r12 hr13) rfl (d_next (by kernel_rfl) (d_cons (vl (eA64u8 a3) rfl rfl rfl rfl rfl rfl (d_next (by kernel_rfl) (d_cons ?_)))))
  obtain ⟨r15, hr16, h⟩ := bind_some h
  refine a_call (args := [(i6 a0), (eA64u8 r12), (eA64u8 a3)]) (u := []) (r := (eA64u8 r15)) rfl rfl (spec_l01Mod_ok a0 r12 a3 r15 hr16) rfl (d_next (by kernel_rfl) (dp (i6 a0) rfl (by kernel_rfl) (d_cons (vl (eA64u8 a1) rfl rfl rfl rfl rfl rfl (d_next (by kernel_rfl) (d_cons (vl (eA64u8 a3) rfl rfl rfl rfl rfl rfl (d_next (by kernel_rfl) (d_cons ?_)))))))))
  obtain ⟨r19, hr20, h⟩ := bind_some h
  refine a_call (args := [(i6 a0), (eA64u8 a1), (eA64u8 a3)]) (u := []) (r := (eA64u8 r19)) rfl rfl (spec_l01Mod_ok a0 a1 a3 r19 hr20) rfl (d_next (by kernel_rfl) (d_cons (vo 1900 (eA64u8 ((vrep 64 (0 : Int)))) rfl rfl (d_next (by kernel_rfl) (d_cons (vo 2000 (eA64u8 ((vrep 64 (0 : Int)))) rfl rfl (d_next (by kernel_rfl) (d_cons (vs (eA64u8 r15) rfl rfl (fun _ => rfl) rfl rfl rfl rfl rfl rfl ?_)))))))))
  refine d_next (by kernel_rfl) (d_cons (vs (eA64u8 r19) rfl rfl (fun _ => rfl) rfl rfl rfl rfl rfl rfl (d_next (by kernel_rfl) (d_nil (a_next (σ' := ⟨[(0, (i6 a0)), (2, (i6 a2)), (7, (ow 7)), (8, (ow 8)), (9, (ow 9)), (10, (ow 10))], [(7, (bk (eA64u8 a3))), (8, (bk (eA64u8 ((vrep 64 (0 : Int)))))), (9, (bk (eA64u8 r15))), (10, (bk (eA64u8 r19)))]⟩) (by kernel_rfl) ?_)))))
  obtain ⟨y106, hy107, hk108⟩ := bind_some h
  clear h
  refine a_join (emb := fun (s : (Vec Int 64)) => ⟨[(8, (ow 8)), (9, (ow 9))], [(8, (bk (eA64u8 ((vrep 64 (0 : Int)))))), (9, (bk (eA64u8 s)))]⟩) (pre := fun s => s = y106) ?_ ?_
  · rintro x105 rfl
    have h := hk108
    refine a_st (σ' := ⟨[(8, (ow 8)), (9, (ow 9))], [(8, (bk (eA64u8 ((vrep 64 (0 : Int)))))), (9, (bk (eA64u8 x105)))]⟩) (by kernel_rfl) (sr (vl (eA64u8 x105) rfl rfl rfl rfl rfl rfl (vs (eA64u8 x105) rfl rfl (fun _ => rfl) rfl rfl rfl rfl rfl rfl (nx _ rfl (a_ret ?_)))))
    have hl193 : LdOk [] (eA64u8 x105) [] 64 true (eA64u8 x105) := (.nil rfl rfl rfl)
    refine ⟨.inr rfl, ?_⟩
    rw [Try.results109]
    cases h
    exact ⟨_, _, _, _, _, ld_own (i := ⟨.arr 64 5, 64, 64, (eA64u8 (vrep 64 (0 : Int)))⟩) rfl rfl rfl hl193, hl193.c, .inl ⟨rfl, .inl rfl⟩, rfl, rfl⟩
  · have h := hy107
    refine a_block ?_
    refine a_loop (emb := fun (s : (Int × (Vec Int 64) × (Vec Int 64))) => ⟨[(0, (i6 a0)), (2, (i6 s.1)), (7, (ow 7)), (8, (ow 8)), (9, (ow 9)), (10, (ow 10))], [(7, (bk (eA64u8 a3))), (8, (bk (eA64u8 ((vrep 64 (0 : Int)))))), (9, (bk (eA64u8 s.2.1))), (10, (bk (eA64u8 s.2.2)))]⟩) (body := (fun s : (Int × (Vec Int 64) × (Vec Int 64)) => spec_l01PowMod_l1 a0 a3 s.1 s.2.1 s.2.2)) (G := fun q => some q = some y106) h rfl ?_ (by kernel_rfl)
    rintro X162 ⟨x134, x135, x136⟩ x163 h hX164
    have h : spec_l01PowMod_l1 a0 a3 x134 x135 x136 = some x163 := h
    refine a_st (σ' := ⟨[(0, (i6 a0)), (2, (i6 x134)), (7, (ow 7)), (8, (ow 8)), (9, (ow 9)), (10, (ow 10))], [(7, (bk (eA64u8 a3))), (8, (bk (eA64u8 ((vrep 64 (0 : Int)))))), (9, (bk (eA64u8 x135))), (10, (bk (eA64u8 x136)))]⟩) (by kernel_rfl) (a_seq (sr (vp (i6 x134) rfl (vp (.bool ((decide (x134 > 0)))) rfl (nx ⟨[(0, (i6 a0)), (2, (i6 x134)), (7, (ow 7)), (8, (ow 8)), (9, (ow 9)), (10, (ow 10)), (20, (.bool ((decide (x134 > 0)))))], [(7, (bk (eA64u8 a3))), (8, (bk (eA64u8 ((vrep 64 (0 : Int)))))), (9, (bk (eA64u8 x135))), (10, (bk (eA64u8 x136)))]⟩ (by kernel_rfl) ?_)))))
    cases hb165 : (decide (x134 > 0))
    · have h := ite_f hb165 h
      refine a_cond_f rfl (a_exit (t_exit ?_))
      cases h
      have h := hX164
      refine t_exit (b_exit ?_)
      exact j_leaf x135 (Option.some.inj h) (by kernel_rfl)
    · have h := ite_t hb165 h
      refine a_cond_t rfl (a_skip (a_next (σ' := ⟨[(0, (i6 a0)), (2, (i6 x134)), (7, (ow 7)), (8, (ow 8)), (9, (ow 9)), (10, (ow 10))], [(7, (bk (eA64u8 a3))), (8, (bk (eA64u8 ((vrep 64 (0 : Int)))))), (9, (bk (eA64u8 x135))), (10, (bk (eA64u8 x136)))]⟩) (by kernel_rfl) (a_seq (a_block ?_))))
      obtain ⟨y174, hy175, hk176⟩ := bind_some h
      clear h
      refine a_join (emb := fun (s : (Vec Int 64)) => ⟨[(0, (i6 a0)), (2, (i6 x134)), (7, (ow 7)), (8, (ow 8)), (9, (ow 9)), (10, (ow 10))], [(7, (bk (eA64u8 a3))), (8, (bk (eA64u8 ((vrep 64 (0 : Int)))))), (9, (bk (eA64u8 s))), (10, (bk (eA64u8 x136)))]⟩) (pre := fun s => s = y174) ?_ ?_
      · rintro x173 rfl
        have h := hk176
        refine a_st (σ' := ⟨[(0, (i6 a0)), (2, (i6 x134)), (7, (ow 7)), (8, (ow 8)), (9, (ow 9)), (10, (ow 10))], [(7, (bk (eA64u8 a3))), (8, (bk (eA64u8 ((vrep 64 (0 : Int)))))), (9, (bk (eA64u8 x173))), (10, (bk (eA64u8 x136)))]⟩) (by kernel_rfl) (a_region (vp (i6 a0) rfl (vl (eA64u8 x136) rfl rfl rfl rfl rfl rfl (vl (eA64u8 x136) rfl rfl rfl rfl rfl rfl (vl (eA64u8 a3) rfl rfl rfl rfl rfl rfl ?_)))))
        obtain ⟨r187, hr188, h⟩ := bind_some h
        refine a_call (args := [(i6 a0), (eA64u8 x136), (eA64u8 x136), (eA64u8 a3)]) (u := []) (r := (eA64u8 r187)) rfl rfl (spec_l01MulMod_ok a0 x136 x136 a3 r187 hr188) rfl (vs (eA64u8 r187) rfl rfl (fun _ => rfl) rfl rfl rfl rfl rfl rfl (a_nil (b_norm (a_next (σ' := ⟨[(0, (i6 a0)), (2, (i6 x134)), (7, (ow 7)), (8, (ow 8)), (9, (ow 9)), (10, (ow 10))], [(7, (bk (eA64u8 a3))), (8, (bk (eA64u8 ((vrep 64 (0 : Int)))))), (9, (bk (eA64u8 x173))), (10, (bk (eA64u8 r187)))]⟩) (by kernel_rfl) (a_region (vp (i6 x134) rfl (vq (i6 (IntKind.i64.wrap (Int.tdiv x134 2))) rfl (by decide) (vp (i6 (IntKind.i64.wrap (Int.tdiv x134 2))) rfl (a_nil ?_)))))))))
        cases h
        exact a_again (by kernel_rfl) hX164
      · have h := hy175
        refine sr (vp (i6 x134) rfl (vq (i6 (Int.tmod x134 2)) rfl (by decide) (vp (.bool (((Int.tmod x134 2) == 1))) rfl (nx ⟨[(0, (i6 a0)), (2, (i6 x134)), (7, (ow 7)), (8, (ow 8)), (9, (ow 9)), (10, (ow 10)), (25, (.bool (((Int.tmod x134 2) == 1))))], [(7, (bk (eA64u8 a3))), (8, (bk (eA64u8 ((vrep 64 (0 : Int)))))), (9, (bk (eA64u8 x135))), (10, (bk (eA64u8 x136)))]⟩ (by kernel_rfl) ?_))))
        cases hb177 : ((Int.tmod x134 2) == 1)
        · have h := ite_f hb177 h
          refine a_cond_f rfl (a_skip ?_)
          exact j_leaf x135 (Option.some.inj h) (by kernel_rfl)
        · have h := ite_t hb177 h
          refine a_cond_t rfl (a_region (vp (i6 a0) rfl (vl (eA64u8 x135) rfl rfl rfl rfl rfl rfl (vl (eA64u8 x136) rfl rfl rfl rfl rfl rfl (vl (eA64u8 a3) rfl rfl rfl rfl rfl rfl ?_)))))
          obtain ⟨r181, hr182, h⟩ := bind_some h
          refine a_call (args := [(i6 a0), (eA64u8 x135), (eA64u8 x136), (eA64u8 a3)]) (u := []) (r := (eA64u8 r181)) rfl rfl (spec_l01MulMod_ok a0 x135 x136 a3 r181 hr182) rfl (vs (eA64u8 r181) rfl rfl (fun _ => rfl) rfl rfl rfl rfl rfl rfl (a_nil ?_))
          exact j_leaf r181 (Option.some.inj h) (by kernel_rfl)
def spec_l02Symbol_c : ACode := (.seq (.region 0 [q 4 (.box 26 (t 1)), q 5 (.box 26 (t 2)), q 6 (.asg 0 (.const (.int .i64 0)) 2)] false) (.seq (.region 1 [q 13 (.mov (t 0)), q 14 (.load 26 (t 5)), q 15 (.call 0 (.func 154) [(t 13), (t 14)]), q 7 (.asg 1 (t 15) 149), q 8 (.asg 0 (.const (.int .i64 1)) 2)] false) (.seq (.seq (.region 2 [q 9 (.asg 0 (.const (.int .i64 0)) 3)] false) (.block 0 (.loop (.seq (.seq (.region 3 [q 16 (.mov (t 9)), q 17 (.mov (t 7)), q 18 (.blt 0 .len [(t 17)] [149]), q 19 (.bin .lss 3 (t 16) (t 18))] false) (.cond (t 19) .skip (.exit 0))) (.seq (.block 1 (.seq (.region 5 [q 22 (.mov (t 7)), q 23 (.mov (t 9)), q 24 (.indexAddr 149 (t 22) (t 23)), q 25 (.fieldAddr 152 (t 24) 0), q 26 (.load 26 (t 25)), q 10 (.alloc 26), ⟨none, .store 26 (t 10) (t 26), none, []⟩] false) (.seq (.region 6 [q 27 (.mov (t 0)), q 28 (.load 26 (t 4)), q 29 (.mov (t 0)), q 30 (.load 26 (t 10)), ⟨some 31, .call 0 (.func 75) [(t 30)], none, [3]⟩, ⟨some 32, .call 0 (.func 155) [(t 29), (t 31)], none, [2, 4, 4]⟩, ⟨some 33, .bin .sub 2 (t 32) (.const (.int .i64 1)), none, [5]⟩, q 34 (.mov (t 0)), ⟨some 35, .bin .sub 2 (t 34) (.const (.int .i64 1)), none, [7]⟩, ⟨some 36, .bin .quo 2 (t 33) (t 35), none, [6, 8]⟩, q 37 (.load 26 (t 10)), ⟨some 38, .call 0 (.func 109) [(t 27), (t 28), (t 36), (t 37)], none, [0, 1, 9, 10, 5]⟩, q 11 (.alloc 26), ⟨none, .store 26 (t 11) (t 38), none, [12, 11, 11, 0, 1, 2, 3, 4, 5, 6, 7, 8, 9, 10, 11, 12]⟩] true) (.seq (.region 7 [q 39 (.mov (t 7)), q 40 (.mov (t 9)), q 41 (.indexAddr 149 (t 39) (t 40)), q 42 (.fieldAddr 152 (t 41) 1), q 43 (.load 2 (t 42)), q 12 (.asg 0 (t 43) 2)] false) (.block 2 (.loop (.seq (.seq (.region 8 [q 44 (.mov (t 12)), q 45 (.bin .gtr 2 (t 44) (.const (.int .i64 0)))] false) (.cond (t 45) .skip (.exit 2))) (.seq (.block 3 (.region 10 [q 48 (.mov (t 8)), q 49 (.indexAddr 26 (t 11) (.const (.int .i64 0))), q 50 (.load 5 (t 49)), q 51 (.conv 5 2 (t 50)), q 52 (.bin .mul 2 (t 48) (t 51)), q 53 (.mov (t 0)), q 54 (.bin .rem 2 (t 52) (t 53)), q 8 (.asg 0 (t 54) 2)] false)) (.region 9 [q 46 (.mov (t 12)), q 47 (.bin .sub 2 (t 46) (.const (.int .i64 1))), q 12 (.asg 0 (t 47) 2)] false))))))))) (.region 4 [q 20 (.mov (t 9)), q 21 (.bin .add 3 (t 20) (.const (.int .i64 1))), q 9 (.asg 0 (t 21) 3)] false)))))) (.seq (.region 11 [q 55 (.mov (t 8)), q 6 (.asg 0 (t 55) 2)] false) .ret))))
def spec_l02Symbol_L : Live := [(0, [0, 1, 2]), (1, [0, 4, 5]), (2, [0, 4, 7, 8]), (3, [0, 4, 7, 8, 9]), (4, [0, 4, 7, 8, 9]), (5, [0, 4, 7, 8, 9]), (6, [0, 4, 7, 8, 9, 10]), (7, [0, 4, 7, 8, 9, 11]), (8, [0, 4, 7, 8, 9, 11, 12]), (9, [0, 4, 7, 8, 9, 11, 12]), (10, [0, 4, 7, 8, 9, 11, 12]), (11, [8]), (100019, [0, 4, 7, 8, 9, 19]), (100045, [0, 4, 7, 8, 9, 11, 12, 45])]
noncomputable def spec_l02Symbol_l2 (r680 : (Vec Int 64)) (a0 : Int) (x691 : Int) (x692 : Int) : Option ((Int × Int) ⊕ Int) :=
  (if (decide (x692 > 0)) then (ifp (0 ≤ (0 : Int) ∧ (0 : Int) < ((64 : Nat) : Int)) ((letp (IntKind.i64.wrap (x691 * (IntKind.i64.wrap ((rd r680.1 (0 : Int).toNat))))) fun x705 => (ifp (a0 ≠ 0) ((some (.inl ((Int.tmod x705 a0, IntKind.i64.wrap (x692 - 1)))))))))) else (some (.inr x691)))
noncomputable def spec_l02Symbol_l1 (r2 : (List ((Vec Int 64) × Int))) (a0 : Int) (a1 : (Vec Int 64)) (x474 : Int) (x475 : Int) : Option ((Int × Int) ⊕ Int) :=
  (if (decide (x475 < (r2.length : Int))) then (Option.bind (α := Int) ((ifp (0 ≤ x475 ∧ x475 < ((r2.length : Nat) : Int)) ((Option.bind (spec_l01Deg ((rd r2 x475.toNat).1)) fun r672 => (Option.bind (spec_l02Power a0 r672) fun r674 => (ifp ((IntKind.i64.wrap (a0 - 1)) ≠ 0) ((letp (IntKind.i64.wrap (Int.tdiv (IntKind.i64.wrap (r674 - 1)) (IntKind.i64.wrap (a0 - 1)))) fun x677 => (Option.bind (spec_l01PowMod a0 a1 x677 ((rd r2 x475.toNat).1)) fun r680 => (ifp (0 ≤ x475 ∧ x475 < ((r2.length : Nat) : Int)) ((loopM (fun s : (Int × Int) => spec_l02Symbol_l2 r680 a0 s.1 s.2) (x474, (rd r2 x475.toNat).2))))))))))))) fun x650 => (some (.inl ((x650, IntKind.i64.wrap (x475 + 1)))))) else (some (.inr x474)))
noncomputable def spec_l02Symbol (a0 : Int) (a1 : (Vec Int 64)) (a2 : (Vec Int 64)) : Option Int :=
  (Option.bind (spec_l02Split a0 a2) fun r2 => (Option.bind (α := Int) ((loopM (fun s : (Int × Int) => spec_l02Symbol_l1 r2 a0 a1 s.1 s.2) (1, 0))) fun x355 => (some x355)))
theorem spec_l02Symbol_ok (a0 : Int) (a1 : (Vec Int 64)) (a2 : (Vec Int 64)) (r : Int) (h : spec_l02Symbol a0 a1 a2 = some r) : Den Try.prog 84 [(i6 a0), (eA64u8 a1), (eA64u8 a2)] { r := (i6 r) } := by
  refine den_of (rs := [(i6 r)]) (ac := spec_l02Symbol_c) (L := spec_l02Symbol_L) (n := 56) (m := [(7, 1)]) (c := Try.f84.body.getD .skip) good Try.func84 (by kernel_rfl) (by kernel_rfl) Try.ntmps84 rfl rfl (by kernel_rfl) rfl rfl ?_
  refine a_st (σ' := ⟨[(0, (i6 a0)), (1, (eA64u8 a1)), (2, (eA64u8 a2))], []⟩) (by kernel_rfl) ?_
  unfold spec_l02Symbol_c
  refine sr (vo 1400 (eA64u8 a1) rfl rfl (vo 1500 (eA64u8 a2) rfl rfl (vp (i6 0) rfl (nx ⟨[(0, (i6 a0)), (4, (ow 4)), (5, (ow 5))], [(4, (bk (eA64u8 a1))), (5, (bk (eA64u8 a2)))]⟩ (by kernel_rfl) (sr (vp (i6 a0) rfl (vl (eA64u8 a2) rfl rfl rfl rfl rfl rfl ?_)))))))
  obtain ⟨r2, hr3, h⟩ := bind_some h
  refine a_call (args := [(i6 a0), (eA64u8 a2)]) (u := []) (r := (eST_A64u8_i64_Z r2)) rfl rfl (spec_l02Split_ok a0 a2 r2 hr3) rfl (vp (eST_A64u8_i64_Z r2) rfl (vp (i6 1) rfl (nx ⟨[(0, (i6 a0)), (4, (ow 4)), (7, (eST_A64u8_i64_Z r2)), (8, (i6 1))], [(4, (bk (eA64u8 a1)))]⟩ (by kernel_rfl) ?_)))
  obtain ⟨y356, hy357, hk358⟩ := bind_some h
  clear h
  refine a_join (emb := fun (s : Int) => ⟨[(8, (i6 s))], []⟩) (pre := fun s => s = y356) ?_ ?_
  · rintro x355 rfl
    have h := hk358
    refine a_st (σ' := ⟨[(8, (i6 x355))], []⟩) (by kernel_rfl) (sr (vp (i6 x355) rfl (vp (i6 x355) rfl (nx _ rfl (a_ret ?_)))))
    refine ⟨.inr rfl, ?_⟩
    rw [Try.results84]
    cases h
    exact ⟨_, _, _, _, _, rfl, trivial, .inl ⟨rfl, .inl rfl⟩, rfl, rfl⟩
  · have h := hy357
    refine sr (vp (i6 0) rfl (nx ⟨[(0, (i6 a0)), (4, (ow 4)), (7, (eST_A64u8_i64_Z r2)), (8, (i6 1)), (9, (i6 0))], [(4, (bk (eA64u8 a1)))]⟩ (by kernel_rfl) (a_block ?_)))
    refine a_loop (emb := fun (s : (Int × Int)) => ⟨[(0, (i6 a0)), (4, (ow 4)), (7, (eST_A64u8_i64_Z r2)), (8, (i6 s.1)), (9, (i6 s.2))], [(4, (bk (eA64u8 a1)))]⟩) (body := (fun s : (Int × Int) => spec_l02Symbol_l1 r2 a0 a1 s.1 s.2)) (G := fun q => some q = some y356) h rfl ?_ (by kernel_rfl)
    rintro X591 ⟨x474, x475⟩ x592 h hX593
    have h : spec_l02Symbol_l1 r2 a0 a1 x474 x475 = some x592 := h
    refine a_st (σ' := ⟨[(0, (i6 a0)), (4, (ow 4)), (7, (eST_A64u8_i64_Z r2)), (8, (i6 x474)), (9, (i6 x475))], [(4, (bk (eA64u8 a1)))]⟩) (by kernel_rfl) (a_seq (sr (vp (i6 x475) rfl (vp (eST_A64u8_i64_Z r2) rfl (vq (i6 (r2.length : Int)) (len_run rfl rfl) trivial (vp (.bool ((decide (x475 < (r2.length : Int))))) rfl (nx ⟨[(0, (i6 a0)), (4, (ow 4)), (7, (eST_A64u8_i64_Z r2)), (8, (i6 x474)), (9, (i6 x475)), (19, (.bool ((decide (x475 < (r2.length : Int))))))], [(4, (bk (eA64u8 a1)))]⟩ (by kernel_rfl) ?_)))))))
    cases hb594 : (decide (x475 < (r2.length : Int)))
    · have h := ite_f hb594 h
      refine a_cond_f rfl (a_exit (t_exit ?_))
      cases h
      have h := hX593
      refine t_exit (b_exit ?_)
      exact j_leaf x474 (Option.some.inj h) (by kernel_rfl)
    · have h := ite_t hb594 h
      refine a_cond_t rfl (a_skip (a_next (σ' := ⟨[(0, (i6 a0)), (4, (ow 4)), (7, (eST_A64u8_i64_Z r2)), (8, (i6 x474)), (9, (i6 x475))], [(4, (bk (eA64u8 a1)))]⟩) (by kernel_rfl) ?_))
      obtain ⟨y651, hy652, hk653⟩ := bind_some h
      clear h
      refine a_join (emb := fun (s : Int) => ⟨[(0, (i6 a0)), (4, (ow 4)), (7, (eST_A64u8_i64_Z r2)), (8, (i6 s)), (9, (i6 x475))], [(4, (bk (eA64u8 a1)))]⟩) (pre := fun s => s = y651) ?_ ?_
      · rintro x650 rfl
        have h := hk653
        refine a_st (σ' := ⟨[(0, (i6 a0)), (4, (ow 4)), (7, (eST_A64u8_i64_Z r2)), (8, (i6 x650)), (9, (i6 x475))], [(4, (bk (eA64u8 a1)))]⟩) (by kernel_rfl) (a_region (vp (i6 x475) rfl (vp (i6 (IntKind.i64.wrap (x475 + 1))) rfl (vp (i6 (IntKind.i64.wrap (x475 + 1))) rfl (a_nil ?_)))))
        cases h
        exact a_again (by kernel_rfl) hX593
      · have h := hy652
        refine a_block (sr (vp (eST_A64u8_i64_Z r2) rfl (vp (i6 x475) rfl ?_)))
        obtain ⟨hc654, h⟩ := ifp_some h
        refine vq (.ref (.row 65 (r2.map eT_A64u8_i64_Z)) [x475.toNat] [x475.toNat * 65]) rfl (lmap hc654) (vb (.ref (.row 65 (r2.map eT_A64u8_i64_Z)) [x475.toNat, 0] [x475.toNat * 65, 0]) rfl rfl ?_)
        have hl655 : LdOk [x475.toNat, 0] (.row 65 (r2.map eT_A64u8_i64_Z)) [x475.toNat * 65, 0] 64 true (eA64u8 ((rd r2 x475.toNat).1)) := (.row (llt hc654) rfl (.fld rfl rfl rfl rfl (.nil rfl rfl rfl)))
        refine vq (eA64u8 ((rd r2 x475.toNat).1)) (ld_ref (i := ⟨.arr 64 5, 64, 64, (eA64u8 (vrep 64 (0 : Int)))⟩) rfl rfl hl655) hl655.c (vo 2000 (eA64u8 ((vrep 64 (0 : Int)))) rfl rfl (vs (eA64u8 ((rd r2 x475.toNat).1)) rfl rfl (fun _ => rfl) rfl rfl rfl rfl rfl rfl (nx ⟨[(0, (i6 a0)), (4, (ow 4)), (7, (eST_A64u8_i64_Z r2)), (8, (i6 x474)), (9, (i6 x475)), (10, (ow 10))], [(4, (bk (eA64u8 a1))), (10, (bk (eA64u8 ((rd r2 x475.toNat).1))))]⟩ (by kernel_rfl) (a_seq (a_draw [⟨[], [], [], []⟩, ⟨[4], [], [], []⟩, ⟨[], [], [], []⟩, ⟨[10], [], [], []⟩, ⟨[], [], [], [3]⟩, ⟨[], [], [], [2, 3, 4]⟩, ⟨[], [], [], [2, 3, 4, 5]⟩, ⟨[], [], [], []⟩, ⟨[], [], [], [7]⟩, ⟨[], [], [], [2, 3, 4, 5, 6, 7, 8]⟩, ⟨[10], [], [], []⟩, ⟨[], [], [], [0, 1, 2, 3, 4, 5, 6, 7, 8, 9, 10]⟩, ⟨[2100], [2100], [2100], []⟩, ⟨[2100], [2100], [], [0, 1, 2, 3, 4, 5, 6, 7, 8, 9, 10, 11, 12]⟩] (by kernel_rfl) (dp (i6 a0) rfl (by kernel_rfl) (d_cons (vl (eA64u8 a1) rfl rfl rfl rfl rfl rfl (d_next (by kernel_rfl) ?_)))))))))
        refine dp (i6 a0) rfl (by kernel_rfl) (d_cons (vl (eA64u8 ((rd r2 x475.toNat).1)) rfl rfl rfl rfl rfl rfl (d_next (by kernel_rfl) (d_cons ?_))))
        obtain ⟨r672, hr673, h⟩ := bind_some h
        refine a_call (args := [(eA64u8 ((rd r2 x475.toNat).1))]) (u := []) (r := (i6 r672)) rfl rfl (spec_l01Deg_ok ((rd r2 x475.toNat).1) r672 hr673) rfl (d_next (by kernel_rfl) (d_cons ?_))
        obtain ⟨r674, hr675, h⟩ := bind_some h
        refine a_call (args := [(i6 a0), (i6 r672)]) (u := []) (r := (i6 r674)) rfl rfl (spec_l02Power_ok a0 r672 r674 hr675) rfl (d_next (by kernel_rfl) (dp (i6 (IntKind.i64.wrap (r674 - 1))) rfl (by kernel_rfl) (dp (i6 a0) rfl (by kernel_rfl) (dp (i6 (IntKind.i64.wrap (a0 - 1))) rfl (by kernel_rfl) (d_cons ?_)))))
        obtain ⟨hc676, h⟩ := ifp_some h
        obtain ⟨x677, hx678, h⟩ := letp_some h
        refine a_val' (v := (i6 (IntKind.i64.wrap (Int.tdiv (IntKind.i64.wrap (r674 - 1)) (IntKind.i64.wrap (a0 - 1)))))) (v' := (i6 x677)) (u := []) (u' := []) rfl (congrArg (fun z => ((i6 z) : AV)) hx678) rfl hc676 rfl (d_next (by kernel_rfl) (d_cons (vl (eA64u8 ((rd r2 x475.toNat).1)) rfl rfl rfl rfl rfl rfl (d_next (by kernel_rfl) (d_cons ?_)))))
        obtain ⟨r680, hr681, h⟩ := bind_some h
        refine a_call (args := [(i6 a0), (eA64u8 a1), (i6 x677), (eA64u8 ((rd r2 x475.toNat).1))]) (u := []) (r := (eA64u8 r680)) rfl rfl (spec_l01PowMod_ok a0 a1 x677 ((rd r2 x475.toNat).1) r680 hr681) rfl (d_next (by kernel_rfl) (d_cons (vo 2100 (eA64u8 ((vrep 64 (0 : Int)))) rfl rfl (d_next (by kernel_rfl) (d_cons (vs (eA64u8 r680) rfl rfl (fun _ => rfl) rfl rfl rfl rfl rfl rfl (d_next (by kernel_rfl) (d_nil (a_next (σ' := ⟨[(0, (i6 a0)), (4, (ow 4)), (7, (eST_A64u8_i64_Z r2)), (8, (i6 x474)), (9, (i6 x475)), (11, (ow 11))], [(4, (bk (eA64u8 a1))), (11, (bk (eA64u8 r680)))]⟩) (by kernel_rfl) ?_)))))))))
        refine sr (vp (eST_A64u8_i64_Z r2) rfl (vp (i6 x475) rfl ?_))
        obtain ⟨hc683, h⟩ := ifp_some h
        refine vq (.ref (.row 65 (r2.map eT_A64u8_i64_Z)) [x475.toNat] [x475.toNat * 65]) rfl (lmap hc683) (vb (.ref (.row 65 (r2.map eT_A64u8_i64_Z)) [x475.toNat, 1] [x475.toNat * 65, 64]) rfl rfl ?_)
        have hl684 : LdOk [x475.toNat, 1] (.row 65 (r2.map eT_A64u8_i64_Z)) [x475.toNat * 65, 64] 1 false (i6 ((rd r2 x475.toNat).2)) := (.row (llt hc683) rfl (.fld rfl rfl rfl rfl (.nil rfl rfl rfl)))
        refine vq (i6 ((rd r2 x475.toNat).2)) (ld_ref (i := ⟨.int .i64, 1, 8, (.int .i64 0)⟩) rfl rfl hl684) hl684.c (vp (i6 ((rd r2 x475.toNat).2)) rfl (nx ⟨[(0, (i6 a0)), (4, (ow 4)), (7, (eST_A64u8_i64_Z r2)), (8, (i6 x474)), (9, (i6 x475)), (11, (ow 11)), (12, (i6 ((rd r2 x475.toNat).2)))], [(4, (bk (eA64u8 a1))), (11, (bk (eA64u8 r680)))]⟩ (by kernel_rfl) (a_block ?_)))
        refine a_loop (emb := fun (s : (Int × Int)) => ⟨[(0, (i6 a0)), (4, (ow 4)), (7, (eST_A64u8_i64_Z r2)), (8, (i6 s.1)), (9, (i6 x475)), (11, (ow 11)), (12, (i6 s.2))], [(4, (bk (eA64u8 a1))), (11, (bk (eA64u8 r680)))]⟩) (body := (fun s : (Int × Int) => spec_l02Symbol_l2 r680 a0 s.1 s.2)) (G := fun q => some q = some y651) h rfl ?_ (by kernel_rfl)
        rintro X699 ⟨x691, x692⟩ x700 h hX701
        have h : spec_l02Symbol_l2 r680 a0 x691 x692 = some x700 := h
        refine a_st (σ' := ⟨[(0, (i6 a0)), (4, (ow 4)), (7, (eST_A64u8_i64_Z r2)), (8, (i6 x691)), (9, (i6 x475)), (11, (ow 11)), (12, (i6 x692))], [(4, (bk (eA64u8 a1))), (11, (bk (eA64u8 r680)))]⟩) (by kernel_rfl) (a_seq (sr (vp (i6 x692) rfl (vp (.bool ((decide (x692 > 0)))) rfl (nx ⟨[(0, (i6 a0)), (4, (ow 4)), (7, (eST_A64u8_i64_Z r2)), (8, (i6 x691)), (9, (i6 x475)), (11, (ow 11)), (12, (i6 x692)), (45, (.bool ((decide (x692 > 0)))))], [(4, (bk (eA64u8 a1))), (11, (bk (eA64u8 r680)))]⟩ (by kernel_rfl) ?_)))))
        cases hb702 : (decide (x692 > 0))
        · have h := ite_f hb702 h
          refine a_cond_f rfl (a_exit (t_exit ?_))
          cases h
          have h := hX701
          refine t_exit (b_exit (b_norm ?_))
          exact j_leaf x691 (Option.some.inj h) (by kernel_rfl)
        · have h := ite_t hb702 h
          refine a_cond_t rfl (a_skip (a_next (σ' := ⟨[(0, (i6 a0)), (4, (ow 4)), (7, (eST_A64u8_i64_Z r2)), (8, (i6 x691)), (9, (i6 x475)), (11, (ow 11)), (12, (i6 x692))], [(4, (bk (eA64u8 a1))), (11, (bk (eA64u8 r680)))]⟩) (by kernel_rfl) (a_seq (a_block (a_region (vp (i6 x691) rfl ?_))))))
          obtain ⟨hc703, h⟩ := ifp_some h
          refine vq (.own 11 [(0 : Int).toNat] [(0 : Int).toNat * 1]) rfl hc703 ?_
          have hl704 : LdOk [(0 : Int).toNat] (eA64u8 r680) [(0 : Int).toNat * 1] 1 false (b8 ((rd r680.1 (0 : Int).toNat))) := (.arr (vlt r680 hc703) rfl (.nil rfl rfl rfl))
          refine vq (b8 ((rd r680.1 (0 : Int).toNat))) (ld_own (i := ⟨.int .u8, 1, 1, (.int .u8 0)⟩) rfl rfl rfl hl704) hl704.c (vp (i6 (IntKind.i64.wrap ((rd r680.1 (0 : Int).toNat)))) rfl ?_)
          obtain ⟨x705, hx706, h⟩ := letp_some h
          refine a_val' (v := (i6 (IntKind.i64.wrap (x691 * (IntKind.i64.wrap ((rd r680.1 (0 : Int).toNat))))))) (v' := (i6 x705)) (u := []) (u' := []) rfl (congrArg (fun z => ((i6 z) : AV)) hx706) rfl trivial rfl (vp (i6 a0) rfl ?_)
          obtain ⟨hc707, h⟩ := ifp_some h
          refine vq (i6 (Int.tmod x705 a0)) rfl hc707 (vp (i6 (Int.tmod x705 a0)) rfl (a_nil (b_norm (a_next (σ' := ⟨[(0, (i6 a0)), (4, (ow 4)), (7, (eST_A64u8_i64_Z r2)), (8, (i6 (Int.tmod x705 a0))), (9, (i6 x475)), (11, (ow 11)), (12, (i6 x692))], [(4, (bk (eA64u8 a1))), (11, (bk (eA64u8 r680)))]⟩) (by kernel_rfl) (a_region (vp (i6 x692) rfl (vp (i6 (IntKind.i64.wrap (x692 - 1))) rfl (vp (i6 (IntKind.i64.wrap (x692 - 1))) rfl (a_nil ?_)))))))))
          cases h
          exact a_again (by kernel_rfl) hX701
end Go.Proofs.Ytdhcpekngpndnaa
