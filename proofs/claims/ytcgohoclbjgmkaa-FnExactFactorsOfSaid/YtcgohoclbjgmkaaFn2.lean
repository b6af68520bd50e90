/- Functions of the program: plain Lean functions, and that the program computes them. Printed by gen.py. -/
import Derived.Test.YtcgohoclbjgmkaaFnT
import Derived.Test.YtcgohoclbjgmkaaFn1
namespace Go.Proofs.Ytcgohoclbjgmkaa
open Go.Abs Go.Proofs
set_option linter.unusedSimpArgs false
set_option linter.unusedVariables false
set_option maxHeartbeats 16000000
attribute [local irreducible] Abs.acode Abs.aops Abs.aopsT Abs.thenK Abs.blockK

def spec_l02Split_c : ACode := (.seq (.region 0 [q 3 (.box 24 (t 1)), q 4 (.asg 1 (.const (.slice none 0 0)) 29)] false) (.seq (.region 1 [q 15 (.bslice 2 29 0 []), q 5 (.asg 2 (t 15) 29)] false) (.seq (.seq (.region 2 [q 6 (.asg 0 (.const (.int .i64 1)) 2)] false) (.block 0 (.loop (.seq (.seq (.region 3 [q 16 (.mov (t 6)), q 17 (.bin .mul 2 (.const (.int .i64 2)) (t 16)), q 18 (.load 24 (t 3)), q 19 (.call 0 (.func 81) [(t 18)]), q 20 (.bin .leq 2 (t 17) (t 19))] false) (.cond (t 20) .skip (.exit 0))) (.seq (.block 1 (.seq (.region 5 [q 23 (.mov (t 0)), q 24 (.mov (t 6)), q 25 (.call 0 (.func 62) [(t 23), (t 24)]), q 7 (.asg 0 (t 25) 2)] false) (.block 2 (.loop (.seq (.seq (.region 6 [q 26 (.mov (t 7)), q 27 (.mov (t 0)), q 28 (.mov (t 6)), q 29 (.call 0 (.func 62) [(t 27), (t 28)]), q 30 (.bin .mul 2 (.const (.int .i64 2)) (t 29)), q 31 (.bin .lss 2 (t 26) (t 30)), q 32 (.mov (t 31)), ⟨some 33, .mov (t 6), some (32, true), []⟩, ⟨some 34, .bin .mul 2 (.const (.int .i64 2)) (t 33), some (32, true), []⟩, ⟨some 35, .load 24 (t 3), some (32, true), []⟩, ⟨some 36, .call 0 (.func 81) [(t 35)], some (32, true), []⟩, ⟨some 37, .bin .leq 2 (t 34) (t 36), some (32, true), []⟩, q 38 (.pick (t 32) (t 37) (.const (.bool false)))] false) (.cond (t 38) .skip (.exit 2))) (.seq (.block 3 (.seq (.region 8 [q 41 (.mov (t 0)), q 42 (.mov (t 7)), q 43 (.call 0 (.func 63) [(t 41), (t 42)]), q 8 (.alloc 24), ⟨none, .store 24 (t 8) (t 43), none, []⟩, q 9 (.asg 0 (.const (.int .i64 0)) 2)] false) (.seq (.block 4 (.loop (.seq (.seq (.region 9 [q 44 (.load 24 (t 3)), q 45 (.call 0 (.func 81) [(t 44)]), q 46 (.mov (t 6)), q 47 (.bin .geq 2 (t 45) (t 46))] false) (.cond (t 47) .skip (.exit 4))) (.block 5 (.seq (.region 10 [q 49 (.mov (t 0)), q 50 (.load 24 (t 3)), q 51 (.load 24 (t 8)), q 52 (.call 0 (.func 103) [(t 49), (t 50), (t 51)]), q 48 (.mov (t 52)), q 53 (.extract (t 48) 0), q 54 (.extract (t 48) 1), q 10 (.alloc 24), q 11 (.alloc 24), ⟨none, .store 24 (t 10) (t 53), none, []⟩, ⟨none, .store 24 (t 11) (t 54), none, []⟩] false) (.seq (.seq (.region 11 [q 55 (.load 24 (t 11)), q 56 (.build 24 []), q 57 (.bin .neq 24 (t 55) (t 56))] false) (.cond (t 57) (.exit 4) .skip)) (.seq (.region 12 [q 58 (.load 24 (t 10)), ⟨none, .store 24 (t 3) (t 58), none, []⟩] false) (.region 13 [q 59 (.mov (t 9)), q 60 (.bin .add 2 (t 59) (.const (.int .i64 1))), q 9 (.asg 0 (t 60) 2)] false)))))))) (.seq (.region 14 [q 61 (.mov (t 9)), q 62 (.bin .gtr 2 (t 61) (.const (.int .i64 0)))] false) (.cond (t 62) (.region 15 [q 63 (.mov (t 5)), q 64 (.load 24 (t 8)), q 65 (.mov (t 9)), q 66 (.build 74 [(0, (t 64)), (1, (t 65))]), q 67 (.bslice 0 29 1 [(0, (t 66))]), q 68 (.blt 0 .append [(t 63), (t 67)] [29, 29]), q 5 (.asg 2 (t 68) 29)] false) .skip))))) (.region 7 [q 39 (.mov (t 7)), q 40 (.bin .add 2 (t 39) (.const (.int .i64 1))), q 7 (.asg 0 (t 40) 2)] false))))))) (.region 4 [q 21 (.mov (t 6)), q 22 (.bin .add 2 (t 21) (.const (.int .i64 1))), q 6 (.asg 0 (t 22) 2)] false)))))) (.seq (.seq (.region 16 [q 69 (.load 24 (t 3)), q 70 (.call 0 (.func 81) [(t 69)]), q 12 (.asg 0 (t 70) 2)] false) (.seq (.region 17 [q 71 (.mov (t 12)), q 72 (.bin .gtr 2 (t 71) (.const (.int .i64 0)))] false) (.cond (t 72) (.seq (.region 18 [q 73 (.mov (t 0)), q 74 (.build 24 []), q 75 (.load 24 (t 3)), q 76 (.mov (t 0)), q 77 (.mov (t 12)), ⟨some 78, .indexAddr 24 (t 3) (t 77), none, [4]⟩, ⟨some 79, .load 5 (t 78), none, [5]⟩, ⟨some 80, .call 0 (.func 104) [(t 76), (t 79)], none, [3, 6]⟩, ⟨some 81, .conv 5 2 (t 80), none, [7]⟩, ⟨some 82, .call 0 (.func 99) [(t 73), (t 74), (t 75), (t 81)], none, [0, 1, 2, 8, 7]⟩, q 13 (.alloc 24), ⟨none, .store 24 (t 13) (t 82), none, [10, 9, 9, 0, 1, 2, 3, 4, 5, 6, 7, 8, 9, 10]⟩] true) (.seq (.region 19 [q 83 (.mov (t 5)), q 84 (.blt 0 .len [(t 83)] [29]), q 85 (.bin .sub 3 (t 84) (.const (.int .i64 1))), q 14 (.asg 0 (t 85) 3)] false) (.seq (.region 20 [q 86 (.mov (t 14)), ⟨some 87, .bin .geq 3 (t 86) (.const (.int .i64 0)), none, [0]⟩, ⟨some 88, .mov (t 87), none, [1]⟩, ⟨some 89, .mov (t 5), some (88, true), [2]⟩, ⟨some 90, .mov (t 14), some (88, true), [2]⟩, ⟨some 91, .indexAddr 29 (t 89) (t 90), some (88, true), [3, 4, 2]⟩, ⟨some 92, .fieldAddr 74 (t 91) 0, some (88, true), [5, 2]⟩, ⟨some 93, .load 24 (t 92), some (88, true), [6, 2]⟩, ⟨some 94, .load 24 (t 13), some (88, true), [2]⟩, ⟨some 95, .bin .eql 24 (t 93) (t 94), some (88, true), [7, 8, 2]⟩, ⟨some 96, .pick (t 88) (t 95) (.const (.bool false)), none, [2, 9]⟩] true) (.cond (t 96) (.region 21 [q 97 (.mov (t 5)), q 98 (.mov (t 14)), q 99 (.mov (t 5)), q 100 (.mov (t 14)), q 101 (.indexAddr 29 (t 99) (t 100)), q 102 (.fieldAddr 74 (t 101) 1), q 103 (.load 2 (t 102)), q 104 (.bin .add 2 (t 103) (.const (.int .i64 1))), q 105 (.indexAddr 29 (t 97) (t 98)), q 106 (.fieldAddr 74 (t 105) 1), ⟨none, .store 2 (t 106) (t 104), none, []⟩] false) (.region 22 [q 107 (.mov (t 5)), q 108 (.load 24 (t 13)), q 109 (.build 74 [(0, (t 108)), (1, (.const (.int .i64 1)))]), q 110 (.bslice 0 29 1 [(0, (t 109))]), q 111 (.blt 0 .append [(t 107), (t 110)] [29, 29]), q 5 (.asg 2 (t 111) 29)] false))))) .skip))) (.seq (.region 23 [q 112 (.mov (t 5)), q 4 (.asg 1 (t 112) 29)] false) .ret)))))
def spec_l02Split_L : Live := [(0, [0, 1]), (1, [0, 3]), (2, [0, 3, 5]), (3, [0, 3, 5, 6]), (4, [0, 3, 5, 6]), (5, [0, 3, 5, 6]), (6, [0, 3, 5, 6, 7]), (7, [0, 3, 5, 6, 7]), (8, [0, 3, 5, 6, 7]), (9, [0, 3, 5, 6, 7, 8, 9]), (10, [0, 3, 5, 6, 7, 8, 9]), (11, [0, 3, 5, 6, 7, 8, 9, 10, 11]), (12, [0, 3, 5, 6, 7, 8, 9, 10]), (13, [0, 3, 5, 6, 7, 8, 9]), (14, [0, 3, 5, 6, 7, 8, 9]), (15, [0, 3, 5, 6, 7, 8, 9]), (16, [0, 3, 5]), (17, [0, 3, 5, 12]), (18, [0, 3, 5, 12]), (19, [5, 13]), (20, [5, 13, 14]), (21, [5, 14]), (22, [5, 13]), (23, [5]), (100020, [0, 3, 5, 6, 20]), (100038, [0, 3, 5, 6, 7, 38]), (100047, [0, 3, 5, 6, 7, 8, 9, 47]), (100057, [0, 3, 5, 6, 7, 8, 9, 10, 57]), (100062, [0, 3, 5, 6, 7, 8, 9, 62]), (100072, [0, 3, 5, 12, 72]), (100096, [5, 13, 14, 96])]
noncomputable def spec_l02Split_l3 (x5785 : Int) (a0 : Int) (r8569 : (Vec Int 64)) (x8639 : Int) (x8640 : (Vec Int 64)) : Option ((Int × (Vec Int 64)) ⊕ (Int × (Vec Int 64))) :=
  (Option.bind (spec_l01Deg x8640) fun r8659 => (if (decide (r8659 ≥ x5785)) then (Option.bind (spec_l01Divide a0 x8640 r8569) fun r8664 => (if (!decide (r8664.2 = ((vrep 64 (0 : Int))))) then (some (.inr (x8639, x8640))) else (some (.inl ((IntKind.i64.wrap (x8639 + 1), r8664.1)))))) else (some (.inr (x8639, x8640)))))
noncomputable def spec_l02Split_l2 (a0 : Int) (x5785 : Int) (x8198 : Int) (x8199 : (Vec Int 64)) (x8200 : (List ((Vec Int 64) × Int))) : Option ((Int × (Vec Int 64) × (List ((Vec Int 64) × Int))) ⊕ ((Vec Int 64) × (List ((Vec Int 64) × Int)))) :=
  (Option.bind (α := Bool) ((Option.bind (spec_l01Count a0 x5785) fun r8450 => (if (decide (x8198 < (IntKind.i64.wrap (2 * r8450)))) then (Option.bind (spec_l01Deg x8199) fun r8454 => (some ((decide ((IntKind.i64.wrap (2 * x5785)) ≤ r8454))))) else (some false)))) fun x8446 => (if x8446 then (Option.bind (α := ((Vec Int 64) × (List ((Vec Int 64) × Int)))) ((Option.bind (spec_l01Of a0 x8198) fun r8569 => (Option.bind (α := (Int × (Vec Int 64))) ((loopM (fun s : (Int × (Vec Int 64)) => spec_l02Split_l3 x5785 a0 r8569 s.1 s.2) (0, x8199))) fun ⟨x8620, x8621⟩ => (if (decide (x8620 > 0)) then (ifp ((x8200.length + ([(r8569, x8620)] : List ((Vec Int 64) × Int)).length) * 72 ≤ 140737488355328) ((some ((x8621, (x8200 ++ ([(r8569, x8620)]))))))) else (some (x8621, x8200)))))) fun ⟨x8564, x8565⟩ => (some (.inl ((IntKind.i64.wrap (x8198 + 1), x8564, x8565))))) else (some (.inr (x8199, x8200)))))
noncomputable def spec_l02Split_l1 (a0 : Int) (x5785 : Int) (x5786 : (Vec Int 64)) (x5787 : (List ((Vec Int 64) × Int))) : Option ((Int × (Vec Int 64) × (List ((Vec Int 64) × Int))) ⊕ ((Vec Int 64) × (List ((Vec Int 64) × Int)))) :=
  (Option.bind (spec_l01Deg x5786) fun r7235 => (if (decide ((IntKind.i64.wrap (2 * x5785)) ≤ r7235)) then (Option.bind (α := ((Vec Int 64) × (List ((Vec Int 64) × Int)))) ((Option.bind (spec_l01Count a0 x5785) fun r7960 => (loopM (fun s : (Int × (Vec Int 64) × (List ((Vec Int 64) × Int))) => spec_l02Split_l2 a0 x5785 s.1 s.2.1 s.2.2) (r7960, x5786, x5787)))) fun ⟨x7955, x7956⟩ => (some (.inl ((IntKind.i64.wrap (x5785 + 1), x7955, x7956))))) else (some (.inr (x5786, x5787)))))
noncomputable def spec_l02Split (a0 : Int) (a1 : (Vec Int 64)) : Option (List ((Vec Int 64) × Int)) :=
  (Option.bind (α := ((Vec Int 64) × (List ((Vec Int 64) × Int)))) ((loopM (fun s : (Int × (Vec Int 64) × (List ((Vec Int 64) × Int))) => spec_l02Split_l1 a0 s.1 s.2.1 s.2.2) (1, a1, []))) fun ⟨x4337, x4338⟩ => (Option.bind (α := (List ((Vec Int 64) × Int))) ((Option.bind (spec_l01Deg x4337) fun r8740 => (if (decide (r8740 > 0)) then (ifp (0 ≤ r8740 ∧ r8740 < ((64 : Nat) : Int)) ((Option.bind (spec_l01Inverse a0 (rd x4337.1 r8740.toNat)) fun r8754 => (Option.bind (spec_l01Add a0 ((vrep 64 (0 : Int))) x4337 (IntKind.i64.wrap r8754)) fun r8756 => (Option.bind (α := Bool) ((if (decide ((IntKind.i64.wrap ((x4338.length : Int) - 1)) ≥ 0)) then (ifp (0 ≤ IntKind.i64.wrap ((x4338.length : Int) - 1) ∧ IntKind.i64.wrap ((x4338.length : Int) - 1) < ((x4338.length : Nat) : Int)) ((letp (((rd x4338 (IntKind.i64.wrap ((x4338.length : Int) - 1)).toNat)).1) fun x8784 => (some ((decide (x8784 = r8756))))))) else (some false))) fun x8771 => (if x8771 then (ifp (0 ≤ IntKind.i64.wrap ((x4338.length : Int) - 1) ∧ IntKind.i64.wrap ((x4338.length : Int) - 1) < ((x4338.length : Nat) : Int)) ((letp (((rd x4338 (IntKind.i64.wrap ((x4338.length : Int) - 1)).toNat)).2) fun x8792 => (ifp (0 ≤ IntKind.i64.wrap ((x4338.length : Int) - 1) ∧ IntKind.i64.wrap ((x4338.length : Int) - 1) < ((x4338.length : Nat) : Int)) ((some ((x4338.set (IntKind.i64.wrap ((x4338.length : Int) - 1)).toNat ((((rd x4338 (IntKind.i64.wrap ((x4338.length : Int) - 1)).toNat)).1, IntKind.i64.wrap (x8792 + 1))))))))))) else (ifp ((x4338.length + ([(r8756, 1)] : List ((Vec Int 64) × Int)).length) * 72 ≤ 140737488355328) ((some ((x4338 ++ ([(r8756, 1)])))))))))))) else (some x4338)))) fun x8735 => (some x8735)))
theorem spec_l02Split_ok (a0 : Int) (a1 : (Vec Int 64)) (r : (List ((Vec Int 64) × Int))) (h : spec_l02Split a0 a1 = some r) : Den Try.prog 53 [(i6 a0), (eA64u8 a1)] { r := (eST_A64u8_i64_Z r) } := by
  refine den_of (rs := [(eST_A64u8_i64_Z r)]) (ac := spec_l02Split_c) (L := spec_l02Split_L) (n := 113) (m := [(4, 1), (5, 2), (15, 2)]) (c := Try.f53.body.getD .skip) good Try.func53 (by kernel_rfl) (by kernel_rfl) Try.ntmps53 rfl rfl (by kernel_rfl) rfl rfl ?_
  refine a_st (σ' := ⟨[(0, (i6 a0)), (1, (eA64u8 a1))], []⟩) (by kernel_rfl) ?_
  unfold spec_l02Split_c
  refine sr (vo 1300 (eA64u8 a1) rfl rfl (vp (eST_A64u8_i64_Z ([])) rfl (nx ⟨[(0, (i6 a0)), (3, (ow 3))], [(3, (bk (eA64u8 a1)))]⟩ (by kernel_rfl) (sr (vu (.osl 2500) [(2500, (bk (.row 65 (([]).map eT_A64u8_i64_Z))))] rfl ⟨(Nat.le_of_ble_eq_true rfl), (Nat.le_of_ble_eq_true rfl), all_nil⟩ rfl (vp (.osl 2500) rfl (nx ⟨[(0, (i6 a0)), (3, (ow 3)), (5, (.osl 5))], [(3, (bk (eA64u8 a1))), (5, (bk (.row 65 (([]).map eT_A64u8_i64_Z))))]⟩ (by kernel_rfl) ?_)))))))
  obtain ⟨y4339, hy4340, hk4341⟩ := bind_some h
  clear h
  refine a_join (emb := fun (s : ((Vec Int 64) × (List ((Vec Int 64) × Int)))) => ⟨[(0, (i6 a0)), (3, (ow 3)), (5, (.osl 5))], [(3, (bk (eA64u8 s.1))), (5, (bk (.row 65 (s.2.map eT_A64u8_i64_Z))))]⟩) (pre := fun s => s = y4339) ?_ ?_
  · rintro ⟨x4337, x4338⟩ rfl
    have h := hk4341
    refine a_st (σ' := ⟨[(0, (i6 a0)), (3, (ow 3)), (5, (.osl 5))], [(3, (bk (eA64u8 x4337))), (5, (bk (.row 65 (x4338.map eT_A64u8_i64_Z))))]⟩) (by kernel_rfl) ?_
    obtain ⟨y8736, hy8737, hk8738⟩ := bind_some h
    clear h
    refine a_join (emb := fun (s : (List ((Vec Int 64) × Int))) => ⟨[(5, (.osl 5))], [(5, (bk (.row 65 (s.map eT_A64u8_i64_Z))))]⟩) (pre := fun s => s = y8736) ?_ ?_
    · rintro x8735 rfl
      have h := hk8738
      refine a_st (σ' := ⟨[(5, (.osl 5))], [(5, (bk (.row 65 (x8735.map eT_A64u8_i64_Z))))]⟩) (by kernel_rfl) (sr (vp (.osl 5) rfl (vu (eST_A64u8_i64_Z x8735) [(5, (bf (.row 65 (x8735.map eT_A64u8_i64_Z))))] rfl trivial rfl (nx _ rfl (a_ret ?_)))))
      refine ⟨.inr rfl, ?_⟩
      rw [Try.results53]
      cases h
      exact ⟨_, _, _, _, _, rfl, trivial, .inl ⟨rfl, .inl rfl⟩, rfl, rfl⟩
    · have h := hy8737
      refine sr (vl (eA64u8 x4337) rfl rfl rfl rfl rfl rfl ?_)
      obtain ⟨r8740, hr8741, h⟩ := bind_some h
      refine a_call (args := [(eA64u8 x4337)]) (u := []) (r := (i6 r8740)) rfl rfl (spec_l01Deg_ok x4337 r8740 hr8741) rfl (vp (i6 r8740) rfl (nx ⟨[(0, (i6 a0)), (3, (ow 3)), (5, (.osl 5)), (12, (i6 r8740))], [(3, (bk (eA64u8 x4337))), (5, (bk (.row 65 (x4338.map eT_A64u8_i64_Z))))]⟩ (by kernel_rfl) (sr (vp (i6 r8740) rfl (vp (.bool ((decide (r8740 > 0)))) rfl (nx ⟨[(0, (i6 a0)), (3, (ow 3)), (5, (.osl 5)), (12, (i6 r8740)), (72, (.bool ((decide (r8740 > 0)))))], [(3, (bk (eA64u8 x4337))), (5, (bk (.row 65 (x4338.map eT_A64u8_i64_Z))))]⟩ (by kernel_rfl) ?_))))))
      cases hb8742 : (decide (r8740 > 0))
      · have h := ite_f hb8742 h
        refine a_cond_f rfl (a_skip ?_)
        exact j_leaf x4338 (Option.some.inj h) (by kernel_rfl)
      · have h := ite_t hb8742 h
        refine a_cond_t rfl (a_seq (a_draw [⟨[], [], [], []⟩, ⟨[], [], [], []⟩, ⟨[3], [], [], []⟩, ⟨[], [], [], []⟩, ⟨[], [], [], []⟩, ⟨[3], [], [3], [4]⟩, ⟨[3], [], [], [4, 5]⟩, ⟨[], [], [], [3, 4, 5, 6]⟩, ⟨[], [], [], [3, 4, 5, 6, 7]⟩, ⟨[], [], [], [0, 1, 2, 3, 4, 5, 6, 7, 8]⟩, ⟨[2300], [2300], [2300], []⟩, ⟨[2300], [2300], [], [0, 1, 2, 3, 4, 5, 6, 7, 8, 9, 10]⟩] (by kernel_rfl) (dp (i6 a0) rfl (by kernel_rfl) (d_cons (vq (eA64u8 ((vrep 64 (0 : Int)))) rfl ⟨⟨_, rfl, rfl⟩, all_nil⟩ (d_next (by kernel_rfl) (d_cons (vl (eA64u8 x4337) rfl rfl rfl rfl rfl rfl (d_next (by kernel_rfl) ?_)))))))))
        refine dp (i6 a0) rfl (by kernel_rfl) (dp (i6 r8740) rfl (by kernel_rfl) (d_cons ?_))
        obtain ⟨hc8752, h⟩ := ifp_some h
        refine vq (.own 3 [r8740.toNat] [r8740.toNat * 1]) rfl hc8752 (d_next (by kernel_rfl) (d_cons ?_))
        have hl8753 : LdOk [r8740.toNat] (eA64u8 x4337) [r8740.toNat * 1] 1 false (b8 (rd x4337.1 r8740.toNat)) := (.arr (vlt x4337 hc8752) rfl (.nil rfl rfl rfl))
        refine vq (b8 (rd x4337.1 r8740.toNat)) (ld_own (i := ⟨.int .u8, 1, 1, (.int .u8 0)⟩) rfl rfl rfl hl8753) hl8753.c (d_next (by kernel_rfl) (d_cons ?_))
        obtain ⟨r8754, hr8755, h⟩ := bind_some h
        refine a_call (args := [(i6 a0), (b8 (rd x4337.1 r8740.toNat))]) (u := []) (r := (b8 r8754)) rfl rfl (spec_l01Inverse_ok a0 (rd x4337.1 r8740.toNat) r8754 hr8755) rfl (d_next (by kernel_rfl) (dp (i6 (IntKind.i64.wrap r8754)) rfl (by kernel_rfl) (d_cons ?_)))
        obtain ⟨r8756, hr8757, h⟩ := bind_some h
        refine a_call (args := [(i6 a0), (eA64u8 ((vrep 64 (0 : Int)))), (eA64u8 x4337), (i6 (IntKind.i64.wrap r8754))]) (u := []) (r := (eA64u8 r8756)) rfl rfl (spec_l01Add_ok a0 ((vrep 64 (0 : Int))) x4337 (IntKind.i64.wrap r8754) r8756 hr8757) rfl (d_next (by kernel_rfl) (d_cons (vo 2300 (eA64u8 ((vrep 64 (0 : Int)))) rfl rfl (d_next (by kernel_rfl) (d_cons (vs (eA64u8 r8756) rfl rfl (fun _ => rfl) rfl rfl rfl rfl rfl rfl (d_next (by kernel_rfl) (d_nil (a_next (σ' := ⟨[(5, (.osl 5)), (13, (ow 13))], [(5, (bk (.row 65 (x4338.map eT_A64u8_i64_Z)))), (13, (bk (eA64u8 r8756)))]⟩) (by kernel_rfl) ?_)))))))))
        refine sr (vp (.osl 5) rfl (vq (i6 (x4338.length : Int)) (leno_run rfl rfl rfl) trivial (vp (i6 (IntKind.i64.wrap ((x4338.length : Int) - 1))) rfl (vp (i6 (IntKind.i64.wrap ((x4338.length : Int) - 1))) rfl (nx ⟨[(5, (.osl 5)), (13, (ow 13)), (14, (i6 (IntKind.i64.wrap ((x4338.length : Int) - 1))))], [(5, (bk (.row 65 (x4338.map eT_A64u8_i64_Z)))), (13, (bk (eA64u8 r8756)))]⟩ (by kernel_rfl) ?_)))))
        obtain ⟨y8772, hy8773, hk8774⟩ := bind_some h
        clear h
        refine a_join (emb := fun (s : Bool) => ⟨[(5, (.osl 5)), (13, (ow 13)), (14, (i6 (IntKind.i64.wrap ((x4338.length : Int) - 1)))), (96, (.bool s))], [(5, (bk (.row 65 (x4338.map eT_A64u8_i64_Z)))), (13, (bk (eA64u8 r8756)))]⟩) (pre := fun s => s = y8772) ?_ ?_
        · rintro x8771 rfl
          have h := hk8774
          refine a_st (σ' := ⟨[(5, (.osl 5)), (13, (ow 13)), (14, (i6 (IntKind.i64.wrap ((x4338.length : Int) - 1)))), (96, (.bool x8771))], [(5, (bk (.row 65 (x4338.map eT_A64u8_i64_Z)))), (13, (bk (eA64u8 r8756)))]⟩) (by kernel_rfl) ?_
          cases hb8787 : x8771
          · have h := ite_f hb8787 h
            refine a_cond_f rfl (a_region (vp (.osl 5) rfl (vl (eA64u8 r8756) rfl rfl rfl rfl rfl rfl (vq (eT_A64u8_i64_Z (r8756, 1)) rfl ⟨rfl, (all_cons ⟨(Nat.le_of_ble_eq_true rfl), rfl⟩ (all_cons ⟨(Nat.le_of_ble_eq_true rfl), rfl⟩ all_nil))⟩ (vq (.sl 65 true (([(r8756, 1)]).map eT_A64u8_i64_Z)) rfl ⟨(Nat.le_of_ble_eq_true rfl), (Nat.le_of_ble_eq_true rfl), (all_cons ⟨(Nat.le_of_ble_eq_true rfl), rfl⟩ all_nil)⟩ ?_)))))
            obtain ⟨hc8789, h⟩ := ifp_some h
            refine vu (.osl 12100) [(12100, (bk (.row 65 (((x4338 ++ ([(r8756, 1)]))).map eT_A64u8_i64_Z)))), (5, none)] (app_run (i := ⟨.struct [(0, 24), (64, 2)], 65, 72, (eT_A64u8_i64_Z ((vrep 64 (0 : Int)), (0 : Int)))⟩) (f := eT_A64u8_i64_Z) (l := x4338) (l2 := [(r8756, 1)]) rfl rfl rfl rfl (fun _ => rfl) rfl rfl) (app_c (f := eT_A64u8_i64_Z) (s := 65) (sz := 65) (by' := 72) (u := []) (id := 5) hc8789 (.inr rfl) rfl rfl rfl) rfl (vp (.osl 12100) rfl (a_nil ?_))
            exact j_leaf ((x4338 ++ ([(r8756, 1)]))) (Option.some.inj h) (by kernel_rfl)
          · have h := ite_t hb8787 h
            refine a_cond_t rfl (a_region (vp (.osl 5) rfl (vp (i6 (IntKind.i64.wrap ((x4338.length : Int) - 1))) rfl (vp (.osl 5) rfl (vp (i6 (IntKind.i64.wrap ((x4338.length : Int) - 1))) rfl ?_)))))
            obtain ⟨hc8790, h⟩ := ifp_some h
            refine vq (.own 5 [(IntKind.i64.wrap ((x4338.length : Int) - 1)).toNat] [(IntKind.i64.wrap ((x4338.length : Int) - 1)).toNat * 65]) rfl (lmap hc8790) (vb (.own 5 [(IntKind.i64.wrap ((x4338.length : Int) - 1)).toNat, 1] [(IntKind.i64.wrap ((x4338.length : Int) - 1)).toNat * 65, 64]) rfl rfl ?_)
            have hl8791 : LdOk [(IntKind.i64.wrap ((x4338.length : Int) - 1)).toNat, 1] (.row 65 (x4338.map eT_A64u8_i64_Z)) [(IntKind.i64.wrap ((x4338.length : Int) - 1)).toNat * 65, 64] 1 false (i6 (((rd x4338 (IntKind.i64.wrap ((x4338.length : Int) - 1)).toNat)).2)) := (.row (llt hc8790) rfl (.fld rfl rfl rfl rfl (.nil rfl rfl rfl)))
            obtain ⟨x8792, hx8793, h⟩ := letp_some h
            refine a_val' (v := (i6 (((rd x4338 (IntKind.i64.wrap ((x4338.length : Int) - 1)).toNat)).2))) (v' := (i6 x8792)) (u := []) (u' := []) (ld_own (i := ⟨.int .i64, 1, 8, (.int .i64 0)⟩) rfl rfl rfl hl8791) (congrArg (fun z => ((i6 z) : AV)) hx8793) rfl hl8791.c rfl (vp (i6 (IntKind.i64.wrap (x8792 + 1))) rfl ?_)
            obtain ⟨hc8794, h⟩ := ifp_some h
            refine vq (.own 5 [(IntKind.i64.wrap ((x4338.length : Int) - 1)).toNat] [(IntKind.i64.wrap ((x4338.length : Int) - 1)).toNat * 65]) rfl (lmap hc8794) (vb (.own 5 [(IntKind.i64.wrap ((x4338.length : Int) - 1)).toNat, 1] [(IntKind.i64.wrap ((x4338.length : Int) - 1)).toNat * 65, 64]) rfl rfl ?_)
            have hs8795 : StOk [(IntKind.i64.wrap ((x4338.length : Int) - 1)).toNat, 1] (.row 65 (x4338.map eT_A64u8_i64_Z)) [(IntKind.i64.wrap ((x4338.length : Int) - 1)).toNat * 65, 64] 1 (i6 (IntKind.i64.wrap (x8792 + 1))) (.row 65 (((x4338.set (IntKind.i64.wrap ((x4338.length : Int) - 1)).toNat ((((rd x4338 (IntKind.i64.wrap ((x4338.length : Int) - 1)).toNat)).1, IntKind.i64.wrap (x8792 + 1))))).map eT_A64u8_i64_Z)) := (.row (y := (((rd x4338 (IntKind.i64.wrap ((x4338.length : Int) - 1)).toNat)).1, IntKind.i64.wrap (x8792 + 1))) (llt hc8794) rfl (.fld rfl rfl rfl rfl (.nil rfl rfl rfl rfl)))
            refine vu .top [(5, (bk (.row 65 (((x4338.set (IntKind.i64.wrap ((x4338.length : Int) - 1)).toNat ((((rd x4338 (IntKind.i64.wrap ((x4338.length : Int) - 1)).toNat)).1, IntKind.i64.wrap (x8792 + 1))))).map eT_A64u8_i64_Z))))] (st_own (i := ⟨.int .i64, 1, 8, (.int .i64 0)⟩) rfl rfl (fun _ => rfl) rfl hs8795) (hs8795.c rfl) rfl (a_nil ?_)
            exact j_leaf ((x4338.set (IntKind.i64.wrap ((x4338.length : Int) - 1)).toNat ((((rd x4338 (IntKind.i64.wrap ((x4338.length : Int) - 1)).toNat)).1, IntKind.i64.wrap (x8792 + 1))))) (Option.some.inj h) (by kernel_rfl)
        · have h := hy8773
          refine a_draw [⟨[], [], [], []⟩, ⟨[], [], [], [0]⟩, ⟨[], [], [], [0, 1]⟩, ⟨[], [], [5], [0, 1, 2]⟩, ⟨[], [], [], [0, 1, 2]⟩, ⟨[5], [], [5], [0, 1, 2, 3, 4]⟩, ⟨[5], [], [5], [0, 1, 2, 3, 4, 5]⟩, ⟨[5], [], [], [0, 1, 2, 3, 4, 5, 6]⟩, ⟨[13], [], [], [0, 1, 2]⟩, ⟨[], [], [], [0, 1, 2, 3, 4, 5, 6, 7, 8]⟩, ⟨[], [], [], [0, 1, 2, 3, 4, 5, 6, 7, 8, 9]⟩] (by kernel_rfl) (dp (i6 (IntKind.i64.wrap ((x4338.length : Int) - 1))) rfl (by kernel_rfl) (dp (.bool ((decide ((IntKind.i64.wrap ((x4338.length : Int) - 1)) ≥ 0)))) rfl (by kernel_rfl) (dp (.bool ((decide ((IntKind.i64.wrap ((x4338.length : Int) - 1)) ≥ 0)))) rfl (by kernel_rfl) ?_)))
          cases hb8781 : (decide ((IntKind.i64.wrap ((x4338.length : Int) - 1)) ≥ 0))
          · have h := ite_f hb8781 h
            refine dk rfl (by kernel_rfl) (dk rfl (by kernel_rfl) (dk rfl (by kernel_rfl) (dk rfl (by kernel_rfl) (dk rfl (by kernel_rfl) (dk rfl (by kernel_rfl) (dk rfl (by kernel_rfl) (dp (.bool false) rfl (by kernel_rfl) (d_nil ?_))))))))
            exact j_leaf false (Option.some.inj h) (by kernel_rfl)
          · have h := ite_t hb8781 h
            refine dg (.osl 5) rfl rfl (by kernel_rfl) (dg (i6 (IntKind.i64.wrap ((x4338.length : Int) - 1))) rfl rfl (by kernel_rfl) (d_cons ?_))
            obtain ⟨hc8782, h⟩ := ifp_some h
            refine gq (.own 5 [(IntKind.i64.wrap ((x4338.length : Int) - 1)).toNat] [(IntKind.i64.wrap ((x4338.length : Int) - 1)).toNat * 65]) rfl rfl (lmap hc8782) (d_next (by kernel_rfl) (d_cons (gq (.own 5 [(IntKind.i64.wrap ((x4338.length : Int) - 1)).toNat, 0] [(IntKind.i64.wrap ((x4338.length : Int) - 1)).toNat * 65, 0]) rfl rfl (Nat.le_of_ble_eq_true rfl) (d_next (by kernel_rfl) (d_cons ?_)))))
            have hl8783 : LdOk [(IntKind.i64.wrap ((x4338.length : Int) - 1)).toNat, 0] (.row 65 (x4338.map eT_A64u8_i64_Z)) [(IntKind.i64.wrap ((x4338.length : Int) - 1)).toNat * 65, 0] 64 true (eA64u8 (((rd x4338 (IntKind.i64.wrap ((x4338.length : Int) - 1)).toNat)).1)) := (.row (llt hc8782) rfl (.fld rfl rfl rfl rfl (.nil rfl rfl rfl)))
            obtain ⟨x8784, hx8785, h⟩ := letp_some h
            refine a_gval' rfl (v := (eA64u8 (((rd x4338 (IntKind.i64.wrap ((x4338.length : Int) - 1)).toNat)).1))) (v' := (eA64u8 x8784)) (u := []) (u' := []) (ld_own (i := ⟨.arr 64 5, 64, 64, (eA64u8 (vrep 64 (0 : Int)))⟩) rfl rfl rfl hl8783) (congrArg (fun z => ((eA64u8 z) : AV)) hx8785) rfl hl8783.c rfl (d_next (by kernel_rfl) (d_cons ?_))
            have hl8786 : LdOk [] (eA64u8 r8756) [] 64 true (eA64u8 r8756) := (.nil rfl rfl rfl)
            refine gq (eA64u8 r8756) rfl (ld_own (i := ⟨.arr 64 5, 64, 64, (eA64u8 (vrep 64 (0 : Int)))⟩) rfl rfl rfl hl8786) hl8786.c (d_next (by kernel_rfl) (d_cons (gq (.bool ((decide (x8784 = r8756)))) rfl (eqa_run (f := (AV.int .u8)) (a := x8784.1) (b := r8756.1) rfl rfl (eqb_vec (fun _ _ => eqb_int _ _) x8784 r8756)) (cmp_arr (g := 8) (f := (AV.int .u8)) (x := x8784) (y := r8756) rfl rfl rfl (fun _ _ => rfl) (fun _ _ => cmp_int rfl)) (d_next (by kernel_rfl) (dp (.bool ((decide (x8784 = r8756)))) rfl (by kernel_rfl) (d_nil ?_))))))
            exact j_leaf ((decide (x8784 = r8756))) (Option.some.inj h) (by kernel_rfl)
  · have h := hy4340
    refine sr (vp (i6 1) rfl (nx ⟨[(0, (i6 a0)), (3, (ow 3)), (5, (.osl 5)), (6, (i6 1))], [(3, (bk (eA64u8 a1))), (5, (bk (.row 65 (([]).map eT_A64u8_i64_Z))))]⟩ (by kernel_rfl) (a_block ?_)))
    refine a_loop (emb := fun (s : (Int × (Vec Int 64) × (List ((Vec Int 64) × Int)))) => ⟨[(0, (i6 a0)), (3, (ow 3)), (5, (.osl 5)), (6, (i6 s.1))], [(3, (bk (eA64u8 s.2.1))), (5, (bk (.row 65 (s.2.2.map eT_A64u8_i64_Z))))]⟩) (body := (fun s : (Int × (Vec Int 64) × (List ((Vec Int 64) × Int))) => spec_l02Split_l1 a0 s.1 s.2.1 s.2.2)) (G := fun q => some q = some y4339) h rfl ?_ (by kernel_rfl)
    rintro X7231 ⟨x5785, x5786, x5787⟩ x7232 h hX7233
    have h : spec_l02Split_l1 a0 x5785 x5786 x5787 = some x7232 := h
    refine a_st (σ' := ⟨[(0, (i6 a0)), (3, (ow 3)), (5, (.osl 5)), (6, (i6 x5785))], [(3, (bk (eA64u8 x5786))), (5, (bk (.row 65 (x5787.map eT_A64u8_i64_Z))))]⟩) (by kernel_rfl) (a_seq (sr (vp (i6 x5785) rfl (vp (i6 (IntKind.i64.wrap (2 * x5785))) rfl (vl (eA64u8 x5786) rfl rfl rfl rfl rfl rfl ?_)))))
    obtain ⟨r7235, hr7236, h⟩ := bind_some h
    refine a_call (args := [(eA64u8 x5786)]) (u := []) (r := (i6 r7235)) rfl rfl (spec_l01Deg_ok x5786 r7235 hr7236) rfl (vp (.bool ((decide ((IntKind.i64.wrap (2 * x5785)) ≤ r7235)))) rfl (nx ⟨[(0, (i6 a0)), (3, (ow 3)), (5, (.osl 5)), (6, (i6 x5785)), (20, (.bool ((decide ((IntKind.i64.wrap (2 * x5785)) ≤ r7235)))))], [(3, (bk (eA64u8 x5786))), (5, (bk (.row 65 (x5787.map eT_A64u8_i64_Z))))]⟩ (by kernel_rfl) ?_))
    cases hb7237 : (decide ((IntKind.i64.wrap (2 * x5785)) ≤ r7235))
    · have h := ite_f hb7237 h
      refine a_cond_f rfl (a_exit (t_exit ?_))
      cases h
      have h := hX7233
      refine t_exit (b_exit ?_)
      exact j_leaf (x5786, x5787) (Option.some.inj h) (by kernel_rfl)
    · have h := ite_t hb7237 h
      refine a_cond_t rfl (a_skip (a_next (σ' := ⟨[(0, (i6 a0)), (3, (ow 3)), (5, (.osl 5)), (6, (i6 x5785))], [(3, (bk (eA64u8 x5786))), (5, (bk (.row 65 (x5787.map eT_A64u8_i64_Z))))]⟩) (by kernel_rfl) ?_))
      obtain ⟨y7957, hy7958, hk7959⟩ := bind_some h
      clear h
      refine a_join (emb := fun (s : ((Vec Int 64) × (List ((Vec Int 64) × Int)))) => ⟨[(0, (i6 a0)), (3, (ow 3)), (5, (.osl 5)), (6, (i6 x5785))], [(3, (bk (eA64u8 s.1))), (5, (bk (.row 65 (s.2.map eT_A64u8_i64_Z))))]⟩) (pre := fun s => s = y7957) ?_ ?_
      · rintro ⟨x7955, x7956⟩ rfl
        have h := hk7959
        refine a_st (σ' := ⟨[(0, (i6 a0)), (3, (ow 3)), (5, (.osl 5)), (6, (i6 x5785))], [(3, (bk (eA64u8 x7955))), (5, (bk (.row 65 (x7956.map eT_A64u8_i64_Z))))]⟩) (by kernel_rfl) (a_region (vp (i6 x5785) rfl (vp (i6 (IntKind.i64.wrap (x5785 + 1))) rfl (vp (i6 (IntKind.i64.wrap (x5785 + 1))) rfl (a_nil ?_)))))
        cases h
        exact a_again (by kernel_rfl) hX7233
      · have h := hy7958
        refine a_block (sr (vp (i6 a0) rfl (vp (i6 x5785) rfl ?_)))
        obtain ⟨r7960, hr7961, h⟩ := bind_some h
        refine a_call (args := [(i6 a0), (i6 x5785)]) (u := []) (r := (i6 r7960)) rfl rfl (spec_l01Count_ok a0 x5785 r7960 hr7961) rfl (vp (i6 r7960) rfl (nx ⟨[(0, (i6 a0)), (3, (ow 3)), (5, (.osl 5)), (6, (i6 x5785)), (7, (i6 r7960))], [(3, (bk (eA64u8 x5786))), (5, (bk (.row 65 (x5787.map eT_A64u8_i64_Z))))]⟩ (by kernel_rfl) (a_block ?_)))
        refine a_loop (emb := fun (s : (Int × (Vec Int 64) × (List ((Vec Int 64) × Int)))) => ⟨[(0, (i6 a0)), (3, (ow 3)), (5, (.osl 5)), (6, (i6 x5785)), (7, (i6 s.1))], [(3, (bk (eA64u8 s.2.1))), (5, (bk (.row 65 (s.2.2.map eT_A64u8_i64_Z))))]⟩) (body := (fun s : (Int × (Vec Int 64) × (List ((Vec Int 64) × Int))) => spec_l02Split_l2 a0 x5785 s.1 s.2.1 s.2.2)) (G := fun q => some q = some y7957) h rfl ?_ (by kernel_rfl)
        rintro X8437 ⟨x8198, x8199, x8200⟩ x8438 h hX8439
        have h : spec_l02Split_l2 a0 x5785 x8198 x8199 x8200 = some x8438 := h
        refine a_st (σ' := ⟨[(0, (i6 a0)), (3, (ow 3)), (5, (.osl 5)), (6, (i6 x5785)), (7, (i6 x8198))], [(3, (bk (eA64u8 x8199))), (5, (bk (.row 65 (x8200.map eT_A64u8_i64_Z))))]⟩) (by kernel_rfl) (a_seq ?_)
        obtain ⟨y8447, hy8448, hk8449⟩ := bind_some h
        clear h
        refine a_join (emb := fun (s : Bool) => ⟨[(0, (i6 a0)), (3, (ow 3)), (5, (.osl 5)), (6, (i6 x5785)), (7, (i6 x8198)), (38, (.bool s))], [(3, (bk (eA64u8 x8199))), (5, (bk (.row 65 (x8200.map eT_A64u8_i64_Z))))]⟩) (pre := fun s => s = y8447) ?_ ?_
        · rintro x8446 rfl
          have h := hk8449
          refine a_st (σ' := ⟨[(0, (i6 a0)), (3, (ow 3)), (5, (.osl 5)), (6, (i6 x5785)), (7, (i6 x8198)), (38, (.bool x8446))], [(3, (bk (eA64u8 x8199))), (5, (bk (.row 65 (x8200.map eT_A64u8_i64_Z))))]⟩) (by kernel_rfl) ?_
          cases hb8456 : x8446
          · have h := ite_f hb8456 h
            refine a_cond_f rfl (a_exit (t_exit ?_))
            cases h
            have h := hX8439
            refine t_exit (b_exit (b_norm ?_))
            exact j_leaf (x8199, x8200) (Option.some.inj h) (by kernel_rfl)
          · have h := ite_t hb8456 h
            refine a_cond_t rfl (a_skip (a_next (σ' := ⟨[(0, (i6 a0)), (3, (ow 3)), (5, (.osl 5)), (6, (i6 x5785)), (7, (i6 x8198))], [(3, (bk (eA64u8 x8199))), (5, (bk (.row 65 (x8200.map eT_A64u8_i64_Z))))]⟩) (by kernel_rfl) ?_))
            obtain ⟨y8566, hy8567, hk8568⟩ := bind_some h
            clear h
            refine a_join (emb := fun (s : ((Vec Int 64) × (List ((Vec Int 64) × Int)))) => ⟨[(0, (i6 a0)), (3, (ow 3)), (5, (.osl 5)), (6, (i6 x5785)), (7, (i6 x8198))], [(3, (bk (eA64u8 s.1))), (5, (bk (.row 65 (s.2.map eT_A64u8_i64_Z))))]⟩) (pre := fun s => s = y8566) ?_ ?_
            · rintro ⟨x8564, x8565⟩ rfl
              have h := hk8568
              refine a_st (σ' := ⟨[(0, (i6 a0)), (3, (ow 3)), (5, (.osl 5)), (6, (i6 x5785)), (7, (i6 x8198))], [(3, (bk (eA64u8 x8564))), (5, (bk (.row 65 (x8565.map eT_A64u8_i64_Z))))]⟩) (by kernel_rfl) (a_region (vp (i6 x8198) rfl (vp (i6 (IntKind.i64.wrap (x8198 + 1))) rfl (vp (i6 (IntKind.i64.wrap (x8198 + 1))) rfl (a_nil ?_)))))
              cases h
              exact a_again (by kernel_rfl) hX8439
            · have h := hy8567
              refine a_block (sr (vp (i6 a0) rfl (vp (i6 x8198) rfl ?_)))
              obtain ⟨r8569, hr8570, h⟩ := bind_some h
              refine a_call (args := [(i6 a0), (i6 x8198)]) (u := []) (r := (eA64u8 r8569)) rfl rfl (spec_l01Of_ok a0 x8198 r8569 hr8570) rfl (vo 1800 (eA64u8 ((vrep 64 (0 : Int)))) rfl rfl (vs (eA64u8 r8569) rfl rfl (fun _ => rfl) rfl rfl rfl rfl rfl rfl (vp (i6 0) rfl (nx ⟨[(0, (i6 a0)), (3, (ow 3)), (5, (.osl 5)), (6, (i6 x5785)), (7, (i6 x8198)), (8, (ow 8)), (9, (i6 0))], [(3, (bk (eA64u8 x8199))), (5, (bk (.row 65 (x8200.map eT_A64u8_i64_Z)))), (8, (bk (eA64u8 r8569)))]⟩ (by kernel_rfl) ?_))))
              obtain ⟨y8622, hy8623, hk8624⟩ := bind_some h
              clear h
              refine a_join (emb := fun (s : (Int × (Vec Int 64))) => ⟨[(0, (i6 a0)), (3, (ow 3)), (5, (.osl 5)), (6, (i6 x5785)), (7, (i6 x8198)), (8, (ow 8)), (9, (i6 s.1))], [(3, (bk (eA64u8 s.2))), (5, (bk (.row 65 (x8200.map eT_A64u8_i64_Z)))), (8, (bk (eA64u8 r8569)))]⟩) (pre := fun s => s = y8622) ?_ ?_
              · rintro ⟨x8620, x8621⟩ rfl
                have h := hk8624
                refine a_st (σ' := ⟨[(0, (i6 a0)), (3, (ow 3)), (5, (.osl 5)), (6, (i6 x5785)), (7, (i6 x8198)), (8, (ow 8)), (9, (i6 x8620))], [(3, (bk (eA64u8 x8621))), (5, (bk (.row 65 (x8200.map eT_A64u8_i64_Z)))), (8, (bk (eA64u8 r8569)))]⟩) (by kernel_rfl) (sr (vp (i6 x8620) rfl (vp (.bool ((decide (x8620 > 0)))) rfl (nx ⟨[(0, (i6 a0)), (3, (ow 3)), (5, (.osl 5)), (6, (i6 x5785)), (7, (i6 x8198)), (8, (ow 8)), (9, (i6 x8620)), (62, (.bool ((decide (x8620 > 0)))))], [(3, (bk (eA64u8 x8621))), (5, (bk (.row 65 (x8200.map eT_A64u8_i64_Z)))), (8, (bk (eA64u8 r8569)))]⟩ (by kernel_rfl) ?_))))
                cases hb8673 : (decide (x8620 > 0))
                · have h := ite_f hb8673 h
                  refine a_cond_f rfl (a_skip (b_norm ?_))
                  exact j_leaf (x8621, x8200) (Option.some.inj h) (by kernel_rfl)
                · have h := ite_t hb8673 h
                  refine a_cond_t rfl (a_region (vp (.osl 5) rfl (vl (eA64u8 r8569) rfl rfl rfl rfl rfl rfl (vp (i6 x8620) rfl (vq (eT_A64u8_i64_Z (r8569, x8620)) rfl ⟨rfl, (all_cons ⟨(Nat.le_of_ble_eq_true rfl), rfl⟩ (all_cons ⟨(Nat.le_of_ble_eq_true rfl), rfl⟩ all_nil))⟩ (vq (.sl 65 true (([(r8569, x8620)]).map eT_A64u8_i64_Z)) rfl ⟨(Nat.le_of_ble_eq_true rfl), (Nat.le_of_ble_eq_true rfl), (all_cons ⟨(Nat.le_of_ble_eq_true rfl), rfl⟩ all_nil)⟩ ?_))))))
                  obtain ⟨hc8675, h⟩ := ifp_some h
                  refine vu (.osl 7800) [(7800, (bk (.row 65 (((x8200 ++ ([(r8569, x8620)]))).map eT_A64u8_i64_Z)))), (5, none)] (app_run (i := ⟨.struct [(0, 24), (64, 2)], 65, 72, (eT_A64u8_i64_Z ((vrep 64 (0 : Int)), (0 : Int)))⟩) (f := eT_A64u8_i64_Z) (l := x8200) (l2 := [(r8569, x8620)]) rfl rfl rfl rfl (fun _ => rfl) rfl rfl) (app_c (f := eT_A64u8_i64_Z) (s := 65) (sz := 65) (by' := 72) (u := []) (id := 5) hc8675 (.inr rfl) rfl rfl rfl) rfl (vp (.osl 7800) rfl (a_nil (b_norm ?_)))
                  exact j_leaf ((x8621, (x8200 ++ ([(r8569, x8620)])))) (Option.some.inj h) (by kernel_rfl)
              · have h := hy8623
                refine a_block ?_
                refine a_loop (emb := fun (s : (Int × (Vec Int 64))) => ⟨[(0, (i6 a0)), (3, (ow 3)), (5, (.osl 5)), (6, (i6 x5785)), (7, (i6 x8198)), (8, (ow 8)), (9, (i6 s.1))], [(3, (bk (eA64u8 s.2))), (5, (bk (.row 65 (x8200.map eT_A64u8_i64_Z)))), (8, (bk (eA64u8 r8569)))]⟩) (body := (fun s : (Int × (Vec Int 64)) => spec_l02Split_l3 x5785 a0 r8569 s.1 s.2)) (G := fun q => some q = some y8622) h rfl ?_ (by kernel_rfl)
                rintro X8655 ⟨x8639, x8640⟩ x8656 h hX8657
                have h : spec_l02Split_l3 x5785 a0 r8569 x8639 x8640 = some x8656 := h
                refine a_st (σ' := ⟨[(0, (i6 a0)), (3, (ow 3)), (5, (.osl 5)), (6, (i6 x5785)), (7, (i6 x8198)), (8, (ow 8)), (9, (i6 x8639))], [(3, (bk (eA64u8 x8640))), (5, (bk (.row 65 (x8200.map eT_A64u8_i64_Z)))), (8, (bk (eA64u8 r8569)))]⟩) (by kernel_rfl) (a_seq (sr (vl (eA64u8 x8640) rfl rfl rfl rfl rfl rfl ?_)))
                obtain ⟨r8659, hr8660, h⟩ := bind_some h
                refine a_call (args := [(eA64u8 x8640)]) (u := []) (r := (i6 r8659)) rfl rfl (spec_l01Deg_ok x8640 r8659 hr8660) rfl (vp (i6 x5785) rfl (vp (.bool ((decide (r8659 ≥ x5785)))) rfl (nx ⟨[(0, (i6 a0)), (3, (ow 3)), (5, (.osl 5)), (6, (i6 x5785)), (7, (i6 x8198)), (8, (ow 8)), (9, (i6 x8639)), (47, (.bool ((decide (r8659 ≥ x5785)))))], [(3, (bk (eA64u8 x8640))), (5, (bk (.row 65 (x8200.map eT_A64u8_i64_Z)))), (8, (bk (eA64u8 r8569)))]⟩ (by kernel_rfl) ?_)))
                cases hb8661 : (decide (r8659 ≥ x5785))
                · have h := ite_f hb8661 h
                  refine a_cond_f rfl (a_exit (t_exit ?_))
                  cases h
                  have h := hX8657
                  refine t_exit (b_exit ?_)
                  exact j_leaf (x8639, x8640) (Option.some.inj h) (by kernel_rfl)
                · have h := ite_t hb8661 h
                  refine a_cond_t rfl (a_skip (a_next (σ' := ⟨[(0, (i6 a0)), (3, (ow 3)), (5, (.osl 5)), (6, (i6 x5785)), (7, (i6 x8198)), (8, (ow 8)), (9, (i6 x8639))], [(3, (bk (eA64u8 x8640))), (5, (bk (.row 65 (x8200.map eT_A64u8_i64_Z)))), (8, (bk (eA64u8 r8569)))]⟩) (by kernel_rfl) (a_block (sr (vp (i6 a0) rfl (vl (eA64u8 x8640) rfl rfl rfl rfl rfl rfl (vl (eA64u8 r8569) rfl rfl rfl rfl rfl rfl ?_)))))))
                  obtain ⟨r8664, hr8665, h⟩ := bind_some h
                  refine a_call (args := [(i6 a0), (eA64u8 x8640), (eA64u8 r8569)]) (u := []) (r := (.tuple [(eA64u8 r8664.1), (eA64u8 r8664.2)])) rfl rfl (spec_l01Divide_ok a0 x8640 r8569 r8664 hr8665) rfl (vp (.tuple [(eA64u8 r8664.1), (eA64u8 r8664.2)]) rfl (vb (eA64u8 r8664.1) rfl rfl (vb (eA64u8 r8664.2) rfl rfl (vo 2000 (eA64u8 ((vrep 64 (0 : Int)))) rfl rfl (vo 2100 (eA64u8 ((vrep 64 (0 : Int)))) rfl rfl (vs (eA64u8 r8664.1) rfl rfl (fun _ => rfl) rfl rfl rfl rfl rfl rfl (vs (eA64u8 r8664.2) rfl rfl (fun _ => rfl) rfl rfl rfl rfl rfl rfl (nx ⟨[(0, (i6 a0)), (3, (ow 3)), (5, (.osl 5)), (6, (i6 x5785)), (7, (i6 x8198)), (8, (ow 8)), (9, (i6 x8639)), (10, (ow 10)), (11, (ow 11))], [(3, (bk (eA64u8 x8640))), (5, (bk (.row 65 (x8200.map eT_A64u8_i64_Z)))), (8, (bk (eA64u8 r8569))), (10, (bk (eA64u8 r8664.1))), (11, (bk (eA64u8 r8664.2)))]⟩ (by kernel_rfl) (a_seq ?_)))))))))
                  refine sr (vl (eA64u8 r8664.2) rfl rfl rfl rfl rfl rfl (vq (eA64u8 ((vrep 64 (0 : Int)))) rfl ⟨⟨_, rfl, rfl⟩, all_nil⟩ (vq (.bool ((!decide (r8664.2 = ((vrep 64 (0 : Int))))))) (nea_run (f := (AV.int .u8)) (a := r8664.2.1) (b := ((vrep 64 (0 : Int))).1) rfl rfl (eqb_vec (fun _ _ => eqb_int _ _) r8664.2 ((vrep 64 (0 : Int))))) (cmp_arr (g := 8) (f := (AV.int .u8)) (x := r8664.2) (y := ((vrep 64 (0 : Int)))) rfl rfl rfl (fun _ _ => rfl) (fun _ _ => cmp_int rfl)) (nx ⟨[(0, (i6 a0)), (3, (ow 3)), (5, (.osl 5)), (6, (i6 x5785)), (7, (i6 x8198)), (8, (ow 8)), (9, (i6 x8639)), (10, (ow 10)), (57, (.bool ((!decide (r8664.2 = ((vrep 64 (0 : Int))))))))], [(3, (bk (eA64u8 x8640))), (5, (bk (.row 65 (x8200.map eT_A64u8_i64_Z)))), (8, (bk (eA64u8 r8569))), (10, (bk (eA64u8 r8664.1)))]⟩ (by kernel_rfl) ?_))))
                  cases hb8669 : (!decide (r8664.2 = ((vrep 64 (0 : Int)))))
                  · have h := ite_f hb8669 h
                    refine a_cond_f rfl (a_skip (a_next (σ' := ⟨[(0, (i6 a0)), (3, (ow 3)), (5, (.osl 5)), (6, (i6 x5785)), (7, (i6 x8198)), (8, (ow 8)), (9, (i6 x8639)), (10, (ow 10))], [(3, (bk (eA64u8 x8640))), (5, (bk (.row 65 (x8200.map eT_A64u8_i64_Z)))), (8, (bk (eA64u8 r8569))), (10, (bk (eA64u8 r8664.1)))]⟩) (by kernel_rfl) (sr (vl (eA64u8 r8664.1) rfl rfl rfl rfl rfl rfl (vs (eA64u8 r8664.1) rfl rfl (fun _ => rfl) rfl rfl rfl rfl rfl rfl (nx ⟨[(0, (i6 a0)), (3, (ow 3)), (5, (.osl 5)), (6, (i6 x5785)), (7, (i6 x8198)), (8, (ow 8)), (9, (i6 x8639))], [(3, (bk (eA64u8 r8664.1))), (5, (bk (.row 65 (x8200.map eT_A64u8_i64_Z)))), (8, (bk (eA64u8 r8569)))]⟩ (by kernel_rfl) (a_region (vp (i6 x8639) rfl (vp (i6 (IntKind.i64.wrap (x8639 + 1))) rfl ?_)))))))))
                    refine vp (i6 (IntKind.i64.wrap (x8639 + 1))) rfl (a_nil (b_norm ?_))
                    cases h
                    exact a_again (by kernel_rfl) hX8657
                  · have h := ite_t hb8669 h
                    refine a_cond_t rfl (a_exit (t_exit (b_other rfl ?_)))
                    cases h
                    have h := hX8657
                    refine t_exit (b_exit ?_)
                    exact j_leaf (x8639, x8640) (Option.some.inj h) (by kernel_rfl)
        · have h := hy8448
          refine a_region (vp (i6 x8198) rfl (vp (i6 a0) rfl (vp (i6 x5785) rfl ?_)))
          obtain ⟨r8450, hr8451, h⟩ := bind_some h
          refine a_call (args := [(i6 a0), (i6 x5785)]) (u := []) (r := (i6 r8450)) rfl rfl (spec_l01Count_ok a0 x5785 r8450 hr8451) rfl (vp (i6 (IntKind.i64.wrap (2 * r8450))) rfl (vp (.bool ((decide (x8198 < (IntKind.i64.wrap (2 * r8450)))))) rfl (vp (.bool ((decide (x8198 < (IntKind.i64.wrap (2 * r8450)))))) rfl ?_)))
          cases hb8452 : (decide (x8198 < (IntKind.i64.wrap (2 * r8450))))
          · have h := ite_f hb8452 h
            refine a_gskip rfl (a_gskip rfl (a_gskip rfl (a_gskip rfl (a_gskip rfl (vp (.bool false) rfl (a_nil ?_))))))
            exact j_leaf false (Option.some.inj h) (by kernel_rfl)
          · have h := ite_t hb8452 h
            refine gp (i6 x5785) rfl rfl (gp (i6 (IntKind.i64.wrap (2 * x5785))) rfl rfl ?_)
            have hl8453 : LdOk [] (eA64u8 x8199) [] 64 true (eA64u8 x8199) := (.nil rfl rfl rfl)
            refine gq (eA64u8 x8199) rfl (ld_own (i := ⟨.arr 64 5, 64, 64, (eA64u8 (vrep 64 (0 : Int)))⟩) rfl rfl rfl hl8453) hl8453.c ?_
            obtain ⟨r8454, hr8455, h⟩ := bind_some h
            refine a_gcall rfl (args := [(eA64u8 x8199)]) (u := []) (r := (i6 r8454)) rfl rfl (spec_l01Deg_ok x8199 r8454 hr8455) rfl (gp (.bool ((decide ((IntKind.i64.wrap (2 * x5785)) ≤ r8454)))) rfl rfl (vp (.bool ((decide ((IntKind.i64.wrap (2 * x5785)) ≤ r8454)))) rfl (a_nil ?_)))
            exact j_leaf ((decide ((IntKind.i64.wrap (2 * x5785)) ≤ r8454))) (Option.some.inj h) (by kernel_rfl)
def spec_FactorsOf_c : ACode := (.seq (.region 0 [q 3 (.box 24 (t 1)), q 4 (.asg 1 (.const (.slice none 0 0)) 29), q 5 (.asg 0 (.const (.int .i64 0)) 2)] false) (.seq (.seq (.region 1 [q 7 (.mov (t 0)), q 8 (.load 24 (t 3)), q 9 (.call 0 (.func 47) [(t 7), (t 8), (.const (.int .i64 0)), (.const (.int .i64 12))]), q 6 (.asg 0 (t 9) 2)] false) (.seq (.region 2 [q 10 (.mov (t 6)), q 11 (.bin .neq 2 (t 10) (.const (.int .i64 0)))] false) (.cond (t 11) (.seq (.region 3 [q 12 (.mov (t 6)), q 4 (.asg 1 (.const (.slice none 0 0)) 29), q 5 (.asg 0 (t 12) 2)] false) .ret) .skip))) (.seq (.region 4 [q 13 (.mov (t 0)), q 14 (.load 24 (t 3)), q 15 (.call 0 (.func 53) [(t 13), (t 14)]), q 4 (.asg 1 (t 15) 29), q 5 (.asg 0 (.const (.int .i64 0)) 2)] false) .ret)))
def spec_FactorsOf_L : Live := [(0, [0, 1]), (1, [0, 3]), (2, [0, 3, 6]), (3, [6]), (4, [0, 3]), (100011, [0, 3, 6, 11])]
noncomputable def spec_FactorsOf (a0 : Int) (a1 : (Vec Int 64)) : Option ((List ((Vec Int 64) × Int)) × Int) :=
  (Option.bind (spec_l02Degree a0 a1 0 12) fun r2 => (if (r2 != 0) then (some ([], r2)) else (Option.bind (spec_l02Split a0 a1) fun r6 => (some (r6, 0)))))
theorem spec_FactorsOf_ok (a0 : Int) (a1 : (Vec Int 64)) (r : ((List ((Vec Int 64) × Int)) × Int)) (h : spec_FactorsOf a0 a1 = some r) : Den Try.prog 19 [(i6 a0), (eA64u8 a1)] { r := (.tuple [(eST_A64u8_i64_Z r.1), (i6 r.2)]) } := by
  refine den_of (rs := [(eST_A64u8_i64_Z r.1), (i6 r.2)]) (ac := spec_FactorsOf_c) (L := spec_FactorsOf_L) (n := 16) (m := [(4, 1)]) (c := Try.f19.body.getD .skip) good Try.func19 (by kernel_rfl) (by kernel_rfl) Try.ntmps19 rfl rfl (by kernel_rfl) rfl rfl ?_
  refine a_st (σ' := ⟨[(0, (i6 a0)), (1, (eA64u8 a1))], []⟩) (by kernel_rfl) ?_
  unfold spec_FactorsOf_c
  refine sr (vo 1300 (eA64u8 a1) rfl rfl (vp (eST_A64u8_i64_Z ([])) rfl (vp (i6 0) rfl (nx ⟨[(0, (i6 a0)), (3, (ow 3))], [(3, (bk (eA64u8 a1)))]⟩ (by kernel_rfl) (a_seq (sr (vp (i6 a0) rfl (vl (eA64u8 a1) rfl rfl rfl rfl rfl rfl ?_))))))))
  obtain ⟨r2, hr3, h⟩ := bind_some h
  refine a_call (args := [(i6 a0), (eA64u8 a1), (i6 0), (i6 12)]) (u := []) (r := (i6 r2)) rfl rfl (spec_l02Degree_ok a0 a1 0 12 r2 hr3) rfl (vp (i6 r2) rfl (nx ⟨[(0, (i6 a0)), (3, (ow 3)), (6, (i6 r2))], [(3, (bk (eA64u8 a1)))]⟩ (by kernel_rfl) (sr (vp (i6 r2) rfl (vp (.bool (r2 != 0)) rfl (nx ⟨[(0, (i6 a0)), (3, (ow 3)), (6, (i6 r2)), (11, (.bool (r2 != 0)))], [(3, (bk (eA64u8 a1)))]⟩ (by kernel_rfl) ?_))))))
  cases hb4 : (r2 != 0)
  · have h := ite_f hb4 h
    refine a_cond_f rfl (a_skip (a_next (σ' := ⟨[(0, (i6 a0)), (3, (ow 3))], [(3, (bk (eA64u8 a1)))]⟩) (by kernel_rfl) (sr (vp (i6 a0) rfl (vl (eA64u8 a1) rfl rfl rfl rfl rfl rfl ?_)))))
    obtain ⟨r6, hr7, h⟩ := bind_some h
    refine a_call (args := [(i6 a0), (eA64u8 a1)]) (u := []) (r := (eST_A64u8_i64_Z r6)) rfl rfl (spec_l02Split_ok a0 a1 r6 hr7) rfl (vp (eST_A64u8_i64_Z r6) rfl (vp (i6 0) rfl (nx _ rfl (a_ret ?_))))
    refine ⟨.inr rfl, ?_⟩
    rw [Try.results19]
    cases h
    exact ⟨_, _, _, _, _, rfl, trivial, .inl ⟨rfl, .inl rfl⟩, rfl, ⟨_, _, _, _, _, rfl, trivial, .inl ⟨rfl, .inl rfl⟩, rfl, rfl⟩⟩
  · have h := ite_t hb4 h
    refine a_cond_t rfl (sr (vp (i6 r2) rfl (vp (eST_A64u8_i64_Z ([])) rfl (vp (i6 r2) rfl (nx _ rfl (a_ret (t_ret ?_)))))))
    refine ⟨.inr rfl, ?_⟩
    rw [Try.results19]
    cases h
    exact ⟨_, _, _, _, _, rfl, trivial, .inl ⟨rfl, .inl rfl⟩, rfl, ⟨_, _, _, _, _, rfl, trivial, .inl ⟨rfl, .inl rfl⟩, rfl, rfl⟩⟩
def impl_isPrime_c : ACode := (.seq (.region 0 [q 2 (.asg 0 (.const (.bool false)) 4)] false) (.seq (.region 1 [q 3 (.mov (t 0)), q 4 (.bin .eql 2 (t 3) (.const (.int .i64 2))), q 5 (.mov (t 4)), ⟨some 6, .mov (t 0), some (5, false), []⟩, ⟨some 7, .bin .eql 2 (t 6) (.const (.int .i64 3)), some (5, false), []⟩, q 8 (.pick (t 5) (.const (.bool true)) (t 7)), q 9 (.mov (t 8)), ⟨some 10, .mov (t 0), some (9, false), []⟩, ⟨some 11, .bin .eql 2 (t 10) (.const (.int .i64 5)), some (9, false), []⟩, q 12 (.pick (t 9) (.const (.bool true)) (t 11)), q 13 (.mov (t 12)), ⟨some 14, .mov (t 0), some (13, false), []⟩, ⟨some 15, .bin .eql 2 (t 14) (.const (.int .i64 7)), some (13, false), []⟩, q 16 (.pick (t 13) (.const (.bool true)) (t 15)), q 2 (.asg 0 (t 16) 4)] false) .ret))
def impl_isPrime_L : Live := [(0, [0]), (1, [0])]
noncomputable def impl_isPrime (a0 : Int) : Option Bool :=
  (if (a0 == 2) then (some true) else (if (a0 == 3) then (some true) else (if (a0 == 5) then (some true) else (some (a0 == 7)))))
theorem impl_isPrime_ok (a0 : Int) (r : Bool) (h : impl_isPrime a0 = some r) : Den Try.prog 64 [(i6 a0)] { r := (.bool r) } := by
  refine den_of (rs := [(.bool r)]) (ac := impl_isPrime_c) (L := impl_isPrime_L) (n := 17) (m := []) (c := Try.f64.body.getD .skip) good Try.func64 (by kernel_rfl) (by kernel_rfl) Try.ntmps64 rfl rfl (by kernel_rfl) rfl rfl ?_
  refine a_st (σ' := ⟨[(0, (i6 a0))], []⟩) (by kernel_rfl) ?_
  unfold impl_isPrime_c
  refine sr (vp (.bool false) rfl (nx ⟨[(0, (i6 a0))], []⟩ (by kernel_rfl) (sr (vp (i6 a0) rfl (vp (.bool (a0 == 2)) rfl (vp (.bool (a0 == 2)) rfl ?_))))))
  cases hb1 : (a0 == 2)
  · have h := ite_f hb1 h
    refine gp (i6 a0) rfl rfl (gp (.bool (a0 == 3)) rfl rfl (vp (.bool (a0 == 3)) rfl (vp (.bool (a0 == 3)) rfl ?_)))
    cases hb2 : (a0 == 3)
    · have h := ite_f hb2 h
      refine gp (i6 a0) rfl rfl (gp (.bool (a0 == 5)) rfl rfl (vp (.bool (a0 == 5)) rfl (vp (.bool (a0 == 5)) rfl ?_)))
      cases hb3 : (a0 == 5)
      · have h := ite_f hb3 h
        refine gp (i6 a0) rfl rfl (gp (.bool (a0 == 7)) rfl rfl (vp (.bool (a0 == 7)) rfl (vp (.bool (a0 == 7)) rfl (nx _ rfl (a_ret ?_)))))
        refine ⟨.inr rfl, ?_⟩
        rw [Try.results64]
        cases h
        exact ⟨_, _, _, _, _, rfl, trivial, .inl ⟨rfl, .inl rfl⟩, rfl, rfl⟩
      · have h := ite_t hb3 h
        refine a_gskip rfl (a_gskip rfl (vp (.bool true) rfl (vp (.bool true) rfl (nx _ rfl (a_ret ?_)))))
        refine ⟨.inr rfl, ?_⟩
        rw [Try.results64]
        cases h
        exact ⟨_, _, _, _, _, rfl, trivial, .inl ⟨rfl, .inl rfl⟩, rfl, rfl⟩
    · have h := ite_t hb2 h
      refine a_gskip rfl (a_gskip rfl (vp (.bool true) rfl (vp (.bool true) rfl (a_gskip rfl (a_gskip rfl (vp (.bool true) rfl (vp (.bool true) rfl (nx _ rfl (a_ret ?_)))))))))
      refine ⟨.inr rfl, ?_⟩
      rw [Try.results64]
      cases h
      exact ⟨_, _, _, _, _, rfl, trivial, .inl ⟨rfl, .inl rfl⟩, rfl, rfl⟩
  · have h := ite_t hb1 h
    refine a_gskip rfl (a_gskip rfl (vp (.bool true) rfl (vp (.bool true) rfl (a_gskip rfl (a_gskip rfl (vp (.bool true) rfl (vp (.bool true) rfl (a_gskip rfl (a_gskip rfl ?_)))))))))
    refine vp (.bool true) rfl (vp (.bool true) rfl (nx _ rfl (a_ret ?_)))
    refine ⟨.inr rfl, ?_⟩
    rw [Try.results64]
    cases h
    exact ⟨_, _, _, _, _, rfl, trivial, .inl ⟨rfl, .inl rfl⟩, rfl, rfl⟩
def impl_isPoly_c1_of_p_c : ACode := (.seq (.region 0 [q 3 (.asg 0 (.const (.bool false)) 4)] false) (.seq (.region 1 [q 4 (.mov (t 0)), q 5 (.conv 5 2 (t 4)), q 6 (.load 2 (t 1)), q 7 (.bin .lss 2 (t 5) (t 6)), q 3 (.asg 0 (t 7) 4)] false) .ret))
def impl_isPoly_c1_of_p_L : Live := [(0, [0, 1]), (1, [0, 1])]
noncomputable def impl_isPoly_c1_of_p (a0 : Int) (a1 : Int) : Option Bool :=
  (some ((decide ((IntKind.i64.wrap a0) < a1))))
theorem impl_isPoly_c1_of_p_ok (a0 : Int) (a1 : Int) (r : Bool) (h : impl_isPoly_c1_of_p a0 a1 = some r) : Den Try.prog 147 [(b8 a0), (.ref (i6 a1) [] [])] { r := (.bool r) } := by
  refine den_of (rs := [(.bool r)]) (ac := impl_isPoly_c1_of_p_c) (L := impl_isPoly_c1_of_p_L) (n := 8) (m := []) (c := Try.f147.body.getD .skip) good Try.func147 (by kernel_rfl) (by kernel_rfl) Try.ntmps147 rfl rfl (by kernel_rfl) rfl rfl ?_
  refine a_st (σ' := ⟨[(0, (b8 a0)), (1, (.ref (i6 a1) [] []))], []⟩) (by kernel_rfl) ?_
  unfold impl_isPoly_c1_of_p_c
  refine sr (vp (.bool false) rfl (nx ⟨[(0, (b8 a0)), (1, (.ref (i6 a1) [] []))], []⟩ (by kernel_rfl) (sr (vp (b8 a0) rfl (vp (i6 (IntKind.i64.wrap a0)) rfl ?_)))))
  have hl1 : LdOk [] (i6 a1) [] 1 false (i6 a1) := (.nil rfl rfl rfl)
  refine vq (i6 a1) (ld_ref (i := ⟨.int .i64, 1, 8, (.int .i64 0)⟩) rfl rfl hl1) hl1.c (vp (.bool ((decide ((IntKind.i64.wrap a0) < a1)))) rfl (vp (.bool ((decide ((IntKind.i64.wrap a0) < a1)))) rfl (nx _ rfl (a_ret ?_))))
  refine ⟨.inr rfl, ?_⟩
  rw [Try.results147]
  cases h
  exact ⟨_, _, _, _, _, rfl, trivial, .inl ⟨rfl, .inl rfl⟩, rfl, rfl⟩
def impl_areAll_byte__c1_of_p_c : ACode := (.seq (.region 0 [q 3 (.asg 0 (.const (.bool false)) 4)] false) (.seq (.region 1 [q 4 (.load 146 (t 1)), q 5 (.mov (t 0)), q 6 (.call 0 (t 4) [(t 5)]), q 7 (.un .not (t 6)), q 3 (.asg 0 (t 7) 4)] false) .ret))
def impl_areAll_byte__c1_of_p_L : Live := [(0, [0, 1]), (1, [0, 1])]
noncomputable def impl_areAll_byte__c1_of_p (a0 : Int) (a1c0 : Int) : Option Bool :=
  (Option.bind (impl_isPoly_c1_of_p a0 a1c0) fun r2 => (some (!r2)))
theorem impl_areAll_byte__c1_of_p_ok (a0 : Int) (a1c0 : Int) (r : Bool) (h : impl_areAll_byte__c1_of_p a0 a1c0 = some r) : Den Try.prog 167 [(b8 a0), (.ref (.clo 147 [] [(.ref (i6 a1c0) [] [])]) [] [])] { r := (.bool r) } := by
  refine den_of (rs := [(.bool r)]) (ac := impl_areAll_byte__c1_of_p_c) (L := impl_areAll_byte__c1_of_p_L) (n := 8) (m := []) (c := Try.f167.body.getD .skip) good Try.func167 (by kernel_rfl) (by kernel_rfl) Try.ntmps167 rfl rfl (by kernel_rfl) rfl rfl ?_
  refine a_st (σ' := ⟨[(0, (b8 a0)), (1, (.ref (.clo 147 [] [(.ref (i6 a1c0) [] [])]) [] []))], []⟩) (by kernel_rfl) ?_
  unfold impl_areAll_byte__c1_of_p_c
  refine sr (vp (.bool false) rfl (nx ⟨[(0, (b8 a0)), (1, (.ref (.clo 147 [] [(.ref (i6 a1c0) [] [])]) [] []))], []⟩ (by kernel_rfl) (sr ?_)))
  have hl1 : LdOk [] (.clo 147 [] [(.ref (i6 a1c0) [] [])]) [] 1 false (.clo 147 [] [(.ref (i6 a1c0) [] [])]) := (.nil rfl rfl rfl)
  refine vq (.clo 147 [] [(.ref (i6 a1c0) [] [])]) (ld_ref (i := ⟨.other, 1, 8, (.raw .nilFunc)⟩) rfl rfl hl1) hl1.c (vp (b8 a0) rfl ?_)
  obtain ⟨r2, hr3, h⟩ := bind_some h
  refine a_call (args := [(b8 a0), (.ref (i6 a1c0) [] [])]) (u := []) (r := (.bool r2)) rfl rfl (impl_isPoly_c1_of_p_ok a0 a1c0 r2 hr3) rfl (vp (.bool (!r2)) rfl (vp (.bool (!r2)) rfl (nx _ rfl (a_ret ?_))))
  refine ⟨.inr rfl, ?_⟩
  rw [Try.results167]
  cases h
  exact ⟨_, _, _, _, _, rfl, trivial, .inl ⟨rfl, .inl rfl⟩, rfl, rfl⟩
def slices_IndexFunc_byte_byte_of_impl_areAll_byte__c1_p_c : ACode := (.seq (.region 0 [q 4 (.asg 0 (.const (.int .i64 0)) 3)] false) (.seq (.seq (.region 1 [q 6 (.mov (t 0)), q 7 (.blt 0 .len [(t 6)] [145]), q 8 (.mov (.const (.int .i64 0)))] false) (.block 0 (.loop (.seq (.region 2 [q 9 (.bin .lss 3 (t 8) (t 7))] false) (.seq (.cond (t 9) .skip (.exit 0)) (.seq (.block 1 (.seq (.region 3 [q 10 (.mov (t 8)), q 5 (.asg 0 (t 10) 3)] false) (.seq (.region 4 [q 11 (.mov (t 1)), q 12 (.mov (t 0)), q 13 (.mov (t 5)), q 14 (.indexAddr 145 (t 12) (t 13)), q 15 (.load 5 (t 14)), q 16 (.call 0 (t 11) [(t 15)])] false) (.cond (t 16) (.seq (.region 5 [q 17 (.mov (t 5)), q 4 (.asg 0 (t 17) 3)] false) .ret) .skip)))) (.region 6 [q 18 (.bin .add 3 (t 8) (.const (.int .i64 1))), q 8 (.mov (t 18))] false))))))) (.seq (.region 7 [q 4 (.asg 0 (.const (.int .i64 (-1))) 3)] false) .ret)))
def slices_IndexFunc_byte_byte_of_impl_areAll_byte__c1_p_L : Live := [(0, [0, 1]), (1, [0, 1]), (2, [0, 1, 7, 8]), (3, [0, 1, 7, 8]), (4, [0, 1, 5, 7, 8]), (5, [5]), (6, [0, 1, 7, 8]), (7, []), (100009, [0, 1, 7, 8, 9]), (100016, [0, 1, 5, 7, 8, 16])]
noncomputable def slices_IndexFunc_byte_byte_of_impl_areAll_byte__c1_p_l1 (a0 : (List Int)) (a1c0c0 : Int) (x33 : Int) : Option (Int ⊕ (Unit ⊕ Int)) :=
  (if (decide (x33 < (a0.length : Int))) then (ifp (0 ≤ x33 ∧ x33 < ((a0.length : Nat) : Int)) ((Option.bind (impl_areAll_byte__c1_of_p (rd a0 x33.toNat) a1c0c0) fun r46 => (if r46 then (some (.inr (.inr x33))) else (some (.inl (IntKind.i64.wrap (x33 + 1)))))))) else (some (.inr (((.inl ()))))))
noncomputable def slices_IndexFunc_byte_byte_of_impl_areAll_byte__c1_p (a0 : (List Int)) (a1c0c0 : Int) : Option Int :=
  (Option.bind (α := (Unit ⊕ Int)) ((loopM (fun s : Int => slices_IndexFunc_byte_byte_of_impl_areAll_byte__c1_p_l1 a0 a1c0c0 s) 0)) fun z => match z with | .inl _ => (some (-1)) | .inr r50 => (some r50))
theorem slices_IndexFunc_byte_byte_of_impl_areAll_byte__c1_p_ok (a0 : (List Int)) (a1c0c0 : Int) (r : Int) (h : slices_IndexFunc_byte_byte_of_impl_areAll_byte__c1_p a0 a1c0c0 = some r) : Den Try.prog 174 [(eSu8 a0), (.clo 167 [] [(.ref (.clo 147 [] [(.ref (i6 a1c0c0) [] [])]) [] [])])] { r := (i6 r) } := by
  refine den_of (rs := [(i6 r)]) (ac := slices_IndexFunc_byte_byte_of_impl_areAll_byte__c1_p_c) (L := slices_IndexFunc_byte_byte_of_impl_areAll_byte__c1_p_L) (n := 19) (m := []) (c := Try.f174.body.getD .skip) good Try.func174 (by kernel_rfl) (by kernel_rfl) Try.ntmps174 rfl rfl (by kernel_rfl) rfl rfl ?_
  refine a_st (σ' := ⟨[(0, (eSu8 a0)), (1, (.clo 167 [] [(.ref (.clo 147 [] [(.ref (i6 a1c0c0) [] [])]) [] [])]))], []⟩) (by kernel_rfl) ?_
  unfold slices_IndexFunc_byte_byte_of_impl_areAll_byte__c1_p_c
  refine sr (vp (i6 0) rfl (nx ⟨[(0, (eSu8 a0)), (1, (.clo 167 [] [(.ref (.clo 147 [] [(.ref (i6 a1c0c0) [] [])]) [] [])]))], []⟩ (by kernel_rfl) ?_))
  obtain ⟨y24, hy25, hk26⟩ := bind_some h
  clear h
  refine a_join (emb := fun (s : Unit) => ⟨[], []⟩) (pre := fun s => (.inl s) = y24) ?_ ?_
  · rintro _ rfl
    have h := hk26
    refine a_st (σ' := ⟨[], []⟩) (by kernel_rfl) (sr (vp (i6 (-1)) rfl (nx _ rfl (a_ret ?_))))
    refine ⟨.inr rfl, ?_⟩
    rw [Try.results174]
    cases h
    exact ⟨_, _, _, _, _, rfl, trivial, .inl ⟨rfl, .inl rfl⟩, rfl, rfl⟩
  · have h := hy25
    refine sr (vp (eSu8 a0) rfl (vq (i6 (a0.length : Int)) (len_run rfl rfl) trivial (vp (i6 0) rfl (nx ⟨[(0, (eSu8 a0)), (1, (.clo 167 [] [(.ref (.clo 147 [] [(.ref (i6 a1c0c0) [] [])]) [] [])])), (7, (i6 (a0.length : Int))), (8, (i6 0))], []⟩ (by kernel_rfl) (a_block ?_)))))
    refine a_loop (emb := fun (s : Int) => ⟨[(0, (eSu8 a0)), (1, (.clo 167 [] [(.ref (.clo 147 [] [(.ref (i6 a1c0c0) [] [])]) [] [])])), (7, (i6 (a0.length : Int))), (8, (i6 s))], []⟩) (body := (fun s : Int => slices_IndexFunc_byte_byte_of_impl_areAll_byte__c1_p_l1 a0 a1c0c0 s)) (G := fun q => some q = some y24) h rfl ?_ (by kernel_rfl)
    rintro X40 x33 x41 h hX42
    have h : slices_IndexFunc_byte_byte_of_impl_areAll_byte__c1_p_l1 a0 a1c0c0 x33 = some x41 := h
    refine a_st (σ' := ⟨[(0, (eSu8 a0)), (1, (.clo 167 [] [(.ref (.clo 147 [] [(.ref (i6 a1c0c0) [] [])]) [] [])])), (7, (i6 (a0.length : Int))), (8, (i6 x33))], []⟩) (by kernel_rfl) (sr (vp (.bool ((decide (x33 < (a0.length : Int))))) rfl (nx ⟨[(0, (eSu8 a0)), (1, (.clo 167 [] [(.ref (.clo 147 [] [(.ref (i6 a1c0c0) [] [])]) [] [])])), (7, (i6 (a0.length : Int))), (8, (i6 x33)), (9, (.bool ((decide (x33 < (a0.length : Int))))))], []⟩ (by kernel_rfl) (a_seq ?_))))
    cases hb43 : (decide (x33 < (a0.length : Int)))
    · have h := ite_f hb43 h
      refine a_cond_f rfl (a_exit (t_exit ?_))
      cases h
      have h := hX42
      refine t_exit (b_exit ?_)
      exact j_leaf () (Option.some.inj h) (by kernel_rfl)
    · have h := ite_t hb43 h
      refine a_cond_t rfl (a_skip (a_next (σ' := ⟨[(0, (eSu8 a0)), (1, (.clo 167 [] [(.ref (.clo 147 [] [(.ref (i6 a1c0c0) [] [])]) [] [])])), (7, (i6 (a0.length : Int))), (8, (i6 x33))], []⟩) (by kernel_rfl) (a_seq (a_block (sr (vp (i6 x33) rfl (vp (i6 x33) rfl (nx ⟨[(0, (eSu8 a0)), (1, (.clo 167 [] [(.ref (.clo 147 [] [(.ref (i6 a1c0c0) [] [])]) [] [])])), (5, (i6 x33)), (7, (i6 (a0.length : Int))), (8, (i6 x33))], []⟩ (by kernel_rfl) (sr ?_)))))))))
      refine vp (.clo 167 [] [(.ref (.clo 147 [] [(.ref (i6 a1c0c0) [] [])]) [] [])]) rfl (vp (eSu8 a0) rfl (vp (i6 x33) rfl ?_))
      obtain ⟨hc44, h⟩ := ifp_some h
      refine vq (.ref (.row 1 (a0.map (AV.int .u8))) [x33.toNat] [x33.toNat * 1]) rfl (lmap hc44) ?_
      have hl45 : LdOk [x33.toNat] (.row 1 (a0.map (AV.int .u8))) [x33.toNat * 1] 1 false (b8 (rd a0 x33.toNat)) := (.row (llt hc44) rfl (.nil rfl rfl rfl))
      refine vq (b8 (rd a0 x33.toNat)) (ld_ref (i := ⟨.int .u8, 1, 1, (.int .u8 0)⟩) rfl rfl hl45) hl45.c ?_
      obtain ⟨r46, hr47, h⟩ := bind_some h
      refine a_call (args := [(b8 (rd a0 x33.toNat)), (.ref (.clo 147 [] [(.ref (i6 a1c0c0) [] [])]) [] [])]) (u := []) (r := (.bool r46)) rfl rfl (impl_areAll_byte__c1_of_p_ok (rd a0 x33.toNat) a1c0c0 r46 hr47) rfl (nx ⟨[(0, (eSu8 a0)), (1, (.clo 167 [] [(.ref (.clo 147 [] [(.ref (i6 a1c0c0) [] [])]) [] [])])), (5, (i6 x33)), (7, (i6 (a0.length : Int))), (8, (i6 x33)), (16, (.bool r46))], []⟩ (by kernel_rfl) ?_)
      cases hb48 : r46
      · have h := ite_f hb48 h
        refine a_cond_f rfl (a_skip (b_norm (a_next (σ' := ⟨[(0, (eSu8 a0)), (1, (.clo 167 [] [(.ref (.clo 147 [] [(.ref (i6 a1c0c0) [] [])]) [] [])])), (7, (i6 (a0.length : Int))), (8, (i6 x33))], []⟩) (by kernel_rfl) (a_region (vp (i6 (IntKind.i64.wrap (x33 + 1))) rfl (vp (i6 (IntKind.i64.wrap (x33 + 1))) rfl (a_nil ?_)))))))
        cases h
        exact a_again (by kernel_rfl) hX42
      · have h := ite_t hb48 h
        refine a_cond_t rfl (sr (vp (i6 x33) rfl (vp (i6 x33) rfl (nx _ rfl (a_ret (b_ret (t_ret ?_)))))))
        cases h
        have h := hX42
        refine t_ret (b_ret (t_ret ?_))
        cases h
        have h := hk26
        refine ⟨.inr rfl, ?_⟩
        rw [Try.results174]
        cases h
        exact ⟨_, _, _, _, _, rfl, trivial, .inl ⟨rfl, .inl rfl⟩, rfl, rfl⟩
def slices_ContainsFunc_byte_byte_of_impl_areAll_byte__c1_p_c : ACode := (.seq (.region 0 [q 4 (.asg 0 (.const (.bool false)) 4)] false) (.seq (.region 1 [q 5 (.mov (t 0)), q 6 (.mov (t 1)), q 7 (.call 0 (.func 174) [(t 5), (t 6)]), q 8 (.bin .geq 3 (t 7) (.const (.int .i64 0))), q 4 (.asg 0 (t 8) 4)] false) .ret))
def slices_ContainsFunc_byte_byte_of_impl_areAll_byte__c1_p_L : Live := [(0, [0, 1]), (1, [0, 1])]
noncomputable def slices_ContainsFunc_byte_byte_of_impl_areAll_byte__c1_p (a0 : (List Int)) (a1c0c0 : Int) : Option Bool :=
  (Option.bind (slices_IndexFunc_byte_byte_of_impl_areAll_byte__c1_p a0 a1c0c0) fun r1 => (some ((decide (r1 ≥ 0)))))
theorem slices_ContainsFunc_byte_byte_of_impl_areAll_byte__c1_p_ok (a0 : (List Int)) (a1c0c0 : Int) (r : Bool) (h : slices_ContainsFunc_byte_byte_of_impl_areAll_byte__c1_p a0 a1c0c0 = some r) : Den Try.prog 166 [(eSu8 a0), (.clo 167 [] [(.ref (.clo 147 [] [(.ref (i6 a1c0c0) [] [])]) [] [])])] { r := (.bool r) } := by
  refine den_of (rs := [(.bool r)]) (ac := slices_ContainsFunc_byte_byte_of_impl_areAll_byte__c1_p_c) (L := slices_ContainsFunc_byte_byte_of_impl_areAll_byte__c1_p_L) (n := 9) (m := []) (c := Try.f166.body.getD .skip) good Try.func166 (by kernel_rfl) (by kernel_rfl) Try.ntmps166 rfl rfl (by kernel_rfl) rfl rfl ?_
  refine a_st (σ' := ⟨[(0, (eSu8 a0)), (1, (.clo 167 [] [(.ref (.clo 147 [] [(.ref (i6 a1c0c0) [] [])]) [] [])]))], []⟩) (by kernel_rfl) ?_
  unfold slices_ContainsFunc_byte_byte_of_impl_areAll_byte__c1_p_c
  refine sr (vp (.bool false) rfl (nx ⟨[(0, (eSu8 a0)), (1, (.clo 167 [] [(.ref (.clo 147 [] [(.ref (i6 a1c0c0) [] [])]) [] [])]))], []⟩ (by kernel_rfl) (sr (vp (eSu8 a0) rfl (vp (.clo 167 [] [(.ref (.clo 147 [] [(.ref (i6 a1c0c0) [] [])]) [] [])]) rfl ?_)))))
  obtain ⟨r1, hr2, h⟩ := bind_some h
  refine a_call (args := [(eSu8 a0), (.clo 167 [] [(.ref (.clo 147 [] [(.ref (i6 a1c0c0) [] [])]) [] [])])]) (u := []) (r := (i6 r1)) rfl rfl (slices_IndexFunc_byte_byte_of_impl_areAll_byte__c1_p_ok a0 a1c0c0 r1 hr2) rfl (vp (.bool ((decide (r1 ≥ 0)))) rfl (vp (.bool ((decide (r1 ≥ 0)))) rfl (nx _ rfl (a_ret ?_))))
  refine ⟨.inr rfl, ?_⟩
  rw [Try.results166]
  cases h
  exact ⟨_, _, _, _, _, rfl, trivial, .inl ⟨rfl, .inl rfl⟩, rfl, rfl⟩
def impl_areAll_byte_of_impl_isPoly_c1_p_c : ACode := (.seq (.region 0 [q 3 (.box 146 (t 1)), q 4 (.asg 0 (.const (.bool false)) 4)] false) (.seq (.region 1 [q 5 (.mov (t 0)), q 6 (.mkfn 167 [] [(t 3)]), q 7 (.call 0 (.func 166) [(t 5), (t 6)]), q 8 (.un .not (t 7)), q 4 (.asg 0 (t 8) 4)] false) .ret))
def impl_areAll_byte_of_impl_isPoly_c1_p_L : Live := [(0, [0, 1]), (1, [0, 3])]
noncomputable def impl_areAll_byte_of_impl_isPoly_c1_p (a0 : (List Int)) (a1c0 : Int) : Option Bool :=
  (Option.bind (slices_ContainsFunc_byte_byte_of_impl_areAll_byte__c1_p a0 a1c0) fun r1 => (some (!r1)))
theorem impl_areAll_byte_of_impl_isPoly_c1_p_ok (a0 : (List Int)) (a1c0 : Int) (r : Bool) (h : impl_areAll_byte_of_impl_isPoly_c1_p a0 a1c0 = some r) : Den Try.prog 146 [(eSu8 a0), (.clo 147 [] [(.ref (i6 a1c0) [] [])])] { r := (.bool r) } := by
  refine den_of (rs := [(.bool r)]) (ac := impl_areAll_byte_of_impl_isPoly_c1_p_c) (L := impl_areAll_byte_of_impl_isPoly_c1_p_L) (n := 9) (m := []) (c := Try.f146.body.getD .skip) good Try.func146 (by kernel_rfl) (by kernel_rfl) Try.ntmps146 rfl rfl (by kernel_rfl) rfl rfl ?_
  refine a_st (σ' := ⟨[(0, (eSu8 a0)), (1, (.clo 147 [] [(.ref (i6 a1c0) [] [])]))], []⟩) (by kernel_rfl) ?_
  unfold impl_areAll_byte_of_impl_isPoly_c1_p_c
  refine sr (vo 1300 (.clo 147 [] [(.ref (i6 a1c0) [] [])]) rfl rfl (vp (.bool false) rfl (nx ⟨[(0, (eSu8 a0)), (3, (ow 3))], [(3, (bk (.clo 147 [] [(.ref (i6 a1c0) [] [])])))]⟩ (by kernel_rfl) (sr (vp (eSu8 a0) rfl (vu (.clo 167 [] [(.ref (.clo 147 [] [(.ref (i6 a1c0) [] [])]) [] [])]) [(3, (bf (.clo 147 [] [(.ref (i6 a1c0) [] [])])))] rfl trivial rfl ?_))))))
  obtain ⟨r1, hr2, h⟩ := bind_some h
  refine a_call (args := [(eSu8 a0), (.clo 167 [] [(.ref (.clo 147 [] [(.ref (i6 a1c0) [] [])]) [] [])])]) (u := []) (r := (.bool r1)) rfl rfl (slices_ContainsFunc_byte_byte_of_impl_areAll_byte__c1_p_ok a0 a1c0 r1 hr2) rfl (vp (.bool (!r1)) rfl (vp (.bool (!r1)) rfl (nx _ rfl (a_ret ?_))))
  refine ⟨.inr rfl, ?_⟩
  rw [Try.results146]
  cases h
  exact ⟨_, _, _, _, _, rfl, trivial, .inl ⟨rfl, .inl rfl⟩, rfl, rfl⟩
def impl_isPoly_c : ACode := (.seq (.region 0 [q 2 (.box 2 (t 0)), q 3 (.box 24 (t 1)), q 4 (.asg 0 (.const (.bool false)) 4)] false) (.seq (.region 1 [q 5 (.slice 24 (t 3) none none none), q 6 (.mkfn 147 [] [(t 2)]), q 7 (.call 0 (.func 146) [(t 5), (t 6)]), q 4 (.asg 0 (t 7) 4)] false) .ret))
def impl_isPoly_L : Live := [(0, [0, 1]), (1, [2, 3])]
noncomputable def impl_isPoly (a0 : Int) (a1 : (Vec Int 64)) : Option Bool :=
  (Option.bind (impl_areAll_byte_of_impl_isPoly_c1_p a1.1 a0) fun r1 => (some r1))
theorem impl_isPoly_ok (a0 : Int) (a1 : (Vec Int 64)) (r : Bool) (h : impl_isPoly a0 a1 = some r) : Den Try.prog 120 [(i6 a0), (eA64u8 a1)] { r := (.bool r) } := by
  refine den_of (rs := [(.bool r)]) (ac := impl_isPoly_c) (L := impl_isPoly_L) (n := 8) (m := []) (c := Try.f120.body.getD .skip) good Try.func120 (by kernel_rfl) (by kernel_rfl) Try.ntmps120 rfl rfl (by kernel_rfl) rfl rfl ?_
  refine a_st (σ' := ⟨[(0, (i6 a0)), (1, (eA64u8 a1))], []⟩) (by kernel_rfl) ?_
  unfold impl_isPoly_c
  refine sr (vo 1200 (i6 a0) rfl rfl (vo 1300 (eA64u8 a1) rfl rfl (vp (.bool false) rfl (nx ⟨[(2, (ow 2)), (3, (ow 3))], [(2, (bk (i6 a0))), (3, (bk (eA64u8 a1)))]⟩ (by kernel_rfl) (sr (vu (.sl 1 true (a1.1.map (AV.int .u8))) [(3, (bf (eA64u8 a1)))] rfl ⟨rfl, trivial, rfl, rfl⟩ rfl (vu (.clo 147 [] [(.ref (i6 a0) [] [])]) [(2, (bf (i6 a0)))] rfl trivial rfl ?_)))))))
  obtain ⟨r1, hr2, h⟩ := bind_some h
  refine a_call (args := [(.sl 1 true (a1.1.map (AV.int .u8))), (.clo 147 [] [(.ref (i6 a0) [] [])])]) (u := []) (r := (.bool r1)) rfl rfl (Den.args (impl_areAll_byte_of_impl_isPoly_c1_p_ok a1.1 a0 r1 hr2) rfl rfl (.cons (.loose _) (.cons (.refl _) .nil))) rfl (vp (.bool r1) rfl (nx _ rfl (a_ret ?_)))
  refine ⟨.inr rfl, ?_⟩
  rw [Try.results120]
  cases h
  exact ⟨_, _, _, _, _, rfl, trivial, .inl ⟨rfl, .inl rfl⟩, rfl, rfl⟩
def impl_polysCode_c1_of_p_c : ACode := (.seq (.region 0 [q 2 (.box 24 (t 0)), q 3 (.asg 0 (.const (.bool false)) 4)] false) (.seq (.region 1 [q 4 (.load 2 (t 1)), q 5 (.load 24 (t 2)), q 6 (.call 0 (.func 120) [(t 4), (t 5)]), q 3 (.asg 0 (t 6) 4)] false) .ret))
def impl_polysCode_c1_of_p_L : Live := [(0, [0, 1]), (1, [1, 2])]
noncomputable def impl_polysCode_c1_of_p (a0 : (Vec Int 64)) (a1 : Int) : Option Bool :=
  (Option.bind (impl_isPoly a1 a0) fun r3 => (some r3))
theorem impl_polysCode_c1_of_p_ok (a0 : (Vec Int 64)) (a1 : Int) (r : Bool) (h : impl_polysCode_c1_of_p a0 a1 = some r) : Den Try.prog 134 [(eA64u8 a0), (.ref (i6 a1) [] [])] { r := (.bool r) } := by
  refine den_of (rs := [(.bool r)]) (ac := impl_polysCode_c1_of_p_c) (L := impl_polysCode_c1_of_p_L) (n := 7) (m := []) (c := Try.f134.body.getD .skip) good Try.func134 (by kernel_rfl) (by kernel_rfl) Try.ntmps134 rfl rfl (by kernel_rfl) rfl rfl ?_
  refine a_st (σ' := ⟨[(0, (eA64u8 a0)), (1, (.ref (i6 a1) [] []))], []⟩) (by kernel_rfl) ?_
  unfold impl_polysCode_c1_of_p_c
  refine sr (vo 1200 (eA64u8 a0) rfl rfl (vp (.bool false) rfl (nx ⟨[(1, (.ref (i6 a1) [] [])), (2, (ow 2))], [(2, (bk (eA64u8 a0)))]⟩ (by kernel_rfl) (sr ?_))))
  have hl1 : LdOk [] (i6 a1) [] 1 false (i6 a1) := (.nil rfl rfl rfl)
  refine vq (i6 a1) (ld_ref (i := ⟨.int .i64, 1, 8, (.int .i64 0)⟩) rfl rfl hl1) hl1.c (vl (eA64u8 a0) rfl rfl rfl rfl rfl rfl ?_)
  obtain ⟨r3, hr4, h⟩ := bind_some h
  refine a_call (args := [(i6 a1), (eA64u8 a0)]) (u := []) (r := (.bool r3)) rfl rfl (impl_isPoly_ok a1 a0 r3 hr4) rfl (vp (.bool r3) rfl (nx _ rfl (a_ret ?_)))
  refine ⟨.inr rfl, ?_⟩
  rw [Try.results134]
  cases h
  exact ⟨_, _, _, _, _, rfl, trivial, .inl ⟨rfl, .inl rfl⟩, rfl, rfl⟩
def impl_areAll_impl_Poly__c1_of_p_c : ACode := (.seq (.region 0 [q 2 (.box 24 (t 0)), q 3 (.asg 0 (.const (.bool false)) 4)] false) (.seq (.region 1 [q 4 (.load 61 (t 1)), q 5 (.load 24 (t 2)), q 6 (.call 0 (t 4) [(t 5)]), q 7 (.un .not (t 6)), q 3 (.asg 0 (t 7) 4)] false) .ret))
def impl_areAll_impl_Poly__c1_of_p_L : Live := [(0, [0, 1]), (1, [1, 2])]
noncomputable def impl_areAll_impl_Poly__c1_of_p (a0 : (Vec Int 64)) (a1c0 : Int) : Option Bool :=
  (Option.bind (impl_polysCode_c1_of_p a0 a1c0) fun r3 => (some (!r3)))
theorem impl_areAll_impl_Poly__c1_of_p_ok (a0 : (Vec Int 64)) (a1c0 : Int) (r : Bool) (h : impl_areAll_impl_Poly__c1_of_p a0 a1c0 = some r) : Den Try.prog 145 [(eA64u8 a0), (.ref (.clo 134 [] [(.ref (i6 a1c0) [] [])]) [] [])] { r := (.bool r) } := by
  refine den_of (rs := [(.bool r)]) (ac := impl_areAll_impl_Poly__c1_of_p_c) (L := impl_areAll_impl_Poly__c1_of_p_L) (n := 8) (m := []) (c := Try.f145.body.getD .skip) good Try.func145 (by kernel_rfl) (by kernel_rfl) Try.ntmps145 rfl rfl (by kernel_rfl) rfl rfl ?_
  refine a_st (σ' := ⟨[(0, (eA64u8 a0)), (1, (.ref (.clo 134 [] [(.ref (i6 a1c0) [] [])]) [] []))], []⟩) (by kernel_rfl) ?_
  unfold impl_areAll_impl_Poly__c1_of_p_c
  refine sr (vo 1200 (eA64u8 a0) rfl rfl (vp (.bool false) rfl (nx ⟨[(1, (.ref (.clo 134 [] [(.ref (i6 a1c0) [] [])]) [] [])), (2, (ow 2))], [(2, (bk (eA64u8 a0)))]⟩ (by kernel_rfl) (sr ?_))))
  have hl1 : LdOk [] (.clo 134 [] [(.ref (i6 a1c0) [] [])]) [] 1 false (.clo 134 [] [(.ref (i6 a1c0) [] [])]) := (.nil rfl rfl rfl)
  refine vq (.clo 134 [] [(.ref (i6 a1c0) [] [])]) (ld_ref (i := ⟨.other, 1, 8, (.raw .nilFunc)⟩) rfl rfl hl1) hl1.c (vl (eA64u8 a0) rfl rfl rfl rfl rfl rfl ?_)
  obtain ⟨r3, hr4, h⟩ := bind_some h
  refine a_call (args := [(eA64u8 a0), (.ref (i6 a1c0) [] [])]) (u := []) (r := (.bool r3)) rfl rfl (impl_polysCode_c1_of_p_ok a0 a1c0 r3 hr4) rfl (vp (.bool (!r3)) rfl (vp (.bool (!r3)) rfl (nx _ rfl (a_ret ?_))))
  refine ⟨.inr rfl, ?_⟩
  rw [Try.results145]
  cases h
  exact ⟨_, _, _, _, _, rfl, trivial, .inl ⟨rfl, .inl rfl⟩, rfl, rfl⟩
def slices_IndexFunc_impl_Poly_impl_Poly_of_impl_areAll_impl_Poly__c1_p_c : ACode := (.seq (.region 0 [q 4 (.asg 0 (.const (.int .i64 0)) 3)] false) (.seq (.seq (.region 1 [q 6 (.mov (t 0)), q 7 (.blt 0 .len [(t 6)] [36]), q 8 (.mov (.const (.int .i64 0)))] false) (.block 0 (.loop (.seq (.region 2 [q 9 (.bin .lss 3 (t 8) (t 7))] false) (.seq (.cond (t 9) .skip (.exit 0)) (.seq (.block 1 (.seq (.region 3 [q 10 (.mov (t 8)), q 5 (.asg 0 (t 10) 3)] false) (.seq (.region 4 [q 11 (.mov (t 1)), q 12 (.mov (t 0)), q 13 (.mov (t 5)), q 14 (.indexAddr 36 (t 12) (t 13)), q 15 (.load 24 (t 14)), q 16 (.call 0 (t 11) [(t 15)])] false) (.cond (t 16) (.seq (.region 5 [q 17 (.mov (t 5)), q 4 (.asg 0 (t 17) 3)] false) .ret) .skip)))) (.region 6 [q 18 (.bin .add 3 (t 8) (.const (.int .i64 1))), q 8 (.mov (t 18))] false))))))) (.seq (.region 7 [q 4 (.asg 0 (.const (.int .i64 (-1))) 3)] false) .ret)))
def slices_IndexFunc_impl_Poly_impl_Poly_of_impl_areAll_impl_Poly__c1_p_L : Live := [(0, [0, 1]), (1, [0, 1]), (2, [0, 1, 7, 8]), (3, [0, 1, 7, 8]), (4, [0, 1, 5, 7, 8]), (5, [5]), (6, [0, 1, 7, 8]), (7, []), (100009, [0, 1, 7, 8, 9]), (100016, [0, 1, 5, 7, 8, 16])]
noncomputable def slices_IndexFunc_impl_Poly_impl_Poly_of_impl_areAll_impl_Poly__c1_p_l1 (a0 : (List (Vec Int 64))) (a1c0c0 : Int) (x33 : Int) : Option (Int ⊕ (Unit ⊕ Int)) :=
  (if (decide (x33 < (a0.length : Int))) then (ifp (0 ≤ x33 ∧ x33 < ((a0.length : Nat) : Int)) ((Option.bind (impl_areAll_impl_Poly__c1_of_p (rd a0 x33.toNat) a1c0c0) fun r46 => (if r46 then (some (.inr (.inr x33))) else (some (.inl (IntKind.i64.wrap (x33 + 1)))))))) else (some (.inr (((.inl ()))))))
noncomputable def slices_IndexFunc_impl_Poly_impl_Poly_of_impl_areAll_impl_Poly__c1_p (a0 : (List (Vec Int 64))) (a1c0c0 : Int) : Option Int :=
  (Option.bind (α := (Unit ⊕ Int)) ((loopM (fun s : Int => slices_IndexFunc_impl_Poly_impl_Poly_of_impl_areAll_impl_Poly__c1_p_l1 a0 a1c0c0 s) 0)) fun z => match z with | .inl _ => (some (-1)) | .inr r50 => (some r50))
theorem slices_IndexFunc_impl_Poly_impl_Poly_of_impl_areAll_impl_Poly__c1_p_ok (a0 : (List (Vec Int 64))) (a1c0c0 : Int) (r : Int) (h : slices_IndexFunc_impl_Poly_impl_Poly_of_impl_areAll_impl_Poly__c1_p a0 a1c0c0 = some r) : Den Try.prog 165 [(eSA64u8 a0), (.clo 145 [] [(.ref (.clo 134 [] [(.ref (i6 a1c0c0) [] [])]) [] [])])] { r := (i6 r) } := by
  refine den_of (rs := [(i6 r)]) (ac := slices_IndexFunc_impl_Poly_impl_Poly_of_impl_areAll_impl_Poly__c1_p_c) (L := slices_IndexFunc_impl_Poly_impl_Poly_of_impl_areAll_impl_Poly__c1_p_L) (n := 19) (m := []) (c := Try.f165.body.getD .skip) good Try.func165 (by kernel_rfl) (by kernel_rfl) Try.ntmps165 rfl rfl (by kernel_rfl) rfl rfl ?_
  refine a_st (σ' := ⟨[(0, (eSA64u8 a0)), (1, (.clo 145 [] [(.ref (.clo 134 [] [(.ref (i6 a1c0c0) [] [])]) [] [])]))], []⟩) (by kernel_rfl) ?_
  unfold slices_IndexFunc_impl_Poly_impl_Poly_of_impl_areAll_impl_Poly__c1_p_c
  refine sr (vp (i6 0) rfl (nx ⟨[(0, (eSA64u8 a0)), (1, (.clo 145 [] [(.ref (.clo 134 [] [(.ref (i6 a1c0c0) [] [])]) [] [])]))], []⟩ (by kernel_rfl) ?_))
  obtain ⟨y24, hy25, hk26⟩ := bind_some h
  clear h
  refine a_join (emb := fun (s : Unit) => ⟨[], []⟩) (pre := fun s => (.inl s) = y24) ?_ ?_
  · rintro _ rfl
    have h := hk26
    refine a_st (σ' := ⟨[], []⟩) (by kernel_rfl) (sr (vp (i6 (-1)) rfl (nx _ rfl (a_ret ?_))))
    refine ⟨.inr rfl, ?_⟩
    rw [Try.results165]
    cases h
    exact ⟨_, _, _, _, _, rfl, trivial, .inl ⟨rfl, .inl rfl⟩, rfl, rfl⟩
  · have h := hy25
    refine sr (vp (eSA64u8 a0) rfl (vq (i6 (a0.length : Int)) (len_run rfl rfl) trivial (vp (i6 0) rfl (nx ⟨[(0, (eSA64u8 a0)), (1, (.clo 145 [] [(.ref (.clo 134 [] [(.ref (i6 a1c0c0) [] [])]) [] [])])), (7, (i6 (a0.length : Int))), (8, (i6 0))], []⟩ (by kernel_rfl) (a_block ?_)))))
    refine a_loop (emb := fun (s : Int) => ⟨[(0, (eSA64u8 a0)), (1, (.clo 145 [] [(.ref (.clo 134 [] [(.ref (i6 a1c0c0) [] [])]) [] [])])), (7, (i6 (a0.length : Int))), (8, (i6 s))], []⟩) (body := (fun s : Int => slices_IndexFunc_impl_Poly_impl_Poly_of_impl_areAll_impl_Poly__c1_p_l1 a0 a1c0c0 s)) (G := fun q => some q = some y24) h rfl ?_ (by kernel_rfl)
    rintro X40 x33 x41 h hX42
    have h : slices_IndexFunc_impl_Poly_impl_Poly_of_impl_areAll_impl_Poly__c1_p_l1 a0 a1c0c0 x33 = some x41 := h
    refine a_st (σ' := ⟨[(0, (eSA64u8 a0)), (1, (.clo 145 [] [(.ref (.clo 134 [] [(.ref (i6 a1c0c0) [] [])]) [] [])])), (7, (i6 (a0.length : Int))), (8, (i6 x33))], []⟩) (by kernel_rfl) (sr (vp (.bool ((decide (x33 < (a0.length : Int))))) rfl (nx ⟨[(0, (eSA64u8 a0)), (1, (.clo 145 [] [(.ref (.clo 134 [] [(.ref (i6 a1c0c0) [] [])]) [] [])])), (7, (i6 (a0.length : Int))), (8, (i6 x33)), (9, (.bool ((decide (x33 < (a0.length : Int))))))], []⟩ (by kernel_rfl) (a_seq ?_))))
    cases hb43 : (decide (x33 < (a0.length : Int)))
    · have h := ite_f hb43 h
      refine a_cond_f rfl (a_exit (t_exit ?_))
      cases h
      have h := hX42
      refine t_exit (b_exit ?_)
      exact j_leaf () (Option.some.inj h) (by kernel_rfl)
    · have h := ite_t hb43 h
      refine a_cond_t rfl (a_skip (a_next (σ' := ⟨[(0, (eSA64u8 a0)), (1, (.clo 145 [] [(.ref (.clo 134 [] [(.ref (i6 a1c0c0) [] [])]) [] [])])), (7, (i6 (a0.length : Int))), (8, (i6 x33))], []⟩) (by kernel_rfl) (a_seq (a_block (sr (vp (i6 x33) rfl (vp (i6 x33) rfl (nx ⟨[(0, (eSA64u8 a0)), (1, (.clo 145 [] [(.ref (.clo 134 [] [(.ref (i6 a1c0c0) [] [])]) [] [])])), (5, (i6 x33)), (7, (i6 (a0.length : Int))), (8, (i6 x33))], []⟩ (by kernel_rfl) (sr ?_)))))))))
      refine vp (.clo 145 [] [(.ref (.clo 134 [] [(.ref (i6 a1c0c0) [] [])]) [] [])]) rfl (vp (eSA64u8 a0) rfl (vp (i6 x33) rfl ?_))
      obtain ⟨hc44, h⟩ := ifp_some h
      refine vq (.ref (.row 64 (a0.map eA64u8)) [x33.toNat] [x33.toNat * 64]) rfl (lmap hc44) ?_
      have hl45 : LdOk [x33.toNat] (.row 64 (a0.map eA64u8)) [x33.toNat * 64] 64 true (eA64u8 (rd a0 x33.toNat)) := (.row (llt hc44) rfl (.nil rfl rfl rfl))
      refine vq (eA64u8 (rd a0 x33.toNat)) (ld_ref (i := ⟨.arr 64 5, 64, 64, (eA64u8 (vrep 64 (0 : Int)))⟩) rfl rfl hl45) hl45.c ?_
      obtain ⟨r46, hr47, h⟩ := bind_some h
      refine a_call (args := [(eA64u8 (rd a0 x33.toNat)), (.ref (.clo 134 [] [(.ref (i6 a1c0c0) [] [])]) [] [])]) (u := []) (r := (.bool r46)) rfl rfl (impl_areAll_impl_Poly__c1_of_p_ok (rd a0 x33.toNat) a1c0c0 r46 hr47) rfl (nx ⟨[(0, (eSA64u8 a0)), (1, (.clo 145 [] [(.ref (.clo 134 [] [(.ref (i6 a1c0c0) [] [])]) [] [])])), (5, (i6 x33)), (7, (i6 (a0.length : Int))), (8, (i6 x33)), (16, (.bool r46))], []⟩ (by kernel_rfl) ?_)
      cases hb48 : r46
      · have h := ite_f hb48 h
        refine a_cond_f rfl (a_skip (b_norm (a_next (σ' := ⟨[(0, (eSA64u8 a0)), (1, (.clo 145 [] [(.ref (.clo 134 [] [(.ref (i6 a1c0c0) [] [])]) [] [])])), (7, (i6 (a0.length : Int))), (8, (i6 x33))], []⟩) (by kernel_rfl) (a_region (vp (i6 (IntKind.i64.wrap (x33 + 1))) rfl (vp (i6 (IntKind.i64.wrap (x33 + 1))) rfl (a_nil ?_)))))))
        cases h
        exact a_again (by kernel_rfl) hX42
      · have h := ite_t hb48 h
        refine a_cond_t rfl (sr (vp (i6 x33) rfl (vp (i6 x33) rfl (nx _ rfl (a_ret (b_ret (t_ret ?_)))))))
        cases h
        have h := hX42
        refine t_ret (b_ret (t_ret ?_))
        cases h
        have h := hk26
        refine ⟨.inr rfl, ?_⟩
        rw [Try.results165]
        cases h
        exact ⟨_, _, _, _, _, rfl, trivial, .inl ⟨rfl, .inl rfl⟩, rfl, rfl⟩
def slices_ContainsFunc_impl_Poly_impl_Poly_of_impl_areAll_impl_Poly__c1_p_c : ACode := (.seq (.region 0 [q 4 (.asg 0 (.const (.bool false)) 4)] false) (.seq (.region 1 [q 5 (.mov (t 0)), q 6 (.mov (t 1)), q 7 (.call 0 (.func 165) [(t 5), (t 6)]), q 8 (.bin .geq 3 (t 7) (.const (.int .i64 0))), q 4 (.asg 0 (t 8) 4)] false) .ret))
def slices_ContainsFunc_impl_Poly_impl_Poly_of_impl_areAll_impl_Poly__c1_p_L : Live := [(0, [0, 1]), (1, [0, 1])]
noncomputable def slices_ContainsFunc_impl_Poly_impl_Poly_of_impl_areAll_impl_Poly__c1_p (a0 : (List (Vec Int 64))) (a1c0c0 : Int) : Option Bool :=
  (Option.bind (slices_IndexFunc_impl_Poly_impl_Poly_of_impl_areAll_impl_Poly__c1_p a0 a1c0c0) fun r1 => (some ((decide (r1 ≥ 0)))))
theorem slices_ContainsFunc_impl_Poly_impl_Poly_of_impl_areAll_impl_Poly__c1_p_ok (a0 : (List (Vec Int 64))) (a1c0c0 : Int) (r : Bool) (h : slices_ContainsFunc_impl_Poly_impl_Poly_of_impl_areAll_impl_Poly__c1_p a0 a1c0c0 = some r) : Den Try.prog 144 [(eSA64u8 a0), (.clo 145 [] [(.ref (.clo 134 [] [(.ref (i6 a1c0c0) [] [])]) [] [])])] { r := (.bool r) } := by
  refine den_of (rs := [(.bool r)]) (ac := slices_ContainsFunc_impl_Poly_impl_Poly_of_impl_areAll_impl_Poly__c1_p_c) (L := slices_ContainsFunc_impl_Poly_impl_Poly_of_impl_areAll_impl_Poly__c1_p_L) (n := 9) (m := []) (c := Try.f144.body.getD .skip) good Try.func144 (by kernel_rfl) (by kernel_rfl) Try.ntmps144 rfl rfl (by kernel_rfl) rfl rfl ?_
  refine a_st (σ' := ⟨[(0, (eSA64u8 a0)), (1, (.clo 145 [] [(.ref (.clo 134 [] [(.ref (i6 a1c0c0) [] [])]) [] [])]))], []⟩) (by kernel_rfl) ?_
  unfold slices_ContainsFunc_impl_Poly_impl_Poly_of_impl_areAll_impl_Poly__c1_p_c
  refine sr (vp (.bool false) rfl (nx ⟨[(0, (eSA64u8 a0)), (1, (.clo 145 [] [(.ref (.clo 134 [] [(.ref (i6 a1c0c0) [] [])]) [] [])]))], []⟩ (by kernel_rfl) (sr (vp (eSA64u8 a0) rfl (vp (.clo 145 [] [(.ref (.clo 134 [] [(.ref (i6 a1c0c0) [] [])]) [] [])]) rfl ?_)))))
  obtain ⟨r1, hr2, h⟩ := bind_some h
  refine a_call (args := [(eSA64u8 a0), (.clo 145 [] [(.ref (.clo 134 [] [(.ref (i6 a1c0c0) [] [])]) [] [])])]) (u := []) (r := (i6 r1)) rfl rfl (slices_IndexFunc_impl_Poly_impl_Poly_of_impl_areAll_impl_Poly__c1_p_ok a0 a1c0c0 r1 hr2) rfl (vp (.bool ((decide (r1 ≥ 0)))) rfl (vp (.bool ((decide (r1 ≥ 0)))) rfl (nx _ rfl (a_ret ?_))))
  refine ⟨.inr rfl, ?_⟩
  rw [Try.results144]
  cases h
  exact ⟨_, _, _, _, _, rfl, trivial, .inl ⟨rfl, .inl rfl⟩, rfl, rfl⟩
def impl_areAll_impl_Poly_of_impl_polysCode_c1_p_c : ACode := (.seq (.region 0 [q 3 (.box 61 (t 1)), q 4 (.asg 0 (.const (.bool false)) 4)] false) (.seq (.region 1 [q 5 (.mov (t 0)), q 6 (.mkfn 145 [] [(t 3)]), q 7 (.call 0 (.func 144) [(t 5), (t 6)]), q 8 (.un .not (t 7)), q 4 (.asg 0 (t 8) 4)] false) .ret))
def impl_areAll_impl_Poly_of_impl_polysCode_c1_p_L : Live := [(0, [0, 1]), (1, [0, 3])]
noncomputable def impl_areAll_impl_Poly_of_impl_polysCode_c1_p (a0 : (List (Vec Int 64))) (a1c0 : Int) : Option Bool :=
  (Option.bind (slices_ContainsFunc_impl_Poly_impl_Poly_of_impl_areAll_impl_Poly__c1_p a0 a1c0) fun r1 => (some (!r1)))
theorem impl_areAll_impl_Poly_of_impl_polysCode_c1_p_ok (a0 : (List (Vec Int 64))) (a1c0 : Int) (r : Bool) (h : impl_areAll_impl_Poly_of_impl_polysCode_c1_p a0 a1c0 = some r) : Den Try.prog 119 [(eSA64u8 a0), (.clo 134 [] [(.ref (i6 a1c0) [] [])])] { r := (.bool r) } := by
  refine den_of (rs := [(.bool r)]) (ac := impl_areAll_impl_Poly_of_impl_polysCode_c1_p_c) (L := impl_areAll_impl_Poly_of_impl_polysCode_c1_p_L) (n := 9) (m := []) (c := Try.f119.body.getD .skip) good Try.func119 (by kernel_rfl) (by kernel_rfl) Try.ntmps119 rfl rfl (by kernel_rfl) rfl rfl ?_
  refine a_st (σ' := ⟨[(0, (eSA64u8 a0)), (1, (.clo 134 [] [(.ref (i6 a1c0) [] [])]))], []⟩) (by kernel_rfl) ?_
  unfold impl_areAll_impl_Poly_of_impl_polysCode_c1_p_c
  refine sr (vo 1300 (.clo 134 [] [(.ref (i6 a1c0) [] [])]) rfl rfl (vp (.bool false) rfl (nx ⟨[(0, (eSA64u8 a0)), (3, (ow 3))], [(3, (bk (.clo 134 [] [(.ref (i6 a1c0) [] [])])))]⟩ (by kernel_rfl) (sr (vp (eSA64u8 a0) rfl (vu (.clo 145 [] [(.ref (.clo 134 [] [(.ref (i6 a1c0) [] [])]) [] [])]) [(3, (bf (.clo 134 [] [(.ref (i6 a1c0) [] [])])))] rfl trivial rfl ?_))))))
  obtain ⟨r1, hr2, h⟩ := bind_some h
  refine a_call (args := [(eSA64u8 a0), (.clo 145 [] [(.ref (.clo 134 [] [(.ref (i6 a1c0) [] [])]) [] [])])]) (u := []) (r := (.bool r1)) rfl rfl (slices_ContainsFunc_impl_Poly_impl_Poly_of_impl_areAll_impl_Poly__c1_p_ok a0 a1c0 r1 hr2) rfl (vp (.bool (!r1)) rfl (vp (.bool (!r1)) rfl (nx _ rfl (a_ret ?_))))
  refine ⟨.inr rfl, ?_⟩
  rw [Try.results119]
  cases h
  exact ⟨_, _, _, _, _, rfl, trivial, .inl ⟨rfl, .inl rfl⟩, rfl, rfl⟩
def impl_polysCode_c : ACode := (.seq (.region 0 [q 2 (.box 2 (t 0)), q 4 (.asg 0 (.const (.int .i64 0)) 2)] false) (.seq (.seq (.region 1 [q 5 (.load 2 (t 2)), q 6 (.call 0 (.func 64) [(t 5)]), q 7 (.un .not (t 6)), q 8 (.mov (t 7)), ⟨some 9, .mov (t 1), some (8, false), []⟩, ⟨some 10, .mkfn 134 [] [(t 2)], some (8, false), []⟩, ⟨some 11, .call 0 (.func 119) [(t 9), (t 10)], some (8, false), []⟩, ⟨some 12, .un .not (t 11), some (8, false), []⟩, q 13 (.pick (t 8) (.const (.bool true)) (t 12))] false) (.cond (t 13) (.seq (.region 2 [q 4 (.asg 0 (.const (.int .i64 1)) 2)] false) .ret) .skip)) (.seq (.region 3 [q 4 (.asg 0 (.const (.int .i64 0)) 2)] false) .ret)))
def impl_polysCode_L : Live := [(0, [0, 1]), (1, [1, 2]), (2, []), (3, []), (100013, [13])]
noncomputable def impl_polysCode (a0 : Int) (a1 : (List (Vec Int 64))) : Option Int :=
  (Option.bind (α := Bool) ((Option.bind (impl_isPrime a0) fun r12 => (if (!r12) then (some true) else (Option.bind (impl_areAll_impl_Poly_of_impl_polysCode_c1_p a1 a0) fun r15 => (some (!r15)))))) fun x7 => (if x7 then (some 1) else (some 0)))
theorem impl_polysCode_ok (a0 : Int) (a1 : (List (Vec Int 64))) (r : Int) (h : impl_polysCode a0 a1 = some r) : Den Try.prog 100 [(i6 a0), (eSA64u8 a1)] { r := (i6 r) } := by
  refine den_of (rs := [(i6 r)]) (ac := impl_polysCode_c) (L := impl_polysCode_L) (n := 14) (m := []) (c := Try.f100.body.getD .skip) good Try.func100 (by kernel_rfl) (by kernel_rfl) Try.ntmps100 rfl rfl (by kernel_rfl) rfl rfl ?_
  refine a_st (σ' := ⟨[(0, (i6 a0)), (1, (eSA64u8 a1))], []⟩) (by kernel_rfl) ?_
  unfold impl_polysCode_c
  refine sr (vo 1200 (i6 a0) rfl rfl (vp (i6 0) rfl (nx ⟨[(1, (eSA64u8 a1)), (2, (ow 2))], [(2, (bk (i6 a0)))]⟩ (by kernel_rfl) (a_seq ?_))))
  obtain ⟨y8, hy9, hk10⟩ := bind_some h
  clear h
  refine a_join (emb := fun (s : Bool) => ⟨[(13, (.bool s))], []⟩) (pre := fun s => s = y8) ?_ ?_
  · rintro x7 rfl
    have h := hk10
    refine a_st (σ' := ⟨[(13, (.bool x7))], []⟩) (by kernel_rfl) ?_
    cases hb17 : x7
    · have h := ite_f hb17 h
      refine a_cond_f rfl (a_skip (a_next (σ' := ⟨[], []⟩) (by kernel_rfl) (sr (vp (i6 0) rfl (nx _ rfl (a_ret ?_))))))
      refine ⟨.inr rfl, ?_⟩
      rw [Try.results100]
      cases h
      exact ⟨_, _, _, _, _, rfl, trivial, .inl ⟨rfl, .inl rfl⟩, rfl, rfl⟩
    · have h := ite_t hb17 h
      refine a_cond_t rfl (sr (vp (i6 1) rfl (nx _ rfl (a_ret (t_ret ?_)))))
      refine ⟨.inr rfl, ?_⟩
      rw [Try.results100]
      cases h
      exact ⟨_, _, _, _, _, rfl, trivial, .inl ⟨rfl, .inl rfl⟩, rfl, rfl⟩
  · have h := hy9
    refine a_region (vl (i6 a0) rfl rfl rfl rfl rfl rfl ?_)
    obtain ⟨r12, hr13, h⟩ := bind_some h
    refine a_call (args := [(i6 a0)]) (u := []) (r := (.bool r12)) rfl rfl (impl_isPrime_ok a0 r12 hr13) rfl (vp (.bool (!r12)) rfl (vp (.bool (!r12)) rfl ?_))
    cases hb14 : (!r12)
    · have h := ite_f hb14 h
      refine gp (eSA64u8 a1) rfl rfl (a_gval rfl (v := (.clo 134 [] [(.ref (i6 a0) [] [])])) (u := [(2, (bf (i6 a0)))]) rfl trivial rfl ?_)
      obtain ⟨r15, hr16, h⟩ := bind_some h
      refine a_gcall rfl (args := [(eSA64u8 a1), (.clo 134 [] [(.ref (i6 a0) [] [])])]) (u := []) (r := (.bool r15)) rfl rfl (impl_areAll_impl_Poly_of_impl_polysCode_c1_p_ok a1 a0 r15 hr16) rfl (gp (.bool (!r15)) rfl rfl (vp (.bool (!r15)) rfl (a_nil ?_)))
      exact j_leaf (!r15) (Option.some.inj h) (by kernel_rfl)
    · have h := ite_t hb14 h
      refine a_gskip rfl (a_gskip rfl (a_gskip rfl (a_gskip rfl (vp (.bool true) rfl (a_nil ?_)))))
      exact j_leaf true (Option.some.inj h) (by kernel_rfl)
def impl_row_trimmed_c : ACode := (.seq (.region 0 [q 2 (.asg 1 (.const (.slice none 0 0)) 65)] false) (.seq (.region 1 [q 4 (.mov (t 0)), q 5 (.blt 0 .len [(t 4)] [65]), q 3 (.asg 0 (t 5) 3)] false) (.seq (.block 0 (.loop (.seq (.seq (.region 2 [q 6 (.mov (t 3)), q 7 (.bin .gtr 3 (t 6) (.const (.int .i64 0))), q 8 (.mov (t 7)), ⟨some 9, .mov (t 0), some (8, true), []⟩, ⟨some 10, .mov (t 3), some (8, true), []⟩, ⟨some 11, .bin .sub 3 (t 10) (.const (.int .i64 1)), some (8, true), []⟩, ⟨some 12, .indexAddr 65 (t 9) (t 11), some (8, true), []⟩, ⟨some 13, .load 2 (t 12), some (8, true), []⟩, ⟨some 14, .bin .eql 2 (t 13) (.const (.int .i64 0)), some (8, true), []⟩, q 15 (.pick (t 8) (t 14) (.const (.bool false)))] false) (.cond (t 15) .skip (.exit 0))) (.block 1 (.region 3 [q 16 (.mov (t 3)), q 17 (.bin .sub 3 (t 16) (.const (.int .i64 1))), q 3 (.asg 0 (t 17) 3)] false))))) (.seq (.region 4 [q 18 (.mov (t 0)), q 19 (.mov (t 3)), q 20 (.mov (t 3)), q 21 (.slice 65 (t 18) none (some (t 19)) (some (t 20))), q 2 (.asg 1 (t 21) 65)] false) .ret))))
def impl_row_trimmed_L : Live := [(0, [0]), (1, [0]), (2, [0, 3]), (3, [0, 3]), (4, [0, 3]), (100015, [0, 3, 15])]
noncomputable def impl_row_trimmed_l1 (a0 : (List Int)) (x62 : Int) : Option (Int ⊕ Int) :=
  (Option.bind (α := Bool) ((if (decide (x62 > 0)) then (ifp (0 ≤ IntKind.i64.wrap (x62 - 1) ∧ IntKind.i64.wrap (x62 - 1) < ((a0.length : Nat) : Int)) ((some ((((rd a0 (IntKind.i64.wrap (x62 - 1)).toNat)) == 0))))) else (some false))) fun x80 => (if x80 then (some (.inl (IntKind.i64.wrap (x62 - 1)))) else (some (.inr x62))))
noncomputable def impl_row_trimmed (a0 : (List Int)) : Option (List Int) :=
  (Option.bind (α := Int) ((loopM (fun s : Int => impl_row_trimmed_l1 a0 s) (a0.length : Int))) fun x43 => (ifp (0 ≤ x43 ∧ x43 ≤ (a0.length : Int)) ((some (a0.take x43.toNat)))))
theorem impl_row_trimmed_ok (a0 : (List Int)) (r : (List Int)) (h : impl_row_trimmed a0 = some r) : Den Try.prog 102 [(eSi64 a0)] { r := (eSi64 r) } := by
  refine den_of (rs := [(eSi64 r)]) (ac := impl_row_trimmed_c) (L := impl_row_trimmed_L) (n := 22) (m := [(2, 1)]) (c := Try.f102.body.getD .skip) good Try.func102 (by kernel_rfl) (by kernel_rfl) Try.ntmps102 rfl rfl (by kernel_rfl) rfl rfl ?_
  refine a_st (σ' := ⟨[(0, (eSi64 a0))], []⟩) (by kernel_rfl) ?_
  unfold impl_row_trimmed_c
  refine sr (vp (eSi64 ([])) rfl (nx ⟨[(0, (eSi64 a0))], []⟩ (by kernel_rfl) (sr (vp (eSi64 a0) rfl (vq (i6 (a0.length : Int)) (len_run rfl rfl) trivial (vp (i6 (a0.length : Int)) rfl (nx ⟨[(0, (eSi64 a0)), (3, (i6 (a0.length : Int)))], []⟩ (by kernel_rfl) ?_)))))))
  obtain ⟨y44, hy45, hk46⟩ := bind_some h
  clear h
  refine a_join (emb := fun (s : Int) => ⟨[(0, (eSi64 a0)), (3, (i6 s))], []⟩) (pre := fun s => s = y44) ?_ ?_
  · rintro x43 rfl
    have h := hk46
    refine a_st (σ' := ⟨[(0, (eSi64 a0)), (3, (i6 x43))], []⟩) (by kernel_rfl) (sr (vp (eSi64 a0) rfl (vp (i6 x43) rfl (vp (i6 x43) rfl ?_))))
    obtain ⟨hc89, h⟩ := ifp_some h
    refine vq (.sl 1 true ((a0.take x43.toNat).map (AV.int .i64))) (take3_run (f := (AV.int .i64)) (l := a0) (i := ⟨.int .i64, 1, 8, (.int .i64 0)⟩) rfl rfl rfl rfl (fun _ => rfl)) ⟨hc89.1, lmap_le hc89.2, rfl⟩ (vq (eSi64 (a0.take x43.toNat)) (asg_tight (i := ⟨.int .i64, 1, 8, (.int .i64 0)⟩) (f := (AV.int .i64)) (l := (a0.take x43.toNat)) rfl rfl rfl) trivial (nx _ rfl (a_ret ?_)))
    refine ⟨.inr rfl, ?_⟩
    rw [Try.results102]
    cases h
    exact ⟨_, _, _, _, _, rfl, trivial, .inl ⟨rfl, .inl rfl⟩, rfl, rfl⟩
  · have h := hy45
    refine a_block ?_
    refine a_loop (emb := fun (s : Int) => ⟨[(0, (eSi64 a0)), (3, (i6 s))], []⟩) (body := (fun s : Int => impl_row_trimmed_l1 a0 s)) (G := fun q => some q = some y44) h rfl ?_ (by kernel_rfl)
    rintro X74 x62 x75 h hX76
    have h : impl_row_trimmed_l1 a0 x62 = some x75 := h
    refine a_st (σ' := ⟨[(0, (eSi64 a0)), (3, (i6 x62))], []⟩) (by kernel_rfl) (a_seq ?_)
    obtain ⟨y81, hy82, hk83⟩ := bind_some h
    clear h
    refine a_join (emb := fun (s : Bool) => ⟨[(0, (eSi64 a0)), (3, (i6 x62)), (15, (.bool s))], []⟩) (pre := fun s => s = y81) ?_ ?_
    · rintro x80 rfl
      have h := hk83
      refine a_st (σ' := ⟨[(0, (eSi64 a0)), (3, (i6 x62)), (15, (.bool x80))], []⟩) (by kernel_rfl) ?_
      cases hb87 : x80
      · have h := ite_f hb87 h
        refine a_cond_f rfl (a_exit (t_exit ?_))
        cases h
        have h := hX76
        refine t_exit (b_exit ?_)
        exact j_leaf x62 (Option.some.inj h) (by kernel_rfl)
      · have h := ite_t hb87 h
        refine a_cond_t rfl (a_skip (a_next (σ' := ⟨[(0, (eSi64 a0)), (3, (i6 x62))], []⟩) (by kernel_rfl) (a_block (a_region (vp (i6 x62) rfl (vp (i6 (IntKind.i64.wrap (x62 - 1))) rfl (vp (i6 (IntKind.i64.wrap (x62 - 1))) rfl (a_nil (b_norm ?_)))))))))
        cases h
        exact a_again (by kernel_rfl) hX76
    · have h := hy82
      refine a_region (vp (i6 x62) rfl (vp (.bool ((decide (x62 > 0)))) rfl (vp (.bool ((decide (x62 > 0)))) rfl ?_)))
      cases hb84 : (decide (x62 > 0))
      · have h := ite_f hb84 h
        refine a_gskip rfl (a_gskip rfl (a_gskip rfl (a_gskip rfl (a_gskip rfl (a_gskip rfl (vp (.bool false) rfl (a_nil ?_)))))))
        exact j_leaf false (Option.some.inj h) (by kernel_rfl)
      · have h := ite_t hb84 h
        refine gp (eSi64 a0) rfl rfl (gp (i6 x62) rfl rfl (gp (i6 (IntKind.i64.wrap (x62 - 1))) rfl rfl ?_))
        obtain ⟨hc85, h⟩ := ifp_some h
        refine gq (.ref (.row 1 (a0.map (AV.int .i64))) [(IntKind.i64.wrap (x62 - 1)).toNat] [(IntKind.i64.wrap (x62 - 1)).toNat * 1]) rfl rfl (lmap hc85) ?_
        have hl86 : LdOk [(IntKind.i64.wrap (x62 - 1)).toNat] (.row 1 (a0.map (AV.int .i64))) [(IntKind.i64.wrap (x62 - 1)).toNat * 1] 1 false (i6 ((rd a0 (IntKind.i64.wrap (x62 - 1)).toNat))) := (.row (llt hc85) rfl (.nil rfl rfl rfl))
        refine gq (i6 ((rd a0 (IntKind.i64.wrap (x62 - 1)).toNat))) rfl (ld_ref (i := ⟨.int .i64, 1, 8, (.int .i64 0)⟩) rfl rfl hl86) hl86.c (gp (.bool ((((rd a0 (IntKind.i64.wrap (x62 - 1)).toNat)) == 0))) rfl rfl (vp (.bool ((((rd a0 (IntKind.i64.wrap (x62 - 1)).toNat)) == 0))) rfl (a_nil ?_)))
        exact j_leaf ((((rd a0 (IntKind.i64.wrap (x62 - 1)).toNat)) == 0)) (Option.some.inj h) (by kernel_rfl)
def impl_rowOf_c : ACode := (.seq (.region 0 [q 1 (.box 24 (t 0)), q 2 (.asg 1 (.const (.slice none 0 0)) 65)] false) (.seq (.region 1 [q 3 (.asg 2 (.const (.slice none 0 0)) 65)] false) (.seq (.seq (.region 2 [q 6 (.load 24 (t 1)), q 7 (.mov (.const (.int .i64 0)))] false) (.block 0 (.loop (.seq (.region 3 [q 8 (.bin .lss 3 (t 7) (.const (.int .i64 64)))] false) (.seq (.cond (t 8) .skip (.exit 0)) (.seq (.block 1 (.seq (.region 4 [q 9 (.index 24 (t 6) (t 7)), q 5 (.asg 0 (t 9) 5)] false) (.region 5 [q 10 (.mov (t 3)), q 11 (.mov (t 5)), q 12 (.conv 5 2 (t 11)), q 13 (.bslice 0 65 1 [(0, (t 12))]), q 14 (.blt 0 .append [(t 10), (t 13)] [65, 65]), q 3 (.asg 2 (t 14) 65)] false))) (.region 6 [q 15 (.bin .add 3 (t 7) (.const (.int .i64 1))), q 7 (.mov (t 15))] false))))))) (.seq (.region 7 [q 16 (.mov (t 3)), q 17 (.call 0 (.func 102) [(t 16)]), q 2 (.asg 1 (t 17) 65)] false) .ret))))
def impl_rowOf_L : Live := [(0, [0]), (1, [1]), (2, [1, 3]), (3, [3, 6, 7]), (4, [3, 6, 7]), (5, [3, 5, 6, 7]), (6, [3, 6, 7]), (7, [3]), (100008, [3, 6, 7, 8])]
noncomputable def impl_rowOf_l1 (a0 : (Vec Int 64)) (x25 : Int) (x26 : (List Int)) : Option ((Int × (List Int)) ⊕ (List Int)) :=
  (if (decide (x25 < 64)) then (ifp (0 ≤ x25 ∧ x25 < ((64 : Nat) : Int)) ((ifp ((x26.length + ([IntKind.i64.wrap (rd a0.1 x25.toNat)] : List Int).length) * 8 ≤ 140737488355328) ((some (.inl ((IntKind.i64.wrap (x25 + 1), (x26 ++ ([IntKind.i64.wrap (rd a0.1 x25.toNat)])))))))))) else (some (.inr x26)))
noncomputable def impl_rowOf (a0 : (Vec Int 64)) : Option (List Int) :=
  (Option.bind (α := (List Int)) ((loopM (fun s : (Int × (List Int)) => impl_rowOf_l1 a0 s.1 s.2) (0, []))) fun x17 => (Option.bind (impl_row_trimmed x17) fun r37 => (some r37)))
theorem impl_rowOf_ok (a0 : (Vec Int 64)) (r : (List Int)) (h : impl_rowOf a0 = some r) : Den Try.prog 52 [(eA64u8 a0)] { r := (eSi64 r) } := by
  refine den_of (rs := [(eSi64 r)]) (ac := impl_rowOf_c) (L := impl_rowOf_L) (n := 18) (m := [(2, 1), (3, 2)]) (c := Try.f52.body.getD .skip) good Try.func52 (by kernel_rfl) (by kernel_rfl) Try.ntmps52 rfl rfl (by kernel_rfl) rfl rfl ?_
  refine a_st (σ' := ⟨[(0, (eA64u8 a0))], []⟩) (by kernel_rfl) ?_
  unfold impl_rowOf_c
  refine sr (vo 1100 (eA64u8 a0) rfl rfl (vp (eSi64 ([])) rfl (nx ⟨[(1, (ow 1))], [(1, (bk (eA64u8 a0)))]⟩ (by kernel_rfl) (sr (vu (.osl 1300) [(1300, (bk (.row 1 (([]).map (AV.int .i64)))))] rfl trivial rfl (nx ⟨[(1, (ow 1)), (3, (.osl 3))], [(1, (bk (eA64u8 a0))), (3, (bk (.row 1 (([]).map (AV.int .i64)))))]⟩ (by kernel_rfl) ?_))))))
  obtain ⟨y18, hy19, hk20⟩ := bind_some h
  clear h
  refine a_join (emb := fun (s : (List Int)) => ⟨[(3, (.osl 3))], [(3, (bk (.row 1 (s.map (AV.int .i64)))))]⟩) (pre := fun s => s = y18) ?_ ?_
  · rintro x17 rfl
    have h := hk20
    refine a_st (σ' := ⟨[(3, (.osl 3))], [(3, (bk (.row 1 (x17.map (AV.int .i64)))))]⟩) (by kernel_rfl) (sr (vp (.osl 3) rfl ?_))
    obtain ⟨r37, hr38, h⟩ := bind_some h
    refine a_call (args := [(eSi64 x17)]) (u := [(3, (bf (.row 1 (x17.map (AV.int .i64)))))]) (r := (eSi64 r37)) rfl rfl (impl_row_trimmed_ok x17 r37 hr38) rfl (vp (eSi64 r37) rfl (nx _ rfl (a_ret ?_)))
    refine ⟨.inr rfl, ?_⟩
    rw [Try.results52]
    cases h
    exact ⟨_, _, _, _, _, rfl, trivial, .inl ⟨rfl, .inl rfl⟩, rfl, rfl⟩
  · have h := hy19
    refine sr (vl (eA64u8 a0) rfl rfl rfl rfl rfl rfl (vp (i6 0) rfl (nx ⟨[(3, (.osl 3)), (6, (eA64u8 a0)), (7, (i6 0))], [(3, (bk (.row 1 (([]).map (AV.int .i64)))))]⟩ (by kernel_rfl) (a_block ?_))))
    refine a_loop (emb := fun (s : (Int × (List Int))) => ⟨[(3, (.osl 3)), (6, (eA64u8 a0)), (7, (i6 s.1))], [(3, (bk (.row 1 (s.2.map (AV.int .i64)))))]⟩) (body := (fun s : (Int × (List Int)) => impl_rowOf_l1 a0 s.1 s.2)) (G := fun q => some q = some y18) h rfl ?_ (by kernel_rfl)
    rintro X30 ⟨x25, x26⟩ x31 h hX32
    have h : impl_rowOf_l1 a0 x25 x26 = some x31 := h
    refine a_st (σ' := ⟨[(3, (.osl 3)), (6, (eA64u8 a0)), (7, (i6 x25))], [(3, (bk (.row 1 (x26.map (AV.int .i64)))))]⟩) (by kernel_rfl) (sr (vp (.bool ((decide (x25 < 64)))) rfl (nx ⟨[(3, (.osl 3)), (6, (eA64u8 a0)), (7, (i6 x25)), (8, (.bool ((decide (x25 < 64)))))], [(3, (bk (.row 1 (x26.map (AV.int .i64)))))]⟩ (by kernel_rfl) (a_seq ?_))))
    cases hb33 : (decide (x25 < 64))
    · have h := ite_f hb33 h
      refine a_cond_f rfl (a_exit (t_exit ?_))
      cases h
      have h := hX32
      refine t_exit (b_exit ?_)
      exact j_leaf x26 (Option.some.inj h) (by kernel_rfl)
    · have h := ite_t hb33 h
      refine a_cond_t rfl (a_skip (a_next (σ' := ⟨[(3, (.osl 3)), (6, (eA64u8 a0)), (7, (i6 x25))], [(3, (bk (.row 1 (x26.map (AV.int .i64)))))]⟩) (by kernel_rfl) (a_seq (a_block (sr ?_)))))
      obtain ⟨hc34, h⟩ := ifp_some h
      refine vq (b8 (rd a0.1 x25.toNat)) (ix_run (i := ⟨.int .u8, 1, 1, (.int .u8 0)⟩) (f := (AV.int .u8)) rfl rfl rfl rfl (vlt a0 hc34)) ⟨hc34.1, hc34.2, rfl, rfl, rfl, rfl⟩ (vp (b8 (rd a0.1 x25.toNat)) rfl (nx ⟨[(3, (.osl 3)), (5, (b8 (rd a0.1 x25.toNat))), (6, (eA64u8 a0)), (7, (i6 x25))], [(3, (bk (.row 1 (x26.map (AV.int .i64)))))]⟩ (by kernel_rfl) (a_region (vp (.osl 3) rfl (vp (b8 (rd a0.1 x25.toNat)) rfl (vp (i6 (IntKind.i64.wrap (rd a0.1 x25.toNat))) rfl (vq (.sl 1 true (([IntKind.i64.wrap (rd a0.1 x25.toNat)]).map (AV.int .i64))) rfl ⟨(Nat.le_of_ble_eq_true rfl), (Nat.le_of_ble_eq_true rfl), (all_cons ⟨(Nat.le_of_ble_eq_true rfl), rfl⟩ all_nil)⟩ ?_)))))))
      obtain ⟨hc35, h⟩ := ifp_some h
      refine vu (.osl 2400) [(2400, (bk (.row 1 (((x26 ++ ([IntKind.i64.wrap (rd a0.1 x25.toNat)]))).map (AV.int .i64))))), (3, none)] (app_run (i := ⟨.int .i64, 1, 8, (.int .i64 0)⟩) (f := (AV.int .i64)) (l := x26) (l2 := [IntKind.i64.wrap (rd a0.1 x25.toNat)]) rfl rfl rfl rfl (fun _ => rfl) rfl rfl) (app_c (f := (AV.int .i64)) (s := 1) (sz := 1) (by' := 8) (u := []) (id := 3) hc35 (.inr rfl) rfl rfl rfl) rfl (vp (.osl 2400) rfl (a_nil (b_norm (a_next (σ' := ⟨[(3, (.osl 3)), (6, (eA64u8 a0)), (7, (i6 x25))], [(3, (bk (.row 1 (((x26 ++ ([IntKind.i64.wrap (rd a0.1 x25.toNat)]))).map (AV.int .i64)))))]⟩) (by kernel_rfl) (a_region (vp (i6 (IntKind.i64.wrap (x25 + 1))) rfl (vp (i6 (IntKind.i64.wrap (x25 + 1))) rfl (a_nil ?_))))))))
      cases h
      exact a_again (by kernel_rfl) hX32
def impl_row_degree_c : ACode := (.seq (.region 0 [q 2 (.asg 0 (.const (.int .i64 0)) 2)] false) (.seq (.region 1 [q 3 (.mov (t 0)), q 4 (.blt 0 .len [(t 3)] [65]), q 5 (.bin .sub 2 (t 4) (.const (.int .i64 1))), q 2 (.asg 0 (t 5) 2)] false) .ret))
def impl_row_degree_L : Live := [(0, [0]), (1, [0])]
noncomputable def impl_row_degree (a0 : (List Int)) : Option Int :=
  (some (IntKind.i64.wrap ((a0.length : Int) - 1)))
theorem impl_row_degree_ok (a0 : (List Int)) (r : Int) (h : impl_row_degree a0 = some r) : Den Try.prog 59 [(eSi64 a0)] { r := (i6 r) } := by
  refine den_of (rs := [(i6 r)]) (ac := impl_row_degree_c) (L := impl_row_degree_L) (n := 6) (m := []) (c := Try.f59.body.getD .skip) good Try.func59 (by kernel_rfl) (by kernel_rfl) Try.ntmps59 rfl rfl (by kernel_rfl) rfl rfl ?_
  refine a_st (σ' := ⟨[(0, (eSi64 a0))], []⟩) (by kernel_rfl) ?_
  unfold impl_row_degree_c
  refine sr (vp (i6 0) rfl (nx ⟨[(0, (eSi64 a0))], []⟩ (by kernel_rfl) (sr (vp (eSi64 a0) rfl (vq (i6 (a0.length : Int)) (len_run rfl rfl) trivial (vp (i6 (IntKind.i64.wrap ((a0.length : Int) - 1))) rfl (vp (i6 (IntKind.i64.wrap ((a0.length : Int) - 1))) rfl (nx _ rfl (a_ret ?_)))))))))
  refine ⟨.inr rfl, ?_⟩
  rw [Try.results59]
  cases h
  exact ⟨_, _, _, _, _, rfl, trivial, .inl ⟨rfl, .inl rfl⟩, rfl, rfl⟩
def impl_within_c : ACode := (.seq (.region 0 [q 6 (.asg 0 (.const (.bool false)) 4)] false) (.seq (.region 1 [q 7 (.mov (t 1)), q 8 (.mov (t 0)), q 9 (.bin .leq 2 (t 7) (t 8)), q 10 (.mov (t 9)), ⟨some 11, .mov (t 0), some (10, true), []⟩, ⟨some 12, .mov (t 2), some (10, true), []⟩, ⟨some 13, .bin .leq 2 (t 11) (t 12), some (10, true), []⟩, q 14 (.pick (t 10) (t 13) (.const (.bool false))), q 6 (.asg 0 (t 14) 4)] false) .ret))
def impl_within_L : Live := [(0, [0, 1, 2]), (1, [0, 1, 2])]
noncomputable def impl_within (a0 : Int) (a1 : Int) (a2 : Int) : Option Bool :=
  (if (decide (a1 ≤ a0)) then (some ((decide (a0 ≤ a2)))) else (some false))
theorem impl_within_ok (a0 : Int) (a1 : Int) (a2 : Int) (r : Bool) (h : impl_within a0 a1 a2 = some r) : Den Try.prog 93 [(i6 a0), (i6 a1), (i6 a2)] { r := (.bool r) } := by
  refine den_of (rs := [(.bool r)]) (ac := impl_within_c) (L := impl_within_L) (n := 15) (m := []) (c := Try.f93.body.getD .skip) good Try.func93 (by kernel_rfl) (by kernel_rfl) Try.ntmps93 rfl rfl (by kernel_rfl) rfl rfl ?_
  refine a_st (σ' := ⟨[(0, (i6 a0)), (1, (i6 a1)), (2, (i6 a2))], []⟩) (by kernel_rfl) ?_
  unfold impl_within_c
  refine sr (vp (.bool false) rfl (nx ⟨[(0, (i6 a0)), (1, (i6 a1)), (2, (i6 a2))], []⟩ (by kernel_rfl) (sr (vp (i6 a1) rfl (vp (i6 a0) rfl (vp (.bool ((decide (a1 ≤ a0)))) rfl (vp (.bool ((decide (a1 ≤ a0)))) rfl ?_)))))))
  cases hb1 : (decide (a1 ≤ a0))
  · have h := ite_f hb1 h
    refine a_gskip rfl (a_gskip rfl (a_gskip rfl (vp (.bool false) rfl (vp (.bool false) rfl (nx _ rfl (a_ret ?_))))))
    refine ⟨.inr rfl, ?_⟩
    rw [Try.results93]
    cases h
    exact ⟨_, _, _, _, _, rfl, trivial, .inl ⟨rfl, .inl rfl⟩, rfl, rfl⟩
  · have h := ite_t hb1 h
    refine gp (i6 a0) rfl rfl (gp (i6 a2) rfl rfl (gp (.bool ((decide (a0 ≤ a2)))) rfl rfl (vp (.bool ((decide (a0 ≤ a2)))) rfl (vp (.bool ((decide (a0 ≤ a2)))) rfl (nx _ rfl (a_ret ?_))))))
    refine ⟨.inr rfl, ?_⟩
    rw [Try.results93]
    cases h
    exact ⟨_, _, _, _, _, rfl, trivial, .inl ⟨rfl, .inl rfl⟩, rfl, rfl⟩
def impl_degreeCode_c : ACode := (.seq (.region 0 [q 5 (.box 24 (t 1)), q 8 (.asg 0 (.const (.int .i64 0)) 2)] false) (.seq (.seq (.region 1 [q 10 (.mov (t 0)), q 11 (.load 24 (t 5)), q 12 (.bslice 0 36 1 [(0, (t 11))]), q 13 (.call 0 (.func 100) [(t 10), (t 12)]), q 9 (.asg 0 (t 13) 2)] false) (.seq (.region 2 [q 14 (.mov (t 9)), q 15 (.bin .neq 2 (t 14) (.const (.int .i64 0)))] false) (.cond (t 15) (.seq (.region 3 [q 16 (.mov (t 9)), q 8 (.asg 0 (t 16) 2)] false) .ret) .skip))) (.seq (.seq (.region 4 [q 17 (.load 24 (t 5)), q 18 (.call 0 (.func 52) [(t 17)]), q 19 (.call 0 (.func 59) [(t 18)]), q 20 (.mov (t 2)), q 21 (.mov (t 3)), q 22 (.call 0 (.func 93) [(t 19), (t 20), (t 21)]), q 23 (.un .not (t 22))] false) (.cond (t 23) (.seq (.region 5 [q 8 (.asg 0 (.const (.int .i64 2)) 2)] false) .ret) .skip)) (.seq (.region 6 [q 8 (.asg 0 (.const (.int .i64 0)) 2)] false) .ret))))
def impl_degreeCode_L : Live := [(0, [0, 1, 2, 3]), (1, [0, 2, 3, 5]), (2, [2, 3, 5, 9]), (3, [9]), (4, [2, 3, 5]), (5, []), (6, []), (100015, [2, 3, 5, 9, 15]), (100023, [23])]
noncomputable def impl_degreeCode (a0 : Int) (a1 : (Vec Int 64)) (a2 : Int) (a3 : Int) : Option Int :=
  (Option.bind (impl_polysCode a0 ([a1])) fun r2 => (if (r2 != 0) then (some r2) else (Option.bind (impl_rowOf a1) fun r6 => (Option.bind (impl_row_degree r6) fun r8 => (Option.bind (impl_within r8 a2 a3) fun r10 => (if (!r10) then (some 2) else (some 0)))))))
theorem impl_degreeCode_ok (a0 : Int) (a1 : (Vec Int 64)) (a2 : Int) (a3 : Int) (r : Int) (h : impl_degreeCode a0 a1 a2 a3 = some r) : Den Try.prog 50 [(i6 a0), (eA64u8 a1), (i6 a2), (i6 a3)] { r := (i6 r) } := by
  refine den_of (rs := [(i6 r)]) (ac := impl_degreeCode_c) (L := impl_degreeCode_L) (n := 24) (m := []) (c := Try.f50.body.getD .skip) good Try.func50 (by kernel_rfl) (by kernel_rfl) Try.ntmps50 rfl rfl (by kernel_rfl) rfl rfl ?_
  refine a_st (σ' := ⟨[(0, (i6 a0)), (1, (eA64u8 a1)), (2, (i6 a2)), (3, (i6 a3))], []⟩) (by kernel_rfl) ?_
  unfold impl_degreeCode_c
  refine sr (vo 1500 (eA64u8 a1) rfl rfl (vp (i6 0) rfl (nx ⟨[(0, (i6 a0)), (2, (i6 a2)), (3, (i6 a3)), (5, (ow 5))], [(5, (bk (eA64u8 a1)))]⟩ (by kernel_rfl) (a_seq (sr (vp (i6 a0) rfl (vl (eA64u8 a1) rfl rfl rfl rfl rfl rfl (vq (.sl 64 true (([a1]).map eA64u8)) rfl ⟨(Nat.le_of_ble_eq_true rfl), (Nat.le_of_ble_eq_true rfl), (all_cons ⟨(Nat.le_of_ble_eq_true rfl), rfl⟩ all_nil)⟩ ?_))))))))
  obtain ⟨r2, hr3, h⟩ := bind_some h
  refine a_call (args := [(i6 a0), (.sl 64 true (([a1]).map eA64u8))]) (u := []) (r := (i6 r2)) rfl rfl (Den.args (impl_polysCode_ok a0 ([a1]) r2 hr3) rfl rfl (.cons (.refl _) (.cons (.loose _) .nil))) rfl (vp (i6 r2) rfl (nx ⟨[(2, (i6 a2)), (3, (i6 a3)), (5, (ow 5)), (9, (i6 r2))], [(5, (bk (eA64u8 a1)))]⟩ (by kernel_rfl) (sr (vp (i6 r2) rfl (vp (.bool (r2 != 0)) rfl (nx ⟨[(2, (i6 a2)), (3, (i6 a3)), (5, (ow 5)), (9, (i6 r2)), (15, (.bool (r2 != 0)))], [(5, (bk (eA64u8 a1)))]⟩ (by kernel_rfl) ?_))))))
  cases hb4 : (r2 != 0)
  · have h := ite_f hb4 h
    refine a_cond_f rfl (a_skip (a_next (σ' := ⟨[(2, (i6 a2)), (3, (i6 a3)), (5, (ow 5))], [(5, (bk (eA64u8 a1)))]⟩) (by kernel_rfl) (a_seq (sr (vl (eA64u8 a1) rfl rfl rfl rfl rfl rfl ?_)))))
    obtain ⟨r6, hr7, h⟩ := bind_some h
    refine a_call (args := [(eA64u8 a1)]) (u := []) (r := (eSi64 r6)) rfl rfl (impl_rowOf_ok a1 r6 hr7) rfl ?_
    obtain ⟨r8, hr9, h⟩ := bind_some h
    refine a_call (args := [(eSi64 r6)]) (u := []) (r := (i6 r8)) rfl rfl (impl_row_degree_ok r6 r8 hr9) rfl (vp (i6 a2) rfl (vp (i6 a3) rfl ?_))
    obtain ⟨r10, hr11, h⟩ := bind_some h
    refine a_call (args := [(i6 r8), (i6 a2), (i6 a3)]) (u := []) (r := (.bool r10)) rfl rfl (impl_within_ok r8 a2 a3 r10 hr11) rfl (vp (.bool (!r10)) rfl (nx ⟨[(23, (.bool (!r10)))], []⟩ (by kernel_rfl) ?_))
    cases hb12 : (!r10)
    · have h := ite_f hb12 h
      refine a_cond_f rfl (a_skip (a_next (σ' := ⟨[], []⟩) (by kernel_rfl) (sr (vp (i6 0) rfl (nx _ rfl (a_ret ?_))))))
      refine ⟨.inr rfl, ?_⟩
      rw [Try.results50]
      cases h
      exact ⟨_, _, _, _, _, rfl, trivial, .inl ⟨rfl, .inl rfl⟩, rfl, rfl⟩
    · have h := ite_t hb12 h
      refine a_cond_t rfl (sr (vp (i6 2) rfl (nx _ rfl (a_ret (t_ret ?_)))))
      refine ⟨.inr rfl, ?_⟩
      rw [Try.results50]
      cases h
      exact ⟨_, _, _, _, _, rfl, trivial, .inl ⟨rfl, .inl rfl⟩, rfl, rfl⟩
  · have h := ite_t hb4 h
    refine a_cond_t rfl (sr (vp (i6 r2) rfl (vp (i6 r2) rfl (nx _ rfl (a_ret (t_ret ?_))))))
    refine ⟨.inr rfl, ?_⟩
    rw [Try.results50]
    cases h
    exact ⟨_, _, _, _, _, rfl, trivial, .inl ⟨rfl, .inl rfl⟩, rfl, rfl⟩
def impl_letter_c : ACode := (.seq (.region 0 [q 0 (.asg 1 (.const (.slice none 0 0)) 65)] false) (.seq (.region 1 [q 1 (.bslice 0 65 2 [(0, (.const (.int .i64 0))), (1, (.const (.int .i64 1)))]), q 0 (.asg 1 (t 1) 65)] false) .ret))
def impl_letter_L : Live := [(0, []), (1, [])]
noncomputable def impl_letter  : Option (List Int) :=
  (some ([0, 1]))
theorem impl_letter_ok  (r : (List Int)) (h : impl_letter = some r) : Den Try.prog 107 [] { r := (eSi64 r) } := by
  refine den_of (rs := [(eSi64 r)]) (ac := impl_letter_c) (L := impl_letter_L) (n := 2) (m := [(0, 1)]) (c := Try.f107.body.getD .skip) good Try.func107 (by kernel_rfl) (by kernel_rfl) Try.ntmps107 rfl rfl (by kernel_rfl) rfl rfl ?_
  refine a_st (σ' := ⟨[], []⟩) (by kernel_rfl) ?_
  unfold impl_letter_c
  refine sr (vp (eSi64 ([])) rfl (nx ⟨[], []⟩ (by kernel_rfl) (sr (vq (.sl 1 true (([0, 1]).map (AV.int .i64))) rfl ⟨(Nat.le_of_ble_eq_true rfl), (Nat.le_of_ble_eq_true rfl), (all_cons ⟨(Nat.le_of_ble_eq_true rfl), rfl⟩ (all_cons ⟨(Nat.le_of_ble_eq_true rfl), rfl⟩ all_nil))⟩ (vq (eSi64 ([0, 1])) (asg_tight (i := ⟨.int .i64, 1, 8, (.int .i64 0)⟩) (f := (AV.int .i64)) (l := [0, 1]) rfl rfl rfl) trivial (nx _ rfl (a_ret ?_)))))))
  refine ⟨.inr rfl, ?_⟩
  rw [Try.results107]
  cases h
  exact ⟨_, _, _, _, _, rfl, trivial, .inl ⟨rfl, .inl rfl⟩, rfl, rfl⟩
def slices_Clone_impl_row_int64_fresh_c : ACode := (.seq (.region 0 [q 2 (.asg 2 (.const (.slice none 0 0)) 65)] false) (.seq (.seq (.region 1 [q 3 (.mov (t 0)), q 4 (.bin .eql 65 (t 3) (.const (.slice none 0 0)))] false) (.cond (t 4) (.seq (.region 2 [q 2 (.asg 2 (.const (.slice none 0 0)) 65)] false) .ret) .skip)) (.seq (.region 3 [q 5 (.bslice 0 65 0 []), q 6 (.mov (t 0)), q 7 (.blt 0 .append [(t 5), (t 6)] [65, 65]), q 2 (.asg 2 (t 7) 65)] false) .ret)))
def slices_Clone_impl_row_int64_fresh_L : Live := [(0, [0]), (1, [0]), (2, []), (3, [0]), (100004, [0, 4])]
noncomputable def slices_Clone_impl_row_int64_fresh (a0 : (List Int)) : Option (List Int) :=
  (ifc (a0 = [] → ((some ([]))) = ((ifp ((([] : List Int).length + a0.length) * 8 ≤ 140737488355328) ((some ((([] : List Int) ++ a0))))))) ((ifp ((([] : List Int).length + a0.length) * 8 ≤ 140737488355328) ((some ((([] : List Int) ++ a0)))))))
theorem slices_Clone_impl_row_int64_fresh_ok (a0 : (List Int)) (r : (List Int)) (h : slices_Clone_impl_row_int64_fresh a0 = some r) : Den Try.prog 152 [(eSi64 a0)] { r := (.osl 2000000), ms := [], fs := [(1, r.map (AV.int .i64))] } := by
  refine den_ofX (rs := [(.osl 2000000)]) (ac := slices_Clone_impl_row_int64_fresh_c) (L := slices_Clone_impl_row_int64_fresh_L) (n := 8) (m := [(2, 2)]) (c := Try.f152.body.getD .skip) good Try.func152 (by kernel_rfl) (by kernel_rfl) Try.ntmps152 rfl rfl (by kernel_rfl) rfl ?_
  refine a_st (σ' := ⟨[(0, (eSi64 a0))], []⟩) (by kernel_rfl) ?_
  unfold slices_Clone_impl_row_int64_fresh_c
  refine sr (vu (.osl 1200) [(1200, (bk (.row 1 (([]).map (AV.int .i64)))))] rfl trivial rfl (nx ⟨[(0, (eSi64 a0))], []⟩ (by kernel_rfl) (a_seq (sr (vp (eSi64 a0) rfl ?_)))))
  obtain ⟨hq2, h⟩ := ifc_some h
  refine a_split (v := .bool true) (v' := .bool false) rfl rfl (fun hn3 => ?_) ?_
  · have h := (hq2 (List.map_eq_nil_iff.1 hn3)).trans h
    refine nx ⟨[(0, (eSi64 a0)), (4, (.bool true))], []⟩ (by kernel_rfl) (a_cond_t rfl (sr (vu (.osl 1200) [(1200, (bk (.row 1 (([]).map (AV.int .i64)))))] rfl trivial rfl (nx _ rfl (a_ret (t_ret ?_))))))
    refine ⟨.inr rfl, ?_⟩
    rw [Try.results152]
    cases h
    exact ⟨[some 1200], ⟨_, _, _, _, _, rfl, trivial, rfl, .inr (.inl ⟨_, _, _, _, _, rfl, rfl, rfl, rfl, rfl, ⟨rfl, rfl, rfl⟩⟩)⟩, rfl, rfl⟩
  · skip
    refine nx ⟨[(0, (eSi64 a0)), (4, (.bool false))], []⟩ (by kernel_rfl) (a_cond_f rfl (a_skip (a_next (σ' := ⟨[(0, (eSi64 a0))], []⟩) (by kernel_rfl) (sr (vq (.sl 1 true (([]).map (AV.int .i64))) rfl ⟨(Nat.le_of_ble_eq_true rfl), (Nat.le_of_ble_eq_true rfl), all_nil⟩ (vp (eSi64 a0) rfl ?_))))))
    obtain ⟨hc1, h⟩ := ifp_some h
    refine vu (.osl 1700) [(1700, (bk (.row 1 (((([] : List Int) ++ a0)).map (AV.int .i64)))))] (appt_run (i := ⟨.int .i64, 1, 8, (.int .i64 0)⟩) (f := (AV.int .i64)) (l := []) (l2 := a0) rfl rfl rfl rfl (fun _ => rfl) rfl) (appt_c (f := (AV.int .i64)) (s := 1) (sz := 1) (sz' := 1) (by' := 8) hc1 (.inl rfl) (.inl rfl) (.inr rfl) rfl rfl) rfl (vp (.osl 1700) rfl (nx _ rfl (a_ret ?_)))
    refine ⟨.inr rfl, ?_⟩
    rw [Try.results152]
    cases h
    exact ⟨[some 1700], ⟨_, _, _, _, _, rfl, trivial, rfl, .inr (.inl ⟨_, _, _, _, _, rfl, rfl, rfl, rfl, rfl, ⟨rfl, rfl, rfl⟩⟩)⟩, rfl, rfl⟩
end Go.Proofs.Ytcgohoclbjgmkaa
