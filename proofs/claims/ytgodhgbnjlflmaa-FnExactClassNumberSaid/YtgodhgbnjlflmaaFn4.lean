/- Functions of the program: plain Lean functions, and that the program computes them. Printed by gen.py. -/
import Derived.Test.YtgodhgbnjlflmaaFnT
import Derived.Test.YtgodhgbnjlflmaaFn3
namespace Go.Proofs.Ytgodhgbnjlflmaa
open Go.Abs Go.Proofs
set_option linter.unusedSimpArgs false
set_option linter.unusedVariables false
attribute [local irreducible] Abs.acode Abs.aops Abs.aopsT Abs.thenK Abs.blockK

def spec_l07All_c : ACode := (.seq (.region 0 [⟨some 3, .box 23 (.tmp 1), none, []⟩, ⟨some 4, .asg 1 (.const (.slice none 0 0)) 106, none, []⟩] false) (.seq (.region 1 [⟨some 11, .bslice 2 106 0 [], none, []⟩, ⟨some 5, .asg 2 (.tmp 11) 106, none, []⟩] false) (.seq (.seq (.region 2 [⟨some 6, .asg 0 (.const (.int .i64 0)) 2, none, []⟩] false) (.block 0 (.loop (.seq (.seq (.region 3 [⟨some 12, .mov (.tmp 6), none, []⟩, ⟨some 13, .load 23 (.tmp 3), none, []⟩, ⟨some 14, .call 0 (.func 127) [(.tmp 13)], none, []⟩, ⟨some 15, .bin .leq 2 (.tmp 12) (.tmp 14), none, []⟩] false) (.cond (.tmp 15) .skip (.exit 0))) (.seq (.block 1 (.seq (.region 5 [⟨some 7, .asg 0 (.const (.int .i64 0)) 2, none, []⟩] false) (.block 2 (.loop (.seq (.seq (.region 6 [⟨some 18, .mov (.tmp 7), none, []⟩, ⟨some 19, .mov (.tmp 0), none, []⟩, ⟨some 20, .mov (.tmp 6), none, []⟩, ⟨some 21, .call 0 (.func 75) [(.tmp 19), (.tmp 20)], none, []⟩, ⟨some 22, .bin .lss 2 (.tmp 18) (.tmp 21), none, []⟩] false) (.cond (.tmp 22) .skip (.exit 2))) (.seq (.block 3 (.seq (.region 8 [⟨some 25, .mov (.tmp 0), none, []⟩, ⟨some 26, .mov (.tmp 7), none, []⟩, ⟨some 27, .call 0 (.func 95) [(.tmp 25), (.tmp 26)], none, []⟩, ⟨some 8, .alloc 23, none, []⟩, ⟨none, .store 23 (.tmp 8) (.tmp 27), none, []⟩] false) (.seq (.region 9 [⟨some 28, .mov (.tmp 6), none, []⟩, ⟨some 29, .indexAddr 23 (.tmp 8) (.tmp 28), none, []⟩, ⟨none, .store 5 (.tmp 29) (.const (.int .u8 1)), none, []⟩] false) (.seq (.region 10 [⟨some 9, .asg 0 (.const (.int .i64 0)) 2, none, []⟩] false) (.block 4 (.loop (.seq (.seq (.region 11 [⟨some 30, .mov (.tmp 9), none, []⟩, ⟨some 31, .mov (.tmp 0), none, []⟩, ⟨some 32, .mov (.tmp 6), none, []⟩, ⟨some 33, .call 0 (.func 75) [(.tmp 31), (.tmp 32)], none, []⟩, ⟨some 34, .bin .lss 2 (.tmp 30) (.tmp 33), none, []⟩] false) (.cond (.tmp 34) .skip (.exit 4))) (.seq (.block 5 (.seq (.region 13 [⟨some 37, .load 23 (.tmp 8), none, []⟩, ⟨some 38, .mov (.tmp 0), none, []⟩, ⟨some 39, .mov (.tmp 9), none, []⟩, ⟨some 40, .call 0 (.func 95) [(.tmp 38), (.tmp 39)], none, [1, 2]⟩, ⟨some 41, .build 124 [(0, (.tmp 37)), (1, (.tmp 40))], none, [0, 3]⟩, ⟨some 10, .alloc 124, none, []⟩, ⟨none, .store 124 (.tmp 10) (.tmp 41), none, [5, 4, 3, 0, 1, 2, 3, 4, 5]⟩] true) (.seq (.region 14 [⟨some 42, .mov (.tmp 0), none, []⟩, ⟨some 43, .load 23 (.tmp 3), none, []⟩, ⟨some 44, .load 124 (.tmp 10), none, []⟩, ⟨some 45, .call 0 (.func 128) [(.tmp 42), (.tmp 43), (.tmp 44)], none, []⟩] false) (.cond (.tmp 45) (.region 15 [⟨some 46, .mov (.tmp 5), none, []⟩, ⟨some 47, .load 124 (.tmp 10), none, []⟩, ⟨some 48, .bslice 0 106 1 [(0, (.tmp 47))], none, []⟩, ⟨some 49, .blt 0 .append [(.tmp 46), (.tmp 48)] [106, 106], none, []⟩, ⟨some 5, .asg 2 (.tmp 49) 106, none, []⟩] false) .skip)))) (.region 12 [⟨some 35, .mov (.tmp 9), none, []⟩, ⟨some 36, .bin .add 2 (.tmp 35) (.const (.int .i64 1)), none, []⟩, ⟨some 9, .asg 0 (.tmp 36) 2, none, []⟩] false))))))))) (.region 7 [⟨some 23, .mov (.tmp 7), none, []⟩, ⟨some 24, .bin .add 2 (.tmp 23) (.const (.int .i64 1)), none, []⟩, ⟨some 7, .asg 0 (.tmp 24) 2, none, []⟩] false))))))) (.region 4 [⟨some 16, .mov (.tmp 6), none, []⟩, ⟨some 17, .bin .add 2 (.tmp 16) (.const (.int .i64 1)), none, []⟩, ⟨some 6, .asg 0 (.tmp 17) 2, none, []⟩] false)))))) (.seq (.region 16 [⟨some 50, .mov (.tmp 5), none, []⟩, ⟨some 4, .asg 1 (.tmp 50) 106, none, []⟩] false) .ret))))
def spec_l07All_L : Live := [(0, [0, 1]), (1, [0, 3]), (2, [0, 3, 5]), (3, [0, 3, 5, 6]), (4, [0, 3, 5, 6]), (5, [0, 3, 5, 6]), (6, [0, 3, 5, 6, 7]), (7, [0, 3, 5, 6, 7]), (8, [0, 3, 5, 6, 7]), (9, [0, 3, 5, 6, 7, 8]), (10, [0, 3, 5, 6, 7, 8]), (11, [0, 3, 5, 6, 7, 8, 9]), (12, [0, 3, 5, 6, 7, 8, 9]), (13, [0, 3, 5, 6, 7, 8, 9]), (14, [0, 3, 5, 6, 7, 8, 9, 10]), (15, [0, 3, 5, 6, 7, 8, 9, 10]), (16, [5]), (100015, [0, 3, 5, 6, 15]), (100022, [0, 3, 5, 6, 7, 22]), (100034, [0, 3, 5, 6, 7, 8, 9, 34]), (100045, [0, 3, 5, 6, 7, 8, 9, 10, 45])]
theorem spec_l07All_body : Try.f103.body = some (Try.f103.body.getD .skip) := by kernel_rfl
theorem spec_l07All_strip : strip [(4, 1), (5, 2), (11, 2)] (Try.f103.body.getD .skip) = spec_l07All_c := by kernel_rfl
noncomputable def spec_l07All_l3 (a0 : Int) (x6115 : Int) (a1 : (Vec Int 64)) (r9049 : (Vec Int 64)) (x9091 : Int) (x9092 : (List ((Vec Int 64) × (Vec Int 64)))) : Option ((Int × (List ((Vec Int 64) × (Vec Int 64)))) ⊕ (List ((Vec Int 64) × (Vec Int 64)))) :=
  (Option.bind (spec_l01Count a0 x6115) fun r9133 => (if (decide (x9091 < r9133)) then (Option.bind (α := (List ((Vec Int 64) × (Vec Int 64)))) ((Option.bind (spec_l01Of a0 x9091) fun r9160 => (Option.bind (spec_l07Form a0 a1 (((vset r9049 x6115.toNat 1), r9160))) fun r9165 => (if r9165 then (ifp ((x9092.length + ([((vset r9049 x6115.toNat 1), r9160)] : List ((Vec Int 64) × (Vec Int 64))).length) * 128 ≤ 140737488355328) ((some ((x9092 ++ ([((vset r9049 x6115.toNat 1), r9160)])))))) else (some x9092))))) fun x9151 => (some (.inl ((IntKind.i64.wrap (x9091 + 1), x9151))))) else (some (.inr x9092))))
noncomputable def spec_l07All_l2 (a0 : Int) (x6115 : Int) (a1 : (Vec Int 64)) (x8664 : Int) (x8665 : (List ((Vec Int 64) × (Vec Int 64)))) : Option ((Int × (List ((Vec Int 64) × (Vec Int 64)))) ⊕ (List ((Vec Int 64) × (Vec Int 64)))) :=
  (Option.bind (spec_l01Count a0 x6115) fun r8920 => (if (decide (x8664 < r8920)) then (Option.bind (α := (List ((Vec Int 64) × (Vec Int 64)))) ((Option.bind (spec_l01Of a0 x8664) fun r9049 => (ifp (0 ≤ x6115 ∧ x6115 < ((64 : Nat) : Int)) ((loopM (fun s : (Int × (List ((Vec Int 64) × (Vec Int 64)))) => spec_l07All_l3 a0 x6115 a1 r9049 s.1 s.2) (0, x8665)))))) fun x9045 => (some (.inl ((IntKind.i64.wrap (x8664 + 1), x9045))))) else (some (.inr x8665))))
noncomputable def spec_l07All_l1 (a1 : (Vec Int 64)) (a0 : Int) (x6115 : Int) (x6116 : (List ((Vec Int 64) × (Vec Int 64)))) : Option ((Int × (List ((Vec Int 64) × (Vec Int 64)))) ⊕ (List ((Vec Int 64) × (Vec Int 64)))) :=
  (Option.bind (spec_l07Genus a1) fun r7647 => (if (decide (x6115 ≤ r7647)) then (Option.bind (α := (List ((Vec Int 64) × (Vec Int 64)))) ((loopM (fun s : (Int × (List ((Vec Int 64) × (Vec Int 64)))) => spec_l07All_l2 a0 x6115 a1 s.1 s.2) (0, x6116))) fun x8409 => (some (.inl ((IntKind.i64.wrap (x6115 + 1), x8409))))) else (some (.inr x6116))))
noncomputable def spec_l07All (a0 : Int) (a1 : (Vec Int 64)) : Option (List ((Vec Int 64) × (Vec Int 64))) :=
  (Option.bind (α := (List ((Vec Int 64) × (Vec Int 64)))) ((loopM (fun s : (Int × (List ((Vec Int 64) × (Vec Int 64)))) => spec_l07All_l1 a1 a0 s.1 s.2) (0, []))) fun x4585 => (some x4585))
set_option maxHeartbeats 16000000 in
theorem spec_l07All_ok (a0 : Int) (a1 : (Vec Int 64)) (r : (List ((Vec Int 64) × (Vec Int 64)))) (h : spec_l07All a0 a1 = some r) : Den Try.prog 103 [(.int .i64 a0), (eA64u8 a1)] { r := (eST_A64u8_A64u8_Z r) } := by
  refine den_of (rs := [(eST_A64u8_A64u8_Z r)]) (ac := spec_l07All_c) (L := spec_l07All_L) (n := 51) (m := [(4, 1), (5, 2), (11, 2)]) good Try.func103 spec_l07All_body (by kernel_rfl) Try.ntmps103 rfl rfl spec_l07All_strip rfl rfl ?_
  refine a_st (σ' := ⟨[(0, (.int .i64 a0)), (1, (eA64u8 a1))], []⟩) (by kernel_rfl) ?_
  unfold spec_l07All_c
  refine a_seq ?_
  refine a_region ?_
  refine a_val (v := (.own 1300 [] [])) (u := [(1300, some ⟨(eA64u8 a1), false⟩)]) rfl trivial rfl ?_
  refine a_val (v := (eST_A64u8_A64u8_Z ([]))) (u := []) rfl trivial rfl ?_
  refine a_nil ?_
  refine a_next (σ' := ⟨[(0, (.int .i64 a0)), (3, (.own 3 [] []))], [(3, some ⟨(eA64u8 a1), false⟩)]⟩) (by kernel_rfl) ?_
  refine a_seq ?_
  refine a_region ?_
  refine a_val (v := (.osl 2100)) (u := [(2100, some ⟨(.row 128 (([]).map eT_A64u8_A64u8_Z)), false⟩)]) rfl ⟨(Nat.le_of_ble_eq_true rfl), (Nat.le_of_ble_eq_true rfl), all_nil⟩ rfl ?_
  refine a_val (v := (.osl 2100)) (u := []) rfl trivial rfl ?_
  refine a_nil ?_
  refine a_next (σ' := ⟨[(0, (.int .i64 a0)), (3, (.own 3 [] [])), (5, (.osl 5))], [(3, some ⟨(eA64u8 a1), false⟩), (5, some ⟨(.row 128 (([]).map eT_A64u8_A64u8_Z)), false⟩)]⟩) (by kernel_rfl) ?_
  obtain ⟨y4586, hy4587, hk4588⟩ := bind_some h
  clear h
  refine a_join (emb := fun (s : (List ((Vec Int 64) × (Vec Int 64)))) => ⟨[(5, (.osl 5))], [(5, some ⟨(.row 128 (s.map eT_A64u8_A64u8_Z)), false⟩)]⟩) (pre := fun s => s = y4586) ?_ ?_
  · rintro x4585 rfl
    have h := hk4588
    refine a_st (σ' := ⟨[(5, (.osl 5))], [(5, some ⟨(.row 128 (x4585.map eT_A64u8_A64u8_Z)), false⟩)]⟩) (by kernel_rfl) ?_
    refine a_seq ?_
    refine a_region ?_
    refine a_val (v := (.osl 5)) (u := []) rfl trivial rfl ?_
    refine a_val (v := (eST_A64u8_A64u8_Z x4585)) (u := [(5, some ⟨(.row 128 (x4585.map eT_A64u8_A64u8_Z)), true⟩)]) rfl trivial rfl ?_
    refine a_nil ?_
    refine a_next rfl ?_
    refine a_ret ?_
    refine ⟨.inr rfl, ?_⟩
    rw [Try.results103]
    cases h
    exact ⟨_, _, _, _, _, rfl, trivial, .inl ⟨rfl, .inl rfl⟩, rfl, rfl⟩
  · have h := hy4587
    refine a_seq ?_
    refine a_region ?_
    refine a_val (v := (.int .i64 0)) (u := []) rfl trivial rfl ?_
    refine a_nil ?_
    refine a_next (σ' := ⟨[(0, (.int .i64 a0)), (3, (.own 3 [] [])), (5, (.osl 5)), (6, (.int .i64 0))], [(3, some ⟨(eA64u8 a1), false⟩), (5, some ⟨(.row 128 (([]).map eT_A64u8_A64u8_Z)), false⟩)]⟩) (by kernel_rfl) ?_
    refine a_block ?_
    refine a_loop (emb := fun (s : (Int × (List ((Vec Int 64) × (Vec Int 64))))) => ⟨[(0, (.int .i64 a0)), (3, (.own 3 [] [])), (5, (.osl 5)), (6, (.int .i64 s.1))], [(3, some ⟨(eA64u8 a1), false⟩), (5, some ⟨(.row 128 (s.2.map eT_A64u8_A64u8_Z)), false⟩)]⟩) (body := (fun s : (Int × (List ((Vec Int 64) × (Vec Int 64)))) => spec_l07All_l1 a1 a0 s.1 s.2)) (G := fun q => some q = some y4586) h rfl ?_ (by kernel_rfl)
    rintro X7643 ⟨x6115, x6116⟩ x7644 h hX7645
    have h : spec_l07All_l1 a1 a0 x6115 x6116 = some x7644 := h
    refine a_st (σ' := ⟨[(0, (.int .i64 a0)), (3, (.own 3 [] [])), (5, (.osl 5)), (6, (.int .i64 x6115))], [(3, some ⟨(eA64u8 a1), false⟩), (5, some ⟨(.row 128 (x6116.map eT_A64u8_A64u8_Z)), false⟩)]⟩) (by kernel_rfl) ?_
    refine a_seq ?_
    refine a_seq ?_
    refine a_region ?_
    refine a_val (v := (.int .i64 x6115)) (u := []) rfl trivial rfl ?_
    have hl7646 : LdOk [] (eA64u8 a1) [] 64 true (eA64u8 a1) := (.nil rfl rfl rfl)
    refine a_val (v := (eA64u8 a1)) (u := []) (ld_own (i := ⟨.arr 64 5, 64, 64, (eA64u8 (vrep 64 (0 : Int)))⟩) rfl rfl rfl hl7646) hl7646.c rfl ?_
    obtain ⟨r7647, hr7648, h⟩ := bind_some h
    refine a_call (args := [(eA64u8 a1)]) (u := []) (r := (.int .i64 r7647)) rfl rfl (spec_l07Genus_ok a1 r7647 hr7648) rfl ?_
    refine a_val (v := (.bool ((decide (x6115 ≤ r7647))))) (u := []) rfl trivial rfl ?_
    refine a_nil ?_
    refine a_next (σ' := ⟨[(0, (.int .i64 a0)), (3, (.own 3 [] [])), (5, (.osl 5)), (6, (.int .i64 x6115)), (15, (.bool ((decide (x6115 ≤ r7647)))))], [(3, some ⟨(eA64u8 a1), false⟩), (5, some ⟨(.row 128 (x6116.map eT_A64u8_A64u8_Z)), false⟩)]⟩) (by kernel_rfl) ?_
    cases hb7649 : (decide (x6115 ≤ r7647))
    · have h := ite_f hb7649 h
      refine a_cond_f rfl ?_
      refine a_exit ?_
      refine t_exit ?_
      cases h
      have h := hX7645
      refine t_exit ?_
      refine b_exit ?_
      exact j_leaf x6116 (Option.some.inj h) (by kernel_rfl)
    · have h := ite_t hb7649 h
      refine a_cond_t rfl ?_
      refine a_skip ?_
      refine a_next (σ' := ⟨[(0, (.int .i64 a0)), (3, (.own 3 [] [])), (5, (.osl 5)), (6, (.int .i64 x6115))], [(3, some ⟨(eA64u8 a1), false⟩), (5, some ⟨(.row 128 (x6116.map eT_A64u8_A64u8_Z)), false⟩)]⟩) (by kernel_rfl) ?_
      obtain ⟨y8410, hy8411, hk8412⟩ := bind_some h
      clear h
      refine a_join (emb := fun (s : (List ((Vec Int 64) × (Vec Int 64)))) => ⟨[(0, (.int .i64 a0)), (3, (.own 3 [] [])), (5, (.osl 5)), (6, (.int .i64 x6115))], [(3, some ⟨(eA64u8 a1), false⟩), (5, some ⟨(.row 128 (s.map eT_A64u8_A64u8_Z)), false⟩)]⟩) (pre := fun s => s = y8410) ?_ ?_
      · rintro x8409 rfl
        have h := hk8412
        refine a_st (σ' := ⟨[(0, (.int .i64 a0)), (3, (.own 3 [] [])), (5, (.osl 5)), (6, (.int .i64 x6115))], [(3, some ⟨(eA64u8 a1), false⟩), (5, some ⟨(.row 128 (x8409.map eT_A64u8_A64u8_Z)), false⟩)]⟩) (by kernel_rfl) ?_
        refine a_region ?_
        refine a_val (v := (.int .i64 x6115)) (u := []) rfl trivial rfl ?_
        refine a_val (v := (.int .i64 (IntKind.i64.wrap (x6115 + 1)))) (u := []) rfl trivial rfl ?_
        refine a_val (v := (.int .i64 (IntKind.i64.wrap (x6115 + 1)))) (u := []) rfl trivial rfl ?_
        refine a_nil ?_
        cases h
        exact a_again (by kernel_rfl) hX7645
      · have h := hy8411
        refine a_block ?_
        refine a_seq ?_
        refine a_region ?_
        refine a_val (v := (.int .i64 0)) (u := []) rfl trivial rfl ?_
        refine a_nil ?_
        refine a_next (σ' := ⟨[(0, (.int .i64 a0)), (3, (.own 3 [] [])), (5, (.osl 5)), (6, (.int .i64 x6115)), (7, (.int .i64 0))], [(3, some ⟨(eA64u8 a1), false⟩), (5, some ⟨(.row 128 (x6116.map eT_A64u8_A64u8_Z)), false⟩)]⟩) (by kernel_rfl) ?_
        refine a_block ?_
        refine a_loop (emb := fun (s : (Int × (List ((Vec Int 64) × (Vec Int 64))))) => ⟨[(0, (.int .i64 a0)), (3, (.own 3 [] [])), (5, (.osl 5)), (6, (.int .i64 x6115)), (7, (.int .i64 s.1))], [(3, some ⟨(eA64u8 a1), false⟩), (5, some ⟨(.row 128 (s.2.map eT_A64u8_A64u8_Z)), false⟩)]⟩) (body := (fun s : (Int × (List ((Vec Int 64) × (Vec Int 64)))) => spec_l07All_l2 a0 x6115 a1 s.1 s.2)) (G := fun q => some q = some y8410) h rfl ?_ (by kernel_rfl)
        rintro X8917 ⟨x8664, x8665⟩ x8918 h hX8919
        have h : spec_l07All_l2 a0 x6115 a1 x8664 x8665 = some x8918 := h
        refine a_st (σ' := ⟨[(0, (.int .i64 a0)), (3, (.own 3 [] [])), (5, (.osl 5)), (6, (.int .i64 x6115)), (7, (.int .i64 x8664))], [(3, some ⟨(eA64u8 a1), false⟩), (5, some ⟨(.row 128 (x8665.map eT_A64u8_A64u8_Z)), false⟩)]⟩) (by kernel_rfl) ?_
        refine a_seq ?_
        refine a_seq ?_
        refine a_region ?_
        refine a_val (v := (.int .i64 x8664)) (u := []) rfl trivial rfl ?_
        refine a_val (v := (.int .i64 a0)) (u := []) rfl trivial rfl ?_
        refine a_val (v := (.int .i64 x6115)) (u := []) rfl trivial rfl ?_
        obtain ⟨r8920, hr8921, h⟩ := bind_some h
        refine a_call (args := [(.int .i64 a0), (.int .i64 x6115)]) (u := []) (r := (.int .i64 r8920)) rfl rfl (spec_l01Count_ok a0 x6115 r8920 hr8921) rfl ?_
        refine a_val (v := (.bool ((decide (x8664 < r8920))))) (u := []) rfl trivial rfl ?_
        refine a_nil ?_
        refine a_next (σ' := ⟨[(0, (.int .i64 a0)), (3, (.own 3 [] [])), (5, (.osl 5)), (6, (.int .i64 x6115)), (7, (.int .i64 x8664)), (22, (.bool ((decide (x8664 < r8920)))))], [(3, some ⟨(eA64u8 a1), false⟩), (5, some ⟨(.row 128 (x8665.map eT_A64u8_A64u8_Z)), false⟩)]⟩) (by kernel_rfl) ?_
        cases hb8922 : (decide (x8664 < r8920))
        · have h := ite_f hb8922 h
          refine a_cond_f rfl ?_
          refine a_exit ?_
          refine t_exit ?_
          cases h
          have h := hX8919
          refine t_exit ?_
          refine b_exit ?_
          refine b_norm ?_
          exact j_leaf x8665 (Option.some.inj h) (by kernel_rfl)
        · have h := ite_t hb8922 h
          refine a_cond_t rfl ?_
          refine a_skip ?_
          refine a_next (σ' := ⟨[(0, (.int .i64 a0)), (3, (.own 3 [] [])), (5, (.osl 5)), (6, (.int .i64 x6115)), (7, (.int .i64 x8664))], [(3, some ⟨(eA64u8 a1), false⟩), (5, some ⟨(.row 128 (x8665.map eT_A64u8_A64u8_Z)), false⟩)]⟩) (by kernel_rfl) ?_
          obtain ⟨y9046, hy9047, hk9048⟩ := bind_some h
          clear h
          refine a_join (emb := fun (s : (List ((Vec Int 64) × (Vec Int 64)))) => ⟨[(0, (.int .i64 a0)), (3, (.own 3 [] [])), (5, (.osl 5)), (6, (.int .i64 x6115)), (7, (.int .i64 x8664))], [(3, some ⟨(eA64u8 a1), false⟩), (5, some ⟨(.row 128 (s.map eT_A64u8_A64u8_Z)), false⟩)]⟩) (pre := fun s => s = y9046) ?_ ?_
          · rintro x9045 rfl
            have h := hk9048
            refine a_st (σ' := ⟨[(0, (.int .i64 a0)), (3, (.own 3 [] [])), (5, (.osl 5)), (6, (.int .i64 x6115)), (7, (.int .i64 x8664))], [(3, some ⟨(eA64u8 a1), false⟩), (5, some ⟨(.row 128 (x9045.map eT_A64u8_A64u8_Z)), false⟩)]⟩) (by kernel_rfl) ?_
            refine a_region ?_
            refine a_val (v := (.int .i64 x8664)) (u := []) rfl trivial rfl ?_
            refine a_val (v := (.int .i64 (IntKind.i64.wrap (x8664 + 1)))) (u := []) rfl trivial rfl ?_
            refine a_val (v := (.int .i64 (IntKind.i64.wrap (x8664 + 1)))) (u := []) rfl trivial rfl ?_
            refine a_nil ?_
            cases h
            exact a_again (by kernel_rfl) hX8919
          · have h := hy9047
            refine a_block ?_
            refine a_seq ?_
            refine a_region ?_
            refine a_val (v := (.int .i64 a0)) (u := []) rfl trivial rfl ?_
            refine a_val (v := (.int .i64 x8664)) (u := []) rfl trivial rfl ?_
            obtain ⟨r9049, hr9050, h⟩ := bind_some h
            refine a_call (args := [(.int .i64 a0), (.int .i64 x8664)]) (u := []) (r := (eA64u8 r9049)) rfl rfl (spec_l01Of_ok a0 x8664 r9049 hr9050) rfl ?_
            refine a_val (v := (.own 1800 [] [])) (u := [(1800, some ⟨(eA64u8 ((vrep 64 (0 : Int)))), false⟩)]) rfl trivial rfl ?_
            have hs9051 : StOk [] (eA64u8 ((vrep 64 (0 : Int)))) [] 64 (eA64u8 r9049) (eA64u8 r9049) := (.nil rfl rfl rfl rfl)
            refine a_val (v := .top) (u := [(1800, some ⟨(eA64u8 r9049), false⟩)]) (st_own (i := ⟨.arr 64 5, 64, 64, (eA64u8 (vrep 64 (0 : Int)))⟩) rfl rfl (fun _ => rfl) rfl hs9051) (hs9051.c rfl) rfl ?_
            refine a_nil ?_
            refine a_next (σ' := ⟨[(0, (.int .i64 a0)), (3, (.own 3 [] [])), (5, (.osl 5)), (6, (.int .i64 x6115)), (7, (.int .i64 x8664)), (8, (.own 8 [] []))], [(3, some ⟨(eA64u8 a1), false⟩), (5, some ⟨(.row 128 (x8665.map eT_A64u8_A64u8_Z)), false⟩), (8, some ⟨(eA64u8 r9049), false⟩)]⟩) (by kernel_rfl) ?_
            refine a_seq ?_
            refine a_region ?_
            refine a_val (v := (.int .i64 x6115)) (u := []) rfl trivial rfl ?_
            obtain ⟨hc9052, h⟩ := ifp_some h
            refine a_val (v := (.own 8 [x6115.toNat] [x6115.toNat * 1])) (u := []) rfl hc9052 rfl ?_
            have hs9053 : StOk [x6115.toNat] (eA64u8 r9049) [x6115.toNat * 1] 1 (.int .u8 1) (eA64u8 (vset r9049 x6115.toNat 1)) := (.arr (y := 1) (vlt r9049 hc9052) rfl (.nil rfl rfl rfl rfl))
            refine a_val (v := .top) (u := [(8, some ⟨(eA64u8 (vset r9049 x6115.toNat 1)), false⟩)]) (st_own (i := ⟨.int .u8, 1, 1, (.int .u8 0)⟩) rfl rfl (fun _ => rfl) rfl hs9053) (hs9053.c rfl) rfl ?_
            refine a_nil ?_
            refine a_next (σ' := ⟨[(0, (.int .i64 a0)), (3, (.own 3 [] [])), (5, (.osl 5)), (6, (.int .i64 x6115)), (7, (.int .i64 x8664)), (8, (.own 8 [] []))], [(3, some ⟨(eA64u8 a1), false⟩), (5, some ⟨(.row 128 (x8665.map eT_A64u8_A64u8_Z)), false⟩), (8, some ⟨(eA64u8 (vset r9049 x6115.toNat 1)), false⟩)]⟩) (by kernel_rfl) ?_
            refine a_seq ?_
            refine a_region ?_
            refine a_val (v := (.int .i64 0)) (u := []) rfl trivial rfl ?_
            refine a_nil ?_
            refine a_next (σ' := ⟨[(0, (.int .i64 a0)), (3, (.own 3 [] [])), (5, (.osl 5)), (6, (.int .i64 x6115)), (7, (.int .i64 x8664)), (8, (.own 8 [] [])), (9, (.int .i64 0))], [(3, some ⟨(eA64u8 a1), false⟩), (5, some ⟨(.row 128 (x8665.map eT_A64u8_A64u8_Z)), false⟩), (8, some ⟨(eA64u8 (vset r9049 x6115.toNat 1)), false⟩)]⟩) (by kernel_rfl) ?_
            refine a_block ?_
            refine a_loop (emb := fun (s : (Int × (List ((Vec Int 64) × (Vec Int 64))))) => ⟨[(0, (.int .i64 a0)), (3, (.own 3 [] [])), (5, (.osl 5)), (6, (.int .i64 x6115)), (7, (.int .i64 x8664)), (8, (.own 8 [] [])), (9, (.int .i64 s.1))], [(3, some ⟨(eA64u8 a1), false⟩), (5, some ⟨(.row 128 (s.2.map eT_A64u8_A64u8_Z)), false⟩), (8, some ⟨(eA64u8 (vset r9049 x6115.toNat 1)), false⟩)]⟩) (body := (fun s : (Int × (List ((Vec Int 64) × (Vec Int 64)))) => spec_l07All_l3 a0 x6115 a1 r9049 s.1 s.2)) (G := fun q => some q = some y9046) h rfl ?_ (by kernel_rfl)
            rintro X9130 ⟨x9091, x9092⟩ x9131 h hX9132
            have h : spec_l07All_l3 a0 x6115 a1 r9049 x9091 x9092 = some x9131 := h
            refine a_st (σ' := ⟨[(0, (.int .i64 a0)), (3, (.own 3 [] [])), (5, (.osl 5)), (6, (.int .i64 x6115)), (7, (.int .i64 x8664)), (8, (.own 8 [] [])), (9, (.int .i64 x9091))], [(3, some ⟨(eA64u8 a1), false⟩), (5, some ⟨(.row 128 (x9092.map eT_A64u8_A64u8_Z)), false⟩), (8, some ⟨(eA64u8 (vset r9049 x6115.toNat 1)), false⟩)]⟩) (by kernel_rfl) ?_
            refine a_seq ?_
            refine a_seq ?_
            refine a_region ?_
            refine a_val (v := (.int .i64 x9091)) (u := []) rfl trivial rfl ?_
            refine a_val (v := (.int .i64 a0)) (u := []) rfl trivial rfl ?_
            refine a_val (v := (.int .i64 x6115)) (u := []) rfl trivial rfl ?_
            obtain ⟨r9133, hr9134, h⟩ := bind_some h
            refine a_call (args := [(.int .i64 a0), (.int .i64 x6115)]) (u := []) (r := (.int .i64 r9133)) rfl rfl (spec_l01Count_ok a0 x6115 r9133 hr9134) rfl ?_
            refine a_val (v := (.bool ((decide (x9091 < r9133))))) (u := []) rfl trivial rfl ?_
            refine a_nil ?_
            refine a_next (σ' := ⟨[(0, (.int .i64 a0)), (3, (.own 3 [] [])), (5, (.osl 5)), (6, (.int .i64 x6115)), (7, (.int .i64 x8664)), (8, (.own 8 [] [])), (9, (.int .i64 x9091)), (34, (.bool ((decide (x9091 < r9133)))))], [(3, some ⟨(eA64u8 a1), false⟩), (5, some ⟨(.row 128 (x9092.map eT_A64u8_A64u8_Z)), false⟩), (8, some ⟨(eA64u8 (vset r9049 x6115.toNat 1)), false⟩)]⟩) (by kernel_rfl) ?_
            cases hb9135 : (decide (x9091 < r9133))
            · have h := ite_f hb9135 h
              refine a_cond_f rfl ?_
              refine a_exit ?_
              refine t_exit ?_
              cases h
              have h := hX9132
              refine t_exit ?_
              refine b_exit ?_
              refine b_norm ?_
              exact j_leaf x9092 (Option.some.inj h) (by kernel_rfl)
            · have h := ite_t hb9135 h
              refine a_cond_t rfl ?_
              refine a_skip ?_
              refine a_next (σ' := ⟨[(0, (.int .i64 a0)), (3, (.own 3 [] [])), (5, (.osl 5)), (6, (.int .i64 x6115)), (7, (.int .i64 x8664)), (8, (.own 8 [] [])), (9, (.int .i64 x9091))], [(3, some ⟨(eA64u8 a1), false⟩), (5, some ⟨(.row 128 (x9092.map eT_A64u8_A64u8_Z)), false⟩), (8, some ⟨(eA64u8 (vset r9049 x6115.toNat 1)), false⟩)]⟩) (by kernel_rfl) ?_
              obtain ⟨y9152, hy9153, hk9154⟩ := bind_some h
              clear h
              refine a_join (emb := fun (s : (List ((Vec Int 64) × (Vec Int 64)))) => ⟨[(0, (.int .i64 a0)), (3, (.own 3 [] [])), (5, (.osl 5)), (6, (.int .i64 x6115)), (7, (.int .i64 x8664)), (8, (.own 8 [] [])), (9, (.int .i64 x9091))], [(3, some ⟨(eA64u8 a1), false⟩), (5, some ⟨(.row 128 (s.map eT_A64u8_A64u8_Z)), false⟩), (8, some ⟨(eA64u8 (vset r9049 x6115.toNat 1)), false⟩)]⟩) (pre := fun s => s = y9152) ?_ ?_
              · rintro x9151 rfl
                have h := hk9154
                refine a_st (σ' := ⟨[(0, (.int .i64 a0)), (3, (.own 3 [] [])), (5, (.osl 5)), (6, (.int .i64 x6115)), (7, (.int .i64 x8664)), (8, (.own 8 [] [])), (9, (.int .i64 x9091))], [(3, some ⟨(eA64u8 a1), false⟩), (5, some ⟨(.row 128 (x9151.map eT_A64u8_A64u8_Z)), false⟩), (8, some ⟨(eA64u8 (vset r9049 x6115.toNat 1)), false⟩)]⟩) (by kernel_rfl) ?_
                refine a_region ?_
                refine a_val (v := (.int .i64 x9091)) (u := []) rfl trivial rfl ?_
                refine a_val (v := (.int .i64 (IntKind.i64.wrap (x9091 + 1)))) (u := []) rfl trivial rfl ?_
                refine a_val (v := (.int .i64 (IntKind.i64.wrap (x9091 + 1)))) (u := []) rfl trivial rfl ?_
                refine a_nil ?_
                cases h
                exact a_again (by kernel_rfl) hX9132
              · have h := hy9153
                refine a_block ?_
                refine a_seq ?_
                refine a_draw [⟨[8], [], [], []⟩, ⟨[], [], [], []⟩, ⟨[], [], [], []⟩, ⟨[], [], [], [1, 2]⟩, ⟨[], [], [], [0, 1, 2, 3]⟩, ⟨[2000], [2000], [2000], []⟩, ⟨[2000], [2000], [], [0, 1, 2, 3, 4, 5]⟩] (by kernel_rfl) ?_
                refine d_cons ?_
                have hl9159 : LdOk [] (eA64u8 (vset r9049 x6115.toNat 1)) [] 64 true (eA64u8 (vset r9049 x6115.toNat 1)) := (.nil rfl rfl rfl)
                refine a_val (v := (eA64u8 (vset r9049 x6115.toNat 1))) (u := []) (ld_own (i := ⟨.arr 64 5, 64, 64, (eA64u8 (vrep 64 (0 : Int)))⟩) rfl rfl rfl hl9159) hl9159.c rfl ?_
                refine d_next (by kernel_rfl) ?_
                refine d_cons ?_
                refine a_val (v := (.int .i64 a0)) (u := []) rfl trivial rfl ?_
                refine d_next (by kernel_rfl) ?_
                refine d_cons ?_
                refine a_val (v := (.int .i64 x9091)) (u := []) rfl trivial rfl ?_
                refine d_next (by kernel_rfl) ?_
                refine d_cons ?_
                obtain ⟨r9160, hr9161, h⟩ := bind_some h
                refine a_call (args := [(.int .i64 a0), (.int .i64 x9091)]) (u := []) (r := (eA64u8 r9160)) rfl rfl (spec_l01Of_ok a0 x9091 r9160 hr9161) rfl ?_
                refine d_next (by kernel_rfl) ?_
                refine d_cons ?_
                refine a_val (v := (eT_A64u8_A64u8_Z (((vset r9049 x6115.toNat 1), r9160)))) (u := []) rfl ⟨rfl, (all_cons ⟨(Nat.le_of_ble_eq_true rfl), rfl⟩ (all_cons ⟨(Nat.le_of_ble_eq_true rfl), rfl⟩ all_nil))⟩ rfl ?_
                refine d_next (by kernel_rfl) ?_
                refine d_cons ?_
                refine a_val (v := (.own 2000 [] [])) (u := [(2000, some ⟨(eT_A64u8_A64u8_Z (((vrep 64 (0 : Int)), (vrep 64 (0 : Int))))), false⟩)]) rfl trivial rfl ?_
                refine d_next (by kernel_rfl) ?_
                refine d_cons ?_
                have hs9162 : StOk [] (eT_A64u8_A64u8_Z (((vrep 64 (0 : Int)), (vrep 64 (0 : Int))))) [] 128 (eT_A64u8_A64u8_Z (((vset r9049 x6115.toNat 1), r9160))) (eT_A64u8_A64u8_Z (((vset r9049 x6115.toNat 1), r9160))) := (.nil rfl rfl rfl rfl)
                refine a_val (v := .top) (u := [(2000, some ⟨(eT_A64u8_A64u8_Z (((vset r9049 x6115.toNat 1), r9160))), false⟩)]) (st_own (i := ⟨.struct [(0, 23), (64, 23)], 128, 128, (eT_A64u8_A64u8_Z ((vrep 64 (0 : Int)), (vrep 64 (0 : Int))))⟩) rfl rfl (fun _ => rfl) rfl hs9162) (hs9162.c rfl) rfl ?_
                refine d_next (by kernel_rfl) ?_
                refine d_nil ?_
                refine a_next (σ' := ⟨[(0, (.int .i64 a0)), (3, (.own 3 [] [])), (5, (.osl 5)), (6, (.int .i64 x6115)), (7, (.int .i64 x8664)), (8, (.own 8 [] [])), (9, (.int .i64 x9091)), (10, (.own 10 [] []))], [(3, some ⟨(eA64u8 a1), false⟩), (5, some ⟨(.row 128 (x9092.map eT_A64u8_A64u8_Z)), false⟩), (8, some ⟨(eA64u8 (vset r9049 x6115.toNat 1)), false⟩), (10, some ⟨(eT_A64u8_A64u8_Z (((vset r9049 x6115.toNat 1), r9160))), false⟩)]⟩) (by kernel_rfl) ?_
                refine a_seq ?_
                refine a_region ?_
                refine a_val (v := (.int .i64 a0)) (u := []) rfl trivial rfl ?_
                have hl9163 : LdOk [] (eA64u8 a1) [] 64 true (eA64u8 a1) := (.nil rfl rfl rfl)
                refine a_val (v := (eA64u8 a1)) (u := []) (ld_own (i := ⟨.arr 64 5, 64, 64, (eA64u8 (vrep 64 (0 : Int)))⟩) rfl rfl rfl hl9163) hl9163.c rfl ?_
                have hl9164 : LdOk [] (eT_A64u8_A64u8_Z (((vset r9049 x6115.toNat 1), r9160))) [] 128 true (eT_A64u8_A64u8_Z (((vset r9049 x6115.toNat 1), r9160))) := (.nil rfl rfl rfl)
                refine a_val (v := (eT_A64u8_A64u8_Z (((vset r9049 x6115.toNat 1), r9160)))) (u := []) (ld_own (i := ⟨.struct [(0, 23), (64, 23)], 128, 128, (eT_A64u8_A64u8_Z ((vrep 64 (0 : Int)), (vrep 64 (0 : Int))))⟩) rfl rfl rfl hl9164) hl9164.c rfl ?_
                obtain ⟨r9165, hr9166, h⟩ := bind_some h
                refine a_call (args := [(.int .i64 a0), (eA64u8 a1), (eT_A64u8_A64u8_Z (((vset r9049 x6115.toNat 1), r9160)))]) (u := []) (r := (.bool r9165)) rfl rfl (spec_l07Form_ok a0 a1 (((vset r9049 x6115.toNat 1), r9160)) r9165 hr9166) rfl ?_
                refine a_nil ?_
                refine a_next (σ' := ⟨[(0, (.int .i64 a0)), (3, (.own 3 [] [])), (5, (.osl 5)), (6, (.int .i64 x6115)), (7, (.int .i64 x8664)), (8, (.own 8 [] [])), (9, (.int .i64 x9091)), (10, (.own 10 [] [])), (45, (.bool r9165))], [(3, some ⟨(eA64u8 a1), false⟩), (5, some ⟨(.row 128 (x9092.map eT_A64u8_A64u8_Z)), false⟩), (8, some ⟨(eA64u8 (vset r9049 x6115.toNat 1)), false⟩), (10, some ⟨(eT_A64u8_A64u8_Z (((vset r9049 x6115.toNat 1), r9160))), false⟩)]⟩) (by kernel_rfl) ?_
                cases hb9167 : r9165
                · have h := ite_f hb9167 h
                  refine a_cond_f rfl ?_
                  refine a_skip ?_
                  refine b_norm ?_
                  exact j_leaf x9092 (Option.some.inj h) (by kernel_rfl)
                · have h := ite_t hb9167 h
                  refine a_cond_t rfl ?_
                  refine a_region ?_
                  refine a_val (v := (.osl 5)) (u := []) rfl trivial rfl ?_
                  have hl9168 : LdOk [] (eT_A64u8_A64u8_Z (((vset r9049 x6115.toNat 1), r9160))) [] 128 true (eT_A64u8_A64u8_Z (((vset r9049 x6115.toNat 1), r9160))) := (.nil rfl rfl rfl)
                  refine a_val (v := (eT_A64u8_A64u8_Z (((vset r9049 x6115.toNat 1), r9160)))) (u := []) (ld_own (i := ⟨.struct [(0, 23), (64, 23)], 128, 128, (eT_A64u8_A64u8_Z ((vrep 64 (0 : Int)), (vrep 64 (0 : Int))))⟩) rfl rfl rfl hl9168) hl9168.c rfl ?_
                  refine a_val (v := (.sl 128 true (([((vset r9049 x6115.toNat 1), r9160)]).map eT_A64u8_A64u8_Z))) (u := []) rfl ⟨(Nat.le_of_ble_eq_true rfl), (Nat.le_of_ble_eq_true rfl), (all_cons ⟨(Nat.le_of_ble_eq_true rfl), rfl⟩ all_nil)⟩ rfl ?_
                  obtain ⟨hc9169, h⟩ := ifp_some h
                  refine a_val (v := (.osl 5900)) (u := [(5900, some ⟨(.row 128 (((x9092 ++ ([((vset r9049 x6115.toNat 1), r9160)]))).map eT_A64u8_A64u8_Z)), false⟩), (5, none)]) (app_run (i := ⟨.struct [(0, 23), (64, 23)], 128, 128, (eT_A64u8_A64u8_Z ((vrep 64 (0 : Int)), (vrep 64 (0 : Int))))⟩) (f := eT_A64u8_A64u8_Z) (l := x9092) (l2 := [((vset r9049 x6115.toNat 1), r9160)]) rfl rfl rfl rfl (fun _ => rfl) rfl rfl) (app_c (f := eT_A64u8_A64u8_Z) (s := 128) (sz := 128) (by' := 128) (u := []) (id := 5) hc9169 (.inr rfl) rfl rfl rfl) rfl ?_
                  refine a_val (v := (.osl 5900)) (u := []) rfl trivial rfl ?_
                  refine a_nil ?_
                  refine b_norm ?_
                  exact j_leaf ((x9092 ++ ([((vset r9049 x6115.toNat 1), r9160)]))) (Option.some.inj h) (by kernel_rfl)
def spec_ClassNumber_c : ACode := (.seq (.region 0 [⟨some 3, .box 23 (.tmp 1), none, []⟩, ⟨some 4, .asg 0 (.const (.int .i64 0)) 2, none, []⟩, ⟨some 5, .asg 0 (.const (.int .i64 0)) 2, none, []⟩] false) (.seq (.seq (.region 1 [⟨some 6, .mov (.tmp 0), none, []⟩, ⟨some 7, .load 23 (.tmp 3), none, []⟩, ⟨some 8, .call 0 (.func 102) [(.tmp 6), (.tmp 7)], none, []⟩, ⟨some 9, .un .not (.tmp 8), none, []⟩] false) (.cond (.tmp 9) (.seq (.region 2 [⟨some 4, .asg 0 (.const (.int .i64 0)) 2, none, []⟩, ⟨some 5, .asg 0 (.const (.int .i64 1)) 2, none, []⟩] false) .ret) .skip)) (.seq (.region 3 [⟨some 10, .mov (.tmp 0), none, []⟩, ⟨some 11, .load 23 (.tmp 3), none, []⟩, ⟨some 12, .call 0 (.func 103) [(.tmp 10), (.tmp 11)], none, []⟩, ⟨some 13, .blt 0 .len [(.tmp 12)] [106], none, []⟩, ⟨some 4, .asg 0 (.tmp 13) 2, none, []⟩, ⟨some 5, .asg 0 (.const (.int .i64 0)) 2, none, []⟩] false) .ret)))
def spec_ClassNumber_L : Live := [(0, [0, 1]), (1, [0, 3]), (2, []), (3, [0, 3]), (100009, [0, 3, 9])]
theorem spec_ClassNumber_body : Try.f43.body = some (Try.f43.body.getD .skip) := by kernel_rfl
theorem spec_ClassNumber_strip : strip [] (Try.f43.body.getD .skip) = spec_ClassNumber_c := by kernel_rfl
noncomputable def spec_ClassNumber (a0 : Int) (a1 : (Vec Int 64)) : Option (Int × Int) :=
  (Option.bind (spec_l07Is a0 a1) fun r2 => (if (!r2) then (some (0, 1)) else (Option.bind (spec_l07All a0 a1) fun r6 => (some (((r6.length : Int), 0))))))
set_option maxHeartbeats 16000000 in
theorem spec_ClassNumber_ok (a0 : Int) (a1 : (Vec Int 64)) (r : (Int × Int)) (h : spec_ClassNumber a0 a1 = some r) : Den Try.prog 43 [(.int .i64 a0), (eA64u8 a1)] { r := (.tuple [(.int .i64 r.1), (.int .i64 r.2)]) } := by
  refine den_of (rs := [(.int .i64 r.1), (.int .i64 r.2)]) (ac := spec_ClassNumber_c) (L := spec_ClassNumber_L) (n := 14) (m := []) good Try.func43 spec_ClassNumber_body (by kernel_rfl) Try.ntmps43 rfl rfl spec_ClassNumber_strip rfl rfl ?_
  refine a_st (σ' := ⟨[(0, (.int .i64 a0)), (1, (eA64u8 a1))], []⟩) (by kernel_rfl) ?_
  unfold spec_ClassNumber_c
  refine a_seq ?_
  refine a_region ?_
  refine a_val (v := (.own 1300 [] [])) (u := [(1300, some ⟨(eA64u8 a1), false⟩)]) rfl trivial rfl ?_
  refine a_val (v := (.int .i64 0)) (u := []) rfl trivial rfl ?_
  refine a_val (v := (.int .i64 0)) (u := []) rfl trivial rfl ?_
  refine a_nil ?_
  refine a_next (σ' := ⟨[(0, (.int .i64 a0)), (3, (.own 3 [] []))], [(3, some ⟨(eA64u8 a1), false⟩)]⟩) (by kernel_rfl) ?_
  refine a_seq ?_
  refine a_seq ?_
  refine a_region ?_
  refine a_val (v := (.int .i64 a0)) (u := []) rfl trivial rfl ?_
  have hl1 : LdOk [] (eA64u8 a1) [] 64 true (eA64u8 a1) := (.nil rfl rfl rfl)
  refine a_val (v := (eA64u8 a1)) (u := []) (ld_own (i := ⟨.arr 64 5, 64, 64, (eA64u8 (vrep 64 (0 : Int)))⟩) rfl rfl rfl hl1) hl1.c rfl ?_
  obtain ⟨r2, hr3, h⟩ := bind_some h
  refine a_call (args := [(.int .i64 a0), (eA64u8 a1)]) (u := []) (r := (.bool r2)) rfl rfl (spec_l07Is_ok a0 a1 r2 hr3) rfl ?_
  refine a_val (v := (.bool (!r2))) (u := []) rfl trivial rfl ?_
  refine a_nil ?_
  refine a_next (σ' := ⟨[(0, (.int .i64 a0)), (3, (.own 3 [] [])), (9, (.bool (!r2)))], [(3, some ⟨(eA64u8 a1), false⟩)]⟩) (by kernel_rfl) ?_
  cases hb4 : (!r2)
  · have h := ite_f hb4 h
    refine a_cond_f rfl ?_
    refine a_skip ?_
    refine a_next (σ' := ⟨[(0, (.int .i64 a0)), (3, (.own 3 [] []))], [(3, some ⟨(eA64u8 a1), false⟩)]⟩) (by kernel_rfl) ?_
    refine a_seq ?_
    refine a_region ?_
    refine a_val (v := (.int .i64 a0)) (u := []) rfl trivial rfl ?_
    have hl5 : LdOk [] (eA64u8 a1) [] 64 true (eA64u8 a1) := (.nil rfl rfl rfl)
    refine a_val (v := (eA64u8 a1)) (u := []) (ld_own (i := ⟨.arr 64 5, 64, 64, (eA64u8 (vrep 64 (0 : Int)))⟩) rfl rfl rfl hl5) hl5.c rfl ?_
    obtain ⟨r6, hr7, h⟩ := bind_some h
    refine a_call (args := [(.int .i64 a0), (eA64u8 a1)]) (u := []) (r := (eST_A64u8_A64u8_Z r6)) rfl rfl (spec_l07All_ok a0 a1 r6 hr7) rfl ?_
    refine a_val (v := (.int .i64 (r6.length : Int))) (u := []) (len_run rfl rfl) trivial rfl ?_
    refine a_val (v := (.int .i64 (r6.length : Int))) (u := []) rfl trivial rfl ?_
    refine a_val (v := (.int .i64 0)) (u := []) rfl trivial rfl ?_
    refine a_nil ?_
    refine a_next rfl ?_
    refine a_ret ?_
    refine ⟨.inr rfl, ?_⟩
    rw [Try.results43]
    cases h
    exact ⟨_, _, _, _, _, rfl, trivial, .inl ⟨rfl, .inl rfl⟩, rfl, ⟨_, _, _, _, _, rfl, trivial, .inl ⟨rfl, .inl rfl⟩, rfl, rfl⟩⟩
  · have h := ite_t hb4 h
    refine a_cond_t rfl ?_
    refine a_seq ?_
    refine a_region ?_
    refine a_val (v := (.int .i64 0)) (u := []) rfl trivial rfl ?_
    refine a_val (v := (.int .i64 1)) (u := []) rfl trivial rfl ?_
    refine a_nil ?_
    refine a_next rfl ?_
    refine a_ret ?_
    refine t_ret ?_
    refine ⟨.inr rfl, ?_⟩
    rw [Try.results43]
    cases h
    exact ⟨_, _, _, _, _, rfl, trivial, .inl ⟨rfl, .inl rfl⟩, rfl, ⟨_, _, _, _, _, rfl, trivial, .inl ⟨rfl, .inl rfl⟩, rfl, rfl⟩⟩
def impl_row_trimmed_c : ACode := (.seq (.region 0 [⟨some 2, .asg 1 (.const (.slice none 0 0)) 64, none, []⟩] false) (.seq (.region 1 [⟨some 4, .mov (.tmp 0), none, []⟩, ⟨some 5, .blt 0 .len [(.tmp 4)] [64], none, []⟩, ⟨some 3, .asg 0 (.tmp 5) 3, none, []⟩] false) (.seq (.block 0 (.loop (.seq (.seq (.region 2 [⟨some 6, .mov (.tmp 3), none, []⟩, ⟨some 7, .bin .gtr 3 (.tmp 6) (.const (.int .i64 0)), none, []⟩, ⟨some 8, .mov (.tmp 7), none, []⟩, ⟨some 9, .mov (.tmp 0), some (8, true), []⟩, ⟨some 10, .mov (.tmp 3), some (8, true), []⟩, ⟨some 11, .bin .sub 3 (.tmp 10) (.const (.int .i64 1)), some (8, true), []⟩, ⟨some 12, .indexAddr 64 (.tmp 9) (.tmp 11), some (8, true), []⟩, ⟨some 13, .load 2 (.tmp 12), some (8, true), []⟩, ⟨some 14, .bin .eql 2 (.tmp 13) (.const (.int .i64 0)), some (8, true), []⟩, ⟨some 15, .pick (.tmp 8) (.tmp 14) (.const (.bool false)), none, []⟩] false) (.cond (.tmp 15) .skip (.exit 0))) (.block 1 (.region 3 [⟨some 16, .mov (.tmp 3), none, []⟩, ⟨some 17, .bin .sub 3 (.tmp 16) (.const (.int .i64 1)), none, []⟩, ⟨some 3, .asg 0 (.tmp 17) 3, none, []⟩] false))))) (.seq (.region 4 [⟨some 18, .mov (.tmp 0), none, []⟩, ⟨some 19, .mov (.tmp 3), none, []⟩, ⟨some 20, .mov (.tmp 3), none, []⟩, ⟨some 21, .slice 64 (.tmp 18) none (some (.tmp 19)) (some (.tmp 20)), none, []⟩, ⟨some 2, .asg 1 (.tmp 21) 64, none, []⟩] false) .ret))))
def impl_row_trimmed_L : Live := [(0, [0]), (1, [0]), (2, [0, 3]), (3, [0, 3]), (4, [0, 3]), (100015, [0, 3, 15])]
theorem impl_row_trimmed_body : Try.f111.body = some (Try.f111.body.getD .skip) := by kernel_rfl
theorem impl_row_trimmed_strip : strip [(2, 1)] (Try.f111.body.getD .skip) = impl_row_trimmed_c := by kernel_rfl
noncomputable def impl_row_trimmed_l1 (a0 : (List Int)) (x62 : Int) : Option (Int ⊕ Int) :=
  (Option.bind (α := Bool) ((if (decide (x62 > 0)) then (ifp (0 ≤ IntKind.i64.wrap (x62 - 1) ∧ IntKind.i64.wrap (x62 - 1) < ((a0.length : Nat) : Int)) ((some ((((rd a0 (IntKind.i64.wrap (x62 - 1)).toNat)) == 0))))) else (some false))) fun x80 => (if x80 then (some (.inl (IntKind.i64.wrap (x62 - 1)))) else (some (.inr x62))))
noncomputable def impl_row_trimmed (a0 : (List Int)) : Option (List Int) :=
  (Option.bind (α := Int) ((loopM (fun s : Int => impl_row_trimmed_l1 a0 s) (a0.length : Int))) fun x43 => (ifp (0 ≤ x43 ∧ x43 ≤ (a0.length : Int)) ((some (a0.take x43.toNat)))))
set_option maxHeartbeats 16000000 in
theorem impl_row_trimmed_ok (a0 : (List Int)) (r : (List Int)) (h : impl_row_trimmed a0 = some r) : Den Try.prog 111 [(eSi64 a0)] { r := (eSi64 r) } := by
  refine den_of (rs := [(eSi64 r)]) (ac := impl_row_trimmed_c) (L := impl_row_trimmed_L) (n := 22) (m := [(2, 1)]) good Try.func111 impl_row_trimmed_body (by kernel_rfl) Try.ntmps111 rfl rfl impl_row_trimmed_strip rfl rfl ?_
  refine a_st (σ' := ⟨[(0, (eSi64 a0))], []⟩) (by kernel_rfl) ?_
  unfold impl_row_trimmed_c
  refine a_seq ?_
  refine a_region ?_
  refine a_val (v := (eSi64 ([]))) (u := []) rfl trivial rfl ?_
  refine a_nil ?_
  refine a_next (σ' := ⟨[(0, (eSi64 a0))], []⟩) (by kernel_rfl) ?_
  refine a_seq ?_
  refine a_region ?_
  refine a_val (v := (eSi64 a0)) (u := []) rfl trivial rfl ?_
  refine a_val (v := (.int .i64 (a0.length : Int))) (u := []) (len_run rfl rfl) trivial rfl ?_
  refine a_val (v := (.int .i64 (a0.length : Int))) (u := []) rfl trivial rfl ?_
  refine a_nil ?_
  refine a_next (σ' := ⟨[(0, (eSi64 a0)), (3, (.int .i64 (a0.length : Int)))], []⟩) (by kernel_rfl) ?_
  obtain ⟨y44, hy45, hk46⟩ := bind_some h
  clear h
  refine a_join (emb := fun (s : Int) => ⟨[(0, (eSi64 a0)), (3, (.int .i64 s))], []⟩) (pre := fun s => s = y44) ?_ ?_
  · rintro x43 rfl
    have h := hk46
    refine a_st (σ' := ⟨[(0, (eSi64 a0)), (3, (.int .i64 x43))], []⟩) (by kernel_rfl) ?_
    refine a_seq ?_
    refine a_region ?_
    refine a_val (v := (eSi64 a0)) (u := []) rfl trivial rfl ?_
    refine a_val (v := (.int .i64 x43)) (u := []) rfl trivial rfl ?_
    refine a_val (v := (.int .i64 x43)) (u := []) rfl trivial rfl ?_
    obtain ⟨hc89, h⟩ := ifp_some h
    refine a_val (v := (.sl 1 true ((a0.take x43.toNat).map (AV.int .i64)))) (u := []) (take3_run (f := (AV.int .i64)) (l := a0) (i := ⟨.int .i64, 1, 8, (.int .i64 0)⟩) rfl rfl rfl rfl (fun _ => rfl)) ⟨hc89.1, lmap_le hc89.2, rfl⟩ rfl ?_
    refine a_val (v := (eSi64 (a0.take x43.toNat))) (u := []) (asg_tight (i := ⟨.int .i64, 1, 8, (.int .i64 0)⟩) (f := (AV.int .i64)) (l := (a0.take x43.toNat)) rfl rfl rfl) trivial rfl ?_
    refine a_nil ?_
    refine a_next rfl ?_
    refine a_ret ?_
    refine ⟨.inr rfl, ?_⟩
    rw [Try.results111]
    cases h
    exact ⟨_, _, _, _, _, rfl, trivial, .inl ⟨rfl, .inl rfl⟩, rfl, rfl⟩
  · have h := hy45
    refine a_block ?_
    refine a_loop (emb := fun (s : Int) => ⟨[(0, (eSi64 a0)), (3, (.int .i64 s))], []⟩) (body := (fun s : Int => impl_row_trimmed_l1 a0 s)) (G := fun q => some q = some y44) h rfl ?_ (by kernel_rfl)
    rintro X74 x62 x75 h hX76
    have h : impl_row_trimmed_l1 a0 x62 = some x75 := h
    refine a_st (σ' := ⟨[(0, (eSi64 a0)), (3, (.int .i64 x62))], []⟩) (by kernel_rfl) ?_
    refine a_seq ?_
    obtain ⟨y81, hy82, hk83⟩ := bind_some h
    clear h
    refine a_join (emb := fun (s : Bool) => ⟨[(0, (eSi64 a0)), (3, (.int .i64 x62)), (15, (.bool s))], []⟩) (pre := fun s => s = y81) ?_ ?_
    · rintro x80 rfl
      have h := hk83
      refine a_st (σ' := ⟨[(0, (eSi64 a0)), (3, (.int .i64 x62)), (15, (.bool x80))], []⟩) (by kernel_rfl) ?_
      cases hb87 : x80
      · have h := ite_f hb87 h
        refine a_cond_f rfl ?_
        refine a_exit ?_
        refine t_exit ?_
        cases h
        have h := hX76
        refine t_exit ?_
        refine b_exit ?_
        exact j_leaf x62 (Option.some.inj h) (by kernel_rfl)
      · have h := ite_t hb87 h
        refine a_cond_t rfl ?_
        refine a_skip ?_
        refine a_next (σ' := ⟨[(0, (eSi64 a0)), (3, (.int .i64 x62))], []⟩) (by kernel_rfl) ?_
        refine a_block ?_
        refine a_region ?_
        refine a_val (v := (.int .i64 x62)) (u := []) rfl trivial rfl ?_
        refine a_val (v := (.int .i64 (IntKind.i64.wrap (x62 - 1)))) (u := []) rfl trivial rfl ?_
        refine a_val (v := (.int .i64 (IntKind.i64.wrap (x62 - 1)))) (u := []) rfl trivial rfl ?_
        refine a_nil ?_
        refine b_norm ?_
        cases h
        exact a_again (by kernel_rfl) hX76
    · have h := hy82
      refine a_region ?_
      refine a_val (v := (.int .i64 x62)) (u := []) rfl trivial rfl ?_
      refine a_val (v := (.bool ((decide (x62 > 0))))) (u := []) rfl trivial rfl ?_
      refine a_val (v := (.bool ((decide (x62 > 0))))) (u := []) rfl trivial rfl ?_
      cases hb84 : (decide (x62 > 0))
      · have h := ite_f hb84 h
        refine a_gskip rfl ?_
        refine a_gskip rfl ?_
        refine a_gskip rfl ?_
        refine a_gskip rfl ?_
        refine a_gskip rfl ?_
        refine a_gskip rfl ?_
        refine a_val (v := (.bool false)) (u := []) rfl trivial rfl ?_
        refine a_nil ?_
        exact j_leaf false (Option.some.inj h) (by kernel_rfl)
      · have h := ite_t hb84 h
        refine a_gval rfl (v := (eSi64 a0)) (u := []) rfl trivial rfl ?_
        refine a_gval rfl (v := (.int .i64 x62)) (u := []) rfl trivial rfl ?_
        refine a_gval rfl (v := (.int .i64 (IntKind.i64.wrap (x62 - 1)))) (u := []) rfl trivial rfl ?_
        obtain ⟨hc85, h⟩ := ifp_some h
        refine a_gval rfl (v := (.ref (.row 1 (a0.map (AV.int .i64))) [(IntKind.i64.wrap (x62 - 1)).toNat] [(IntKind.i64.wrap (x62 - 1)).toNat * 1])) (u := []) rfl (lmap hc85) rfl ?_
        have hl86 : LdOk [(IntKind.i64.wrap (x62 - 1)).toNat] (.row 1 (a0.map (AV.int .i64))) [(IntKind.i64.wrap (x62 - 1)).toNat * 1] 1 false (.int .i64 ((rd a0 (IntKind.i64.wrap (x62 - 1)).toNat))) := (.row (llt hc85) rfl (.nil rfl rfl rfl))
        refine a_gval rfl (v := (.int .i64 ((rd a0 (IntKind.i64.wrap (x62 - 1)).toNat)))) (u := []) (ld_ref (i := ⟨.int .i64, 1, 8, (.int .i64 0)⟩) rfl rfl hl86) hl86.c rfl ?_
        refine a_gval rfl (v := (.bool ((((rd a0 (IntKind.i64.wrap (x62 - 1)).toNat)) == 0)))) (u := []) rfl trivial rfl ?_
        refine a_val (v := (.bool ((((rd a0 (IntKind.i64.wrap (x62 - 1)).toNat)) == 0)))) (u := []) rfl trivial rfl ?_
        refine a_nil ?_
        exact j_leaf ((((rd a0 (IntKind.i64.wrap (x62 - 1)).toNat)) == 0)) (Option.some.inj h) (by kernel_rfl)
def impl_rowOf_c : ACode := (.seq (.region 0 [⟨some 1, .box 23 (.tmp 0), none, []⟩, ⟨some 2, .asg 1 (.const (.slice none 0 0)) 64, none, []⟩] false) (.seq (.region 1 [⟨some 3, .asg 2 (.const (.slice none 0 0)) 64, none, []⟩] false) (.seq (.seq (.region 2 [⟨some 6, .load 23 (.tmp 1), none, []⟩, ⟨some 7, .mov (.const (.int .i64 0)), none, []⟩] false) (.block 0 (.loop (.seq (.region 3 [⟨some 8, .bin .lss 3 (.tmp 7) (.const (.int .i64 64)), none, []⟩] false) (.seq (.cond (.tmp 8) .skip (.exit 0)) (.seq (.block 1 (.seq (.region 4 [⟨some 9, .index 23 (.tmp 6) (.tmp 7), none, []⟩, ⟨some 5, .asg 0 (.tmp 9) 5, none, []⟩] false) (.region 5 [⟨some 10, .mov (.tmp 3), none, []⟩, ⟨some 11, .mov (.tmp 5), none, []⟩, ⟨some 12, .conv 5 2 (.tmp 11), none, []⟩, ⟨some 13, .bslice 0 64 1 [(0, (.tmp 12))], none, []⟩, ⟨some 14, .blt 0 .append [(.tmp 10), (.tmp 13)] [64, 64], none, []⟩, ⟨some 3, .asg 2 (.tmp 14) 64, none, []⟩] false))) (.region 6 [⟨some 15, .bin .add 3 (.tmp 7) (.const (.int .i64 1)), none, []⟩, ⟨some 7, .mov (.tmp 15), none, []⟩] false))))))) (.seq (.region 7 [⟨some 16, .mov (.tmp 3), none, []⟩, ⟨some 17, .call 0 (.func 111) [(.tmp 16)], none, []⟩, ⟨some 2, .asg 1 (.tmp 17) 64, none, []⟩] false) .ret))))
def impl_rowOf_L : Live := [(0, [0]), (1, [1]), (2, [1, 3]), (3, [3, 6, 7]), (4, [3, 6, 7]), (5, [3, 5, 6, 7]), (6, [3, 6, 7]), (7, [3]), (100008, [3, 6, 7, 8])]
theorem impl_rowOf_body : Try.f72.body = some (Try.f72.body.getD .skip) := by kernel_rfl
theorem impl_rowOf_strip : strip [(2, 1), (3, 2)] (Try.f72.body.getD .skip) = impl_rowOf_c := by kernel_rfl
noncomputable def impl_rowOf_l1 (a0 : (Vec Int 64)) (x25 : Int) (x26 : (List Int)) : Option ((Int × (List Int)) ⊕ (List Int)) :=
  (if (decide (x25 < 64)) then (ifp (0 ≤ x25 ∧ x25 < ((64 : Nat) : Int)) ((ifp ((x26.length + ([IntKind.i64.wrap (rd a0.1 x25.toNat)] : List Int).length) * 8 ≤ 140737488355328) ((some (.inl ((IntKind.i64.wrap (x25 + 1), (x26 ++ ([IntKind.i64.wrap (rd a0.1 x25.toNat)])))))))))) else (some (.inr x26)))
noncomputable def impl_rowOf (a0 : (Vec Int 64)) : Option (List Int) :=
  (Option.bind (α := (List Int)) ((loopM (fun s : (Int × (List Int)) => impl_rowOf_l1 a0 s.1 s.2) (0, []))) fun x17 => (Option.bind (impl_row_trimmed x17) fun r37 => (some r37)))
set_option maxHeartbeats 16000000 in
theorem impl_rowOf_ok (a0 : (Vec Int 64)) (r : (List Int)) (h : impl_rowOf a0 = some r) : Den Try.prog 72 [(eA64u8 a0)] { r := (eSi64 r) } := by
  refine den_of (rs := [(eSi64 r)]) (ac := impl_rowOf_c) (L := impl_rowOf_L) (n := 18) (m := [(2, 1), (3, 2)]) good Try.func72 impl_rowOf_body (by kernel_rfl) Try.ntmps72 rfl rfl impl_rowOf_strip rfl rfl ?_
  refine a_st (σ' := ⟨[(0, (eA64u8 a0))], []⟩) (by kernel_rfl) ?_
  unfold impl_rowOf_c
  refine a_seq ?_
  refine a_region ?_
  refine a_val (v := (.own 1100 [] [])) (u := [(1100, some ⟨(eA64u8 a0), false⟩)]) rfl trivial rfl ?_
  refine a_val (v := (eSi64 ([]))) (u := []) rfl trivial rfl ?_
  refine a_nil ?_
  refine a_next (σ' := ⟨[(1, (.own 1 [] []))], [(1, some ⟨(eA64u8 a0), false⟩)]⟩) (by kernel_rfl) ?_
  refine a_seq ?_
  refine a_region ?_
  refine a_val (v := (.osl 1300)) (u := [(1300, some ⟨(.row 1 (([]).map (AV.int .i64))), false⟩)]) rfl trivial rfl ?_
  refine a_nil ?_
  refine a_next (σ' := ⟨[(1, (.own 1 [] [])), (3, (.osl 3))], [(1, some ⟨(eA64u8 a0), false⟩), (3, some ⟨(.row 1 (([]).map (AV.int .i64))), false⟩)]⟩) (by kernel_rfl) ?_
  obtain ⟨y18, hy19, hk20⟩ := bind_some h
  clear h
  refine a_join (emb := fun (s : (List Int)) => ⟨[(3, (.osl 3))], [(3, some ⟨(.row 1 (s.map (AV.int .i64))), false⟩)]⟩) (pre := fun s => s = y18) ?_ ?_
  · rintro x17 rfl
    have h := hk20
    refine a_st (σ' := ⟨[(3, (.osl 3))], [(3, some ⟨(.row 1 (x17.map (AV.int .i64))), false⟩)]⟩) (by kernel_rfl) ?_
    refine a_seq ?_
    refine a_region ?_
    refine a_val (v := (.osl 3)) (u := []) rfl trivial rfl ?_
    obtain ⟨r37, hr38, h⟩ := bind_some h
    refine a_call (args := [(eSi64 x17)]) (u := [(3, some ⟨(.row 1 (x17.map (AV.int .i64))), true⟩)]) (r := (eSi64 r37)) rfl rfl (impl_row_trimmed_ok x17 r37 hr38) rfl ?_
    refine a_val (v := (eSi64 r37)) (u := []) rfl trivial rfl ?_
    refine a_nil ?_
    refine a_next rfl ?_
    refine a_ret ?_
    refine ⟨.inr rfl, ?_⟩
    rw [Try.results72]
    cases h
    exact ⟨_, _, _, _, _, rfl, trivial, .inl ⟨rfl, .inl rfl⟩, rfl, rfl⟩
  · have h := hy19
    refine a_seq ?_
    refine a_region ?_
    have hl21 : LdOk [] (eA64u8 a0) [] 64 true (eA64u8 a0) := (.nil rfl rfl rfl)
    refine a_val (v := (eA64u8 a0)) (u := []) (ld_own (i := ⟨.arr 64 5, 64, 64, (eA64u8 (vrep 64 (0 : Int)))⟩) rfl rfl rfl hl21) hl21.c rfl ?_
    refine a_val (v := (.int .i64 0)) (u := []) rfl trivial rfl ?_
    refine a_nil ?_
    refine a_next (σ' := ⟨[(3, (.osl 3)), (6, (eA64u8 a0)), (7, (.int .i64 0))], [(3, some ⟨(.row 1 (([]).map (AV.int .i64))), false⟩)]⟩) (by kernel_rfl) ?_
    refine a_block ?_
    refine a_loop (emb := fun (s : (Int × (List Int))) => ⟨[(3, (.osl 3)), (6, (eA64u8 a0)), (7, (.int .i64 s.1))], [(3, some ⟨(.row 1 (s.2.map (AV.int .i64))), false⟩)]⟩) (body := (fun s : (Int × (List Int)) => impl_rowOf_l1 a0 s.1 s.2)) (G := fun q => some q = some y18) h rfl ?_ (by kernel_rfl)
    rintro X30 ⟨x25, x26⟩ x31 h hX32
    have h : impl_rowOf_l1 a0 x25 x26 = some x31 := h
    refine a_st (σ' := ⟨[(3, (.osl 3)), (6, (eA64u8 a0)), (7, (.int .i64 x25))], [(3, some ⟨(.row 1 (x26.map (AV.int .i64))), false⟩)]⟩) (by kernel_rfl) ?_
    refine a_seq ?_
    refine a_region ?_
    refine a_val (v := (.bool ((decide (x25 < 64))))) (u := []) rfl trivial rfl ?_
    refine a_nil ?_
    refine a_next (σ' := ⟨[(3, (.osl 3)), (6, (eA64u8 a0)), (7, (.int .i64 x25)), (8, (.bool ((decide (x25 < 64)))))], [(3, some ⟨(.row 1 (x26.map (AV.int .i64))), false⟩)]⟩) (by kernel_rfl) ?_
    refine a_seq ?_
    cases hb33 : (decide (x25 < 64))
    · have h := ite_f hb33 h
      refine a_cond_f rfl ?_
      refine a_exit ?_
      refine t_exit ?_
      cases h
      have h := hX32
      refine t_exit ?_
      refine b_exit ?_
      exact j_leaf x26 (Option.some.inj h) (by kernel_rfl)
    · have h := ite_t hb33 h
      refine a_cond_t rfl ?_
      refine a_skip ?_
      refine a_next (σ' := ⟨[(3, (.osl 3)), (6, (eA64u8 a0)), (7, (.int .i64 x25))], [(3, some ⟨(.row 1 (x26.map (AV.int .i64))), false⟩)]⟩) (by kernel_rfl) ?_
      refine a_seq ?_
      refine a_block ?_
      refine a_seq ?_
      refine a_region ?_
      obtain ⟨hc34, h⟩ := ifp_some h
      refine a_val (v := (.int .u8 (rd a0.1 x25.toNat))) (u := []) (ix_run (i := ⟨.int .u8, 1, 1, (.int .u8 0)⟩) (f := (AV.int .u8)) rfl rfl rfl rfl (vlt a0 hc34)) ⟨hc34.1, hc34.2, rfl, rfl, rfl, rfl⟩ rfl ?_
      refine a_val (v := (.int .u8 (rd a0.1 x25.toNat))) (u := []) rfl trivial rfl ?_
      refine a_nil ?_
      refine a_next (σ' := ⟨[(3, (.osl 3)), (5, (.int .u8 (rd a0.1 x25.toNat))), (6, (eA64u8 a0)), (7, (.int .i64 x25))], [(3, some ⟨(.row 1 (x26.map (AV.int .i64))), false⟩)]⟩) (by kernel_rfl) ?_
      refine a_region ?_
      refine a_val (v := (.osl 3)) (u := []) rfl trivial rfl ?_
      refine a_val (v := (.int .u8 (rd a0.1 x25.toNat))) (u := []) rfl trivial rfl ?_
      refine a_val (v := (.int .i64 (IntKind.i64.wrap (rd a0.1 x25.toNat)))) (u := []) rfl trivial rfl ?_
      refine a_val (v := (.sl 1 true (([IntKind.i64.wrap (rd a0.1 x25.toNat)]).map (AV.int .i64)))) (u := []) rfl ⟨(Nat.le_of_ble_eq_true rfl), (Nat.le_of_ble_eq_true rfl), (all_cons ⟨(Nat.le_of_ble_eq_true rfl), rfl⟩ all_nil)⟩ rfl ?_
      obtain ⟨hc35, h⟩ := ifp_some h
      refine a_val (v := (.osl 2400)) (u := [(2400, some ⟨(.row 1 (((x26 ++ ([IntKind.i64.wrap (rd a0.1 x25.toNat)]))).map (AV.int .i64))), false⟩), (3, none)]) (app_run (i := ⟨.int .i64, 1, 8, (.int .i64 0)⟩) (f := (AV.int .i64)) (l := x26) (l2 := [IntKind.i64.wrap (rd a0.1 x25.toNat)]) rfl rfl rfl rfl (fun _ => rfl) rfl rfl) (app_c (f := (AV.int .i64)) (s := 1) (sz := 1) (by' := 8) (u := []) (id := 3) hc35 (.inr rfl) rfl rfl rfl) rfl ?_
      refine a_val (v := (.osl 2400)) (u := []) rfl trivial rfl ?_
      refine a_nil ?_
      refine b_norm ?_
      refine a_next (σ' := ⟨[(3, (.osl 3)), (6, (eA64u8 a0)), (7, (.int .i64 x25))], [(3, some ⟨(.row 1 (((x26 ++ ([IntKind.i64.wrap (rd a0.1 x25.toNat)]))).map (AV.int .i64))), false⟩)]⟩) (by kernel_rfl) ?_
      refine a_region ?_
      refine a_val (v := (.int .i64 (IntKind.i64.wrap (x25 + 1)))) (u := []) rfl trivial rfl ?_
      refine a_val (v := (.int .i64 (IntKind.i64.wrap (x25 + 1)))) (u := []) rfl trivial rfl ?_
      refine a_nil ?_
      cases h
      exact a_again (by kernel_rfl) hX32
def impl_isPrime_c : ACode := (.seq (.region 0 [⟨some 2, .asg 0 (.const (.bool false)) 4, none, []⟩] false) (.seq (.region 1 [⟨some 3, .mov (.tmp 0), none, []⟩, ⟨some 4, .bin .eql 2 (.tmp 3) (.const (.int .i64 2)), none, []⟩, ⟨some 5, .mov (.tmp 4), none, []⟩, ⟨some 6, .mov (.tmp 0), some (5, false), []⟩, ⟨some 7, .bin .eql 2 (.tmp 6) (.const (.int .i64 3)), some (5, false), []⟩, ⟨some 8, .pick (.tmp 5) (.const (.bool true)) (.tmp 7), none, []⟩, ⟨some 9, .mov (.tmp 8), none, []⟩, ⟨some 10, .mov (.tmp 0), some (9, false), []⟩, ⟨some 11, .bin .eql 2 (.tmp 10) (.const (.int .i64 5)), some (9, false), []⟩, ⟨some 12, .pick (.tmp 9) (.const (.bool true)) (.tmp 11), none, []⟩, ⟨some 13, .mov (.tmp 12), none, []⟩, ⟨some 14, .mov (.tmp 0), some (13, false), []⟩, ⟨some 15, .bin .eql 2 (.tmp 14) (.const (.int .i64 7)), some (13, false), []⟩, ⟨some 16, .pick (.tmp 13) (.const (.bool true)) (.tmp 15), none, []⟩, ⟨some 2, .asg 0 (.tmp 16) 4, none, []⟩] false) .ret))
def impl_isPrime_L : Live := [(0, [0]), (1, [0])]
theorem impl_isPrime_body : Try.f53.body = some (Try.f53.body.getD .skip) := by kernel_rfl
theorem impl_isPrime_strip : strip [] (Try.f53.body.getD .skip) = impl_isPrime_c := by kernel_rfl
noncomputable def impl_isPrime (a0 : Int) : Option Bool :=
  (if (a0 == 2) then (some true) else (if (a0 == 3) then (some true) else (if (a0 == 5) then (some true) else (some (a0 == 7)))))
set_option maxHeartbeats 16000000 in
theorem impl_isPrime_ok (a0 : Int) (r : Bool) (h : impl_isPrime a0 = some r) : Den Try.prog 53 [(.int .i64 a0)] { r := (.bool r) } := by
  refine den_of (rs := [(.bool r)]) (ac := impl_isPrime_c) (L := impl_isPrime_L) (n := 17) (m := []) good Try.func53 impl_isPrime_body (by kernel_rfl) Try.ntmps53 rfl rfl impl_isPrime_strip rfl rfl ?_
  refine a_st (σ' := ⟨[(0, (.int .i64 a0))], []⟩) (by kernel_rfl) ?_
  unfold impl_isPrime_c
  refine a_seq ?_
  refine a_region ?_
  refine a_val (v := (.bool false)) (u := []) rfl trivial rfl ?_
  refine a_nil ?_
  refine a_next (σ' := ⟨[(0, (.int .i64 a0))], []⟩) (by kernel_rfl) ?_
  refine a_seq ?_
  refine a_region ?_
  refine a_val (v := (.int .i64 a0)) (u := []) rfl trivial rfl ?_
  refine a_val (v := (.bool (a0 == 2))) (u := []) rfl trivial rfl ?_
  refine a_val (v := (.bool (a0 == 2))) (u := []) rfl trivial rfl ?_
  cases hb1 : (a0 == 2)
  · have h := ite_f hb1 h
    refine a_gval rfl (v := (.int .i64 a0)) (u := []) rfl trivial rfl ?_
    refine a_gval rfl (v := (.bool (a0 == 3))) (u := []) rfl trivial rfl ?_
    refine a_val (v := (.bool (a0 == 3))) (u := []) rfl trivial rfl ?_
    refine a_val (v := (.bool (a0 == 3))) (u := []) rfl trivial rfl ?_
    cases hb2 : (a0 == 3)
    · have h := ite_f hb2 h
      refine a_gval rfl (v := (.int .i64 a0)) (u := []) rfl trivial rfl ?_
      refine a_gval rfl (v := (.bool (a0 == 5))) (u := []) rfl trivial rfl ?_
      refine a_val (v := (.bool (a0 == 5))) (u := []) rfl trivial rfl ?_
      refine a_val (v := (.bool (a0 == 5))) (u := []) rfl trivial rfl ?_
      cases hb3 : (a0 == 5)
      · have h := ite_f hb3 h
        refine a_gval rfl (v := (.int .i64 a0)) (u := []) rfl trivial rfl ?_
        refine a_gval rfl (v := (.bool (a0 == 7))) (u := []) rfl trivial rfl ?_
        refine a_val (v := (.bool (a0 == 7))) (u := []) rfl trivial rfl ?_
        refine a_val (v := (.bool (a0 == 7))) (u := []) rfl trivial rfl ?_
        refine a_nil ?_
        refine a_next rfl ?_
        refine a_ret ?_
        refine ⟨.inr rfl, ?_⟩
        rw [Try.results53]
        cases h
        exact ⟨_, _, _, _, _, rfl, trivial, .inl ⟨rfl, .inl rfl⟩, rfl, rfl⟩
      · have h := ite_t hb3 h
        refine a_gskip rfl ?_
        refine a_gskip rfl ?_
        refine a_val (v := (.bool true)) (u := []) rfl trivial rfl ?_
        refine a_val (v := (.bool true)) (u := []) rfl trivial rfl ?_
        refine a_nil ?_
        refine a_next rfl ?_
        refine a_ret ?_
        refine ⟨.inr rfl, ?_⟩
        rw [Try.results53]
        cases h
        exact ⟨_, _, _, _, _, rfl, trivial, .inl ⟨rfl, .inl rfl⟩, rfl, rfl⟩
    · have h := ite_t hb2 h
      refine a_gskip rfl ?_
      refine a_gskip rfl ?_
      refine a_val (v := (.bool true)) (u := []) rfl trivial rfl ?_
      refine a_val (v := (.bool true)) (u := []) rfl trivial rfl ?_
      refine a_gskip rfl ?_
      refine a_gskip rfl ?_
      refine a_val (v := (.bool true)) (u := []) rfl trivial rfl ?_
      refine a_val (v := (.bool true)) (u := []) rfl trivial rfl ?_
      refine a_nil ?_
      refine a_next rfl ?_
      refine a_ret ?_
      refine ⟨.inr rfl, ?_⟩
      rw [Try.results53]
      cases h
      exact ⟨_, _, _, _, _, rfl, trivial, .inl ⟨rfl, .inl rfl⟩, rfl, rfl⟩
  · have h := ite_t hb1 h
    refine a_gskip rfl ?_
    refine a_gskip rfl ?_
    refine a_val (v := (.bool true)) (u := []) rfl trivial rfl ?_
    refine a_val (v := (.bool true)) (u := []) rfl trivial rfl ?_
    refine a_gskip rfl ?_
    refine a_gskip rfl ?_
    refine a_val (v := (.bool true)) (u := []) rfl trivial rfl ?_
    refine a_val (v := (.bool true)) (u := []) rfl trivial rfl ?_
    refine a_gskip rfl ?_
    refine a_gskip rfl ?_
    refine a_val (v := (.bool true)) (u := []) rfl trivial rfl ?_
    refine a_val (v := (.bool true)) (u := []) rfl trivial rfl ?_
    refine a_nil ?_
    refine a_next rfl ?_
    refine a_ret ?_
    refine ⟨.inr rfl, ?_⟩
    rw [Try.results53]
    cases h
    exact ⟨_, _, _, _, _, rfl, trivial, .inl ⟨rfl, .inl rfl⟩, rfl, rfl⟩
def impl_isPoly_c1_of_p_c : ACode := (.seq (.region 0 [⟨some 3, .asg 0 (.const (.bool false)) 4, none, []⟩] false) (.seq (.region 1 [⟨some 4, .mov (.tmp 0), none, []⟩, ⟨some 5, .conv 5 2 (.tmp 4), none, []⟩, ⟨some 6, .load 2 (.tmp 1), none, []⟩, ⟨some 7, .bin .lss 2 (.tmp 5) (.tmp 6), none, []⟩, ⟨some 3, .asg 0 (.tmp 7) 4, none, []⟩] false) .ret))
def impl_isPoly_c1_of_p_L : Live := [(0, [0, 1]), (1, [0, 1])]
theorem impl_isPoly_c1_of_p_body : Try.f143.body = some (Try.f143.body.getD .skip) := by kernel_rfl
theorem impl_isPoly_c1_of_p_strip : strip [] (Try.f143.body.getD .skip) = impl_isPoly_c1_of_p_c := by kernel_rfl
noncomputable def impl_isPoly_c1_of_p (a0 : Int) (a1 : Int) : Option Bool :=
  (some ((decide ((IntKind.i64.wrap a0) < a1))))
set_option maxHeartbeats 16000000 in
theorem impl_isPoly_c1_of_p_ok (a0 : Int) (a1 : Int) (r : Bool) (h : impl_isPoly_c1_of_p a0 a1 = some r) : Den Try.prog 143 [(.int .u8 a0), (.ref (.int .i64 a1) [] [])] { r := (.bool r) } := by
  refine den_of (rs := [(.bool r)]) (ac := impl_isPoly_c1_of_p_c) (L := impl_isPoly_c1_of_p_L) (n := 8) (m := []) good Try.func143 impl_isPoly_c1_of_p_body (by kernel_rfl) Try.ntmps143 rfl rfl impl_isPoly_c1_of_p_strip rfl rfl ?_
  refine a_st (σ' := ⟨[(0, (.int .u8 a0)), (1, (.ref (.int .i64 a1) [] []))], []⟩) (by kernel_rfl) ?_
  unfold impl_isPoly_c1_of_p_c
  refine a_seq ?_
  refine a_region ?_
  refine a_val (v := (.bool false)) (u := []) rfl trivial rfl ?_
  refine a_nil ?_
  refine a_next (σ' := ⟨[(0, (.int .u8 a0)), (1, (.ref (.int .i64 a1) [] []))], []⟩) (by kernel_rfl) ?_
  refine a_seq ?_
  refine a_region ?_
  refine a_val (v := (.int .u8 a0)) (u := []) rfl trivial rfl ?_
  refine a_val (v := (.int .i64 (IntKind.i64.wrap a0))) (u := []) rfl trivial rfl ?_
  have hl1 : LdOk [] (.int .i64 a1) [] 1 false (.int .i64 a1) := (.nil rfl rfl rfl)
  refine a_val (v := (.int .i64 a1)) (u := []) (ld_ref (i := ⟨.int .i64, 1, 8, (.int .i64 0)⟩) rfl rfl hl1) hl1.c rfl ?_
  refine a_val (v := (.bool ((decide ((IntKind.i64.wrap a0) < a1))))) (u := []) rfl trivial rfl ?_
  refine a_val (v := (.bool ((decide ((IntKind.i64.wrap a0) < a1))))) (u := []) rfl trivial rfl ?_
  refine a_nil ?_
  refine a_next rfl ?_
  refine a_ret ?_
  refine ⟨.inr rfl, ?_⟩
  rw [Try.results143]
  cases h
  exact ⟨_, _, _, _, _, rfl, trivial, .inl ⟨rfl, .inl rfl⟩, rfl, rfl⟩
def impl_areAll_byte__c1_of_p_c : ACode := (.seq (.region 0 [⟨some 3, .asg 0 (.const (.bool false)) 4, none, []⟩] false) (.seq (.region 1 [⟨some 4, .load 141 (.tmp 1), none, []⟩, ⟨some 5, .mov (.tmp 0), none, []⟩, ⟨some 6, .call 0 (.tmp 4) [(.tmp 5)], none, []⟩, ⟨some 7, .un .not (.tmp 6), none, []⟩, ⟨some 3, .asg 0 (.tmp 7) 4, none, []⟩] false) .ret))
def impl_areAll_byte__c1_of_p_L : Live := [(0, [0, 1]), (1, [0, 1])]
theorem impl_areAll_byte__c1_of_p_body : Try.f159.body = some (Try.f159.body.getD .skip) := by kernel_rfl
theorem impl_areAll_byte__c1_of_p_strip : strip [] (Try.f159.body.getD .skip) = impl_areAll_byte__c1_of_p_c := by kernel_rfl
noncomputable def impl_areAll_byte__c1_of_p (a0 : Int) (a1c0 : Int) : Option Bool :=
  (Option.bind (impl_isPoly_c1_of_p a0 a1c0) fun r2 => (some (!r2)))
set_option maxHeartbeats 16000000 in
theorem impl_areAll_byte__c1_of_p_ok (a0 : Int) (a1c0 : Int) (r : Bool) (h : impl_areAll_byte__c1_of_p a0 a1c0 = some r) : Den Try.prog 159 [(.int .u8 a0), (.ref (.clo 143 [] [(.ref (.int .i64 a1c0) [] [])]) [] [])] { r := (.bool r) } := by
  refine den_of (rs := [(.bool r)]) (ac := impl_areAll_byte__c1_of_p_c) (L := impl_areAll_byte__c1_of_p_L) (n := 8) (m := []) good Try.func159 impl_areAll_byte__c1_of_p_body (by kernel_rfl) Try.ntmps159 rfl rfl impl_areAll_byte__c1_of_p_strip rfl rfl ?_
  refine a_st (σ' := ⟨[(0, (.int .u8 a0)), (1, (.ref (.clo 143 [] [(.ref (.int .i64 a1c0) [] [])]) [] []))], []⟩) (by kernel_rfl) ?_
  unfold impl_areAll_byte__c1_of_p_c
  refine a_seq ?_
  refine a_region ?_
  refine a_val (v := (.bool false)) (u := []) rfl trivial rfl ?_
  refine a_nil ?_
  refine a_next (σ' := ⟨[(0, (.int .u8 a0)), (1, (.ref (.clo 143 [] [(.ref (.int .i64 a1c0) [] [])]) [] []))], []⟩) (by kernel_rfl) ?_
  refine a_seq ?_
  refine a_region ?_
  have hl1 : LdOk [] (.clo 143 [] [(.ref (.int .i64 a1c0) [] [])]) [] 1 false (.clo 143 [] [(.ref (.int .i64 a1c0) [] [])]) := (.nil rfl rfl rfl)
  refine a_val (v := (.clo 143 [] [(.ref (.int .i64 a1c0) [] [])])) (u := []) (ld_ref (i := ⟨.other, 1, 8, (.raw .nilFunc)⟩) rfl rfl hl1) hl1.c rfl ?_
  refine a_val (v := (.int .u8 a0)) (u := []) rfl trivial rfl ?_
  obtain ⟨r2, hr3, h⟩ := bind_some h
  refine a_call (args := [(.int .u8 a0), (.ref (.int .i64 a1c0) [] [])]) (u := []) (r := (.bool r2)) rfl rfl (impl_isPoly_c1_of_p_ok a0 a1c0 r2 hr3) rfl ?_
  refine a_val (v := (.bool (!r2))) (u := []) rfl trivial rfl ?_
  refine a_val (v := (.bool (!r2))) (u := []) rfl trivial rfl ?_
  refine a_nil ?_
  refine a_next rfl ?_
  refine a_ret ?_
  refine ⟨.inr rfl, ?_⟩
  rw [Try.results159]
  cases h
  exact ⟨_, _, _, _, _, rfl, trivial, .inl ⟨rfl, .inl rfl⟩, rfl, rfl⟩
def slices_IndexFunc_byte_byte_of_impl_areAll_byte__c1_p_c : ACode := (.seq (.region 0 [⟨some 4, .asg 0 (.const (.int .i64 0)) 3, none, []⟩] false) (.seq (.seq (.region 1 [⟨some 6, .mov (.tmp 0), none, []⟩, ⟨some 7, .blt 0 .len [(.tmp 6)] [140], none, []⟩, ⟨some 8, .mov (.const (.int .i64 0)), none, []⟩] false) (.block 0 (.loop (.seq (.region 2 [⟨some 9, .bin .lss 3 (.tmp 8) (.tmp 7), none, []⟩] false) (.seq (.cond (.tmp 9) .skip (.exit 0)) (.seq (.block 1 (.seq (.region 3 [⟨some 10, .mov (.tmp 8), none, []⟩, ⟨some 5, .asg 0 (.tmp 10) 3, none, []⟩] false) (.seq (.region 4 [⟨some 11, .mov (.tmp 1), none, []⟩, ⟨some 12, .mov (.tmp 0), none, []⟩, ⟨some 13, .mov (.tmp 5), none, []⟩, ⟨some 14, .indexAddr 140 (.tmp 12) (.tmp 13), none, []⟩, ⟨some 15, .load 5 (.tmp 14), none, []⟩, ⟨some 16, .call 0 (.tmp 11) [(.tmp 15)], none, []⟩] false) (.cond (.tmp 16) (.seq (.region 5 [⟨some 17, .mov (.tmp 5), none, []⟩, ⟨some 4, .asg 0 (.tmp 17) 3, none, []⟩] false) .ret) .skip)))) (.region 6 [⟨some 18, .bin .add 3 (.tmp 8) (.const (.int .i64 1)), none, []⟩, ⟨some 8, .mov (.tmp 18), none, []⟩] false))))))) (.seq (.region 7 [⟨some 4, .asg 0 (.const (.int .i64 (-1))) 3, none, []⟩] false) .ret)))
def slices_IndexFunc_byte_byte_of_impl_areAll_byte__c1_p_L : Live := [(0, [0, 1]), (1, [0, 1]), (2, [0, 1, 7, 8]), (3, [0, 1, 7, 8]), (4, [0, 1, 5, 7, 8]), (5, [5]), (6, [0, 1, 7, 8]), (7, []), (100009, [0, 1, 7, 8, 9]), (100016, [0, 1, 5, 7, 8, 16])]
theorem slices_IndexFunc_byte_byte_of_impl_areAll_byte__c1_p_body : Try.f165.body = some (Try.f165.body.getD .skip) := by kernel_rfl
theorem slices_IndexFunc_byte_byte_of_impl_areAll_byte__c1_p_strip : strip [] (Try.f165.body.getD .skip) = slices_IndexFunc_byte_byte_of_impl_areAll_byte__c1_p_c := by kernel_rfl
noncomputable def slices_IndexFunc_byte_byte_of_impl_areAll_byte__c1_p_l1 (a0 : (List Int)) (a1c0c0 : Int) (x33 : Int) : Option (Int ⊕ (Unit ⊕ Int)) :=
  (if (decide (x33 < (a0.length : Int))) then (ifp (0 ≤ x33 ∧ x33 < ((a0.length : Nat) : Int)) ((Option.bind (impl_areAll_byte__c1_of_p (rd a0 x33.toNat) a1c0c0) fun r46 => (if r46 then (some (.inr (.inr x33))) else (some (.inl (IntKind.i64.wrap (x33 + 1)))))))) else (some (.inr (((.inl ()))))))
noncomputable def slices_IndexFunc_byte_byte_of_impl_areAll_byte__c1_p (a0 : (List Int)) (a1c0c0 : Int) : Option Int :=
  (Option.bind (α := (Unit ⊕ Int)) ((loopM (fun s : Int => slices_IndexFunc_byte_byte_of_impl_areAll_byte__c1_p_l1 a0 a1c0c0 s) 0)) fun z => match z with | .inl _ => (some (-1)) | .inr r50 => (some r50))
set_option maxHeartbeats 16000000 in
theorem slices_IndexFunc_byte_byte_of_impl_areAll_byte__c1_p_ok (a0 : (List Int)) (a1c0c0 : Int) (r : Int) (h : slices_IndexFunc_byte_byte_of_impl_areAll_byte__c1_p a0 a1c0c0 = some r) : Den Try.prog 165 [(eSu8 a0), (.clo 159 [] [(.ref (.clo 143 [] [(.ref (.int .i64 a1c0c0) [] [])]) [] [])])] { r := (.int .i64 r) } := by
  refine den_of (rs := [(.int .i64 r)]) (ac := slices_IndexFunc_byte_byte_of_impl_areAll_byte__c1_p_c) (L := slices_IndexFunc_byte_byte_of_impl_areAll_byte__c1_p_L) (n := 19) (m := []) good Try.func165 slices_IndexFunc_byte_byte_of_impl_areAll_byte__c1_p_body (by kernel_rfl) Try.ntmps165 rfl rfl slices_IndexFunc_byte_byte_of_impl_areAll_byte__c1_p_strip rfl rfl ?_
  refine a_st (σ' := ⟨[(0, (eSu8 a0)), (1, (.clo 159 [] [(.ref (.clo 143 [] [(.ref (.int .i64 a1c0c0) [] [])]) [] [])]))], []⟩) (by kernel_rfl) ?_
  unfold slices_IndexFunc_byte_byte_of_impl_areAll_byte__c1_p_c
  refine a_seq ?_
  refine a_region ?_
  refine a_val (v := (.int .i64 0)) (u := []) rfl trivial rfl ?_
  refine a_nil ?_
  refine a_next (σ' := ⟨[(0, (eSu8 a0)), (1, (.clo 159 [] [(.ref (.clo 143 [] [(.ref (.int .i64 a1c0c0) [] [])]) [] [])]))], []⟩) (by kernel_rfl) ?_
  obtain ⟨y24, hy25, hk26⟩ := bind_some h
  clear h
  refine a_join (emb := fun (s : Unit) => ⟨[], []⟩) (pre := fun s => (.inl s) = y24) ?_ ?_
  · rintro _ rfl
    have h := hk26
    refine a_st (σ' := ⟨[], []⟩) (by kernel_rfl) ?_
    refine a_seq ?_
    refine a_region ?_
    refine a_val (v := (.int .i64 (-1))) (u := []) rfl trivial rfl ?_
    refine a_nil ?_
    refine a_next rfl ?_
    refine a_ret ?_
    refine ⟨.inr rfl, ?_⟩
    rw [Try.results165]
    cases h
    exact ⟨_, _, _, _, _, rfl, trivial, .inl ⟨rfl, .inl rfl⟩, rfl, rfl⟩
  · have h := hy25
    refine a_seq ?_
    refine a_region ?_
    refine a_val (v := (eSu8 a0)) (u := []) rfl trivial rfl ?_
    refine a_val (v := (.int .i64 (a0.length : Int))) (u := []) (len_run rfl rfl) trivial rfl ?_
    refine a_val (v := (.int .i64 0)) (u := []) rfl trivial rfl ?_
    refine a_nil ?_
    refine a_next (σ' := ⟨[(0, (eSu8 a0)), (1, (.clo 159 [] [(.ref (.clo 143 [] [(.ref (.int .i64 a1c0c0) [] [])]) [] [])])), (7, (.int .i64 (a0.length : Int))), (8, (.int .i64 0))], []⟩) (by kernel_rfl) ?_
    refine a_block ?_
    refine a_loop (emb := fun (s : Int) => ⟨[(0, (eSu8 a0)), (1, (.clo 159 [] [(.ref (.clo 143 [] [(.ref (.int .i64 a1c0c0) [] [])]) [] [])])), (7, (.int .i64 (a0.length : Int))), (8, (.int .i64 s))], []⟩) (body := (fun s : Int => slices_IndexFunc_byte_byte_of_impl_areAll_byte__c1_p_l1 a0 a1c0c0 s)) (G := fun q => some q = some y24) h rfl ?_ (by kernel_rfl)
    rintro X40 x33 x41 h hX42
    have h : slices_IndexFunc_byte_byte_of_impl_areAll_byte__c1_p_l1 a0 a1c0c0 x33 = some x41 := h
    refine a_st (σ' := ⟨[(0, (eSu8 a0)), (1, (.clo 159 [] [(.ref (.clo 143 [] [(.ref (.int .i64 a1c0c0) [] [])]) [] [])])), (7, (.int .i64 (a0.length : Int))), (8, (.int .i64 x33))], []⟩) (by kernel_rfl) ?_
    refine a_seq ?_
    refine a_region ?_
    refine a_val (v := (.bool ((decide (x33 < (a0.length : Int)))))) (u := []) rfl trivial rfl ?_
    refine a_nil ?_
    refine a_next (σ' := ⟨[(0, (eSu8 a0)), (1, (.clo 159 [] [(.ref (.clo 143 [] [(.ref (.int .i64 a1c0c0) [] [])]) [] [])])), (7, (.int .i64 (a0.length : Int))), (8, (.int .i64 x33)), (9, (.bool ((decide (x33 < (a0.length : Int))))))], []⟩) (by kernel_rfl) ?_
    refine a_seq ?_
    cases hb43 : (decide (x33 < (a0.length : Int)))
    · have h := ite_f hb43 h
      refine a_cond_f rfl ?_
      refine a_exit ?_
      refine t_exit ?_
      cases h
      have h := hX42
      refine t_exit ?_
      refine b_exit ?_
      exact j_leaf () (Option.some.inj h) (by kernel_rfl)
    · have h := ite_t hb43 h
      refine a_cond_t rfl ?_
      refine a_skip ?_
      refine a_next (σ' := ⟨[(0, (eSu8 a0)), (1, (.clo 159 [] [(.ref (.clo 143 [] [(.ref (.int .i64 a1c0c0) [] [])]) [] [])])), (7, (.int .i64 (a0.length : Int))), (8, (.int .i64 x33))], []⟩) (by kernel_rfl) ?_
      refine a_seq ?_
      refine a_block ?_
      refine a_seq ?_
      refine a_region ?_
      refine a_val (v := (.int .i64 x33)) (u := []) rfl trivial rfl ?_
      refine a_val (v := (.int .i64 x33)) (u := []) rfl trivial rfl ?_
      refine a_nil ?_
      refine a_next (σ' := ⟨[(0, (eSu8 a0)), (1, (.clo 159 [] [(.ref (.clo 143 [] [(.ref (.int .i64 a1c0c0) [] [])]) [] [])])), (5, (.int .i64 x33)), (7, (.int .i64 (a0.length : Int))), (8, (.int .i64 x33))], []⟩) (by kernel_rfl) ?_
      refine a_seq ?_
      refine a_region ?_
      refine a_val (v := (.clo 159 [] [(.ref (.clo 143 [] [(.ref (.int .i64 a1c0c0) [] [])]) [] [])])) (u := []) rfl trivial rfl ?_
      refine a_val (v := (eSu8 a0)) (u := []) rfl trivial rfl ?_
      refine a_val (v := (.int .i64 x33)) (u := []) rfl trivial rfl ?_
      obtain ⟨hc44, h⟩ := ifp_some h
      refine a_val (v := (.ref (.row 1 (a0.map (AV.int .u8))) [x33.toNat] [x33.toNat * 1])) (u := []) rfl (lmap hc44) rfl ?_
      have hl45 : LdOk [x33.toNat] (.row 1 (a0.map (AV.int .u8))) [x33.toNat * 1] 1 false (.int .u8 (rd a0 x33.toNat)) := (.row (llt hc44) rfl (.nil rfl rfl rfl))
      refine a_val (v := (.int .u8 (rd a0 x33.toNat))) (u := []) (ld_ref (i := ⟨.int .u8, 1, 1, (.int .u8 0)⟩) rfl rfl hl45) hl45.c rfl ?_
      obtain ⟨r46, hr47, h⟩ := bind_some h
      refine a_call (args := [(.int .u8 (rd a0 x33.toNat)), (.ref (.clo 143 [] [(.ref (.int .i64 a1c0c0) [] [])]) [] [])]) (u := []) (r := (.bool r46)) rfl rfl (impl_areAll_byte__c1_of_p_ok (rd a0 x33.toNat) a1c0c0 r46 hr47) rfl ?_
      refine a_nil ?_
      refine a_next (σ' := ⟨[(0, (eSu8 a0)), (1, (.clo 159 [] [(.ref (.clo 143 [] [(.ref (.int .i64 a1c0c0) [] [])]) [] [])])), (5, (.int .i64 x33)), (7, (.int .i64 (a0.length : Int))), (8, (.int .i64 x33)), (16, (.bool r46))], []⟩) (by kernel_rfl) ?_
      cases hb48 : r46
      · have h := ite_f hb48 h
        refine a_cond_f rfl ?_
        refine a_skip ?_
        refine b_norm ?_
        refine a_next (σ' := ⟨[(0, (eSu8 a0)), (1, (.clo 159 [] [(.ref (.clo 143 [] [(.ref (.int .i64 a1c0c0) [] [])]) [] [])])), (7, (.int .i64 (a0.length : Int))), (8, (.int .i64 x33))], []⟩) (by kernel_rfl) ?_
        refine a_region ?_
        refine a_val (v := (.int .i64 (IntKind.i64.wrap (x33 + 1)))) (u := []) rfl trivial rfl ?_
        refine a_val (v := (.int .i64 (IntKind.i64.wrap (x33 + 1)))) (u := []) rfl trivial rfl ?_
        refine a_nil ?_
        cases h
        exact a_again (by kernel_rfl) hX42
      · have h := ite_t hb48 h
        refine a_cond_t rfl ?_
        refine a_seq ?_
        refine a_region ?_
        refine a_val (v := (.int .i64 x33)) (u := []) rfl trivial rfl ?_
        refine a_val (v := (.int .i64 x33)) (u := []) rfl trivial rfl ?_
        refine a_nil ?_
        refine a_next rfl ?_
        refine a_ret ?_
        refine b_ret ?_
        refine t_ret ?_
        cases h
        have h := hX42
        refine t_ret ?_
        refine b_ret ?_
        refine t_ret ?_
        cases h
        have h := hk26
        refine ⟨.inr rfl, ?_⟩
        rw [Try.results165]
        cases h
        exact ⟨_, _, _, _, _, rfl, trivial, .inl ⟨rfl, .inl rfl⟩, rfl, rfl⟩
def slices_ContainsFunc_byte_byte_of_impl_areAll_byte__c1_p_c : ACode := (.seq (.region 0 [⟨some 4, .asg 0 (.const (.bool false)) 4, none, []⟩] false) (.seq (.region 1 [⟨some 5, .mov (.tmp 0), none, []⟩, ⟨some 6, .mov (.tmp 1), none, []⟩, ⟨some 7, .call 0 (.func 165) [(.tmp 5), (.tmp 6)], none, []⟩, ⟨some 8, .bin .geq 3 (.tmp 7) (.const (.int .i64 0)), none, []⟩, ⟨some 4, .asg 0 (.tmp 8) 4, none, []⟩] false) .ret))
def slices_ContainsFunc_byte_byte_of_impl_areAll_byte__c1_p_L : Live := [(0, [0, 1]), (1, [0, 1])]
theorem slices_ContainsFunc_byte_byte_of_impl_areAll_byte__c1_p_body : Try.f158.body = some (Try.f158.body.getD .skip) := by kernel_rfl
theorem slices_ContainsFunc_byte_byte_of_impl_areAll_byte__c1_p_strip : strip [] (Try.f158.body.getD .skip) = slices_ContainsFunc_byte_byte_of_impl_areAll_byte__c1_p_c := by kernel_rfl
noncomputable def slices_ContainsFunc_byte_byte_of_impl_areAll_byte__c1_p (a0 : (List Int)) (a1c0c0 : Int) : Option Bool :=
  (Option.bind (slices_IndexFunc_byte_byte_of_impl_areAll_byte__c1_p a0 a1c0c0) fun r1 => (some ((decide (r1 ≥ 0)))))
set_option maxHeartbeats 16000000 in
theorem slices_ContainsFunc_byte_byte_of_impl_areAll_byte__c1_p_ok (a0 : (List Int)) (a1c0c0 : Int) (r : Bool) (h : slices_ContainsFunc_byte_byte_of_impl_areAll_byte__c1_p a0 a1c0c0 = some r) : Den Try.prog 158 [(eSu8 a0), (.clo 159 [] [(.ref (.clo 143 [] [(.ref (.int .i64 a1c0c0) [] [])]) [] [])])] { r := (.bool r) } := by
  refine den_of (rs := [(.bool r)]) (ac := slices_ContainsFunc_byte_byte_of_impl_areAll_byte__c1_p_c) (L := slices_ContainsFunc_byte_byte_of_impl_areAll_byte__c1_p_L) (n := 9) (m := []) good Try.func158 slices_ContainsFunc_byte_byte_of_impl_areAll_byte__c1_p_body (by kernel_rfl) Try.ntmps158 rfl rfl slices_ContainsFunc_byte_byte_of_impl_areAll_byte__c1_p_strip rfl rfl ?_
  refine a_st (σ' := ⟨[(0, (eSu8 a0)), (1, (.clo 159 [] [(.ref (.clo 143 [] [(.ref (.int .i64 a1c0c0) [] [])]) [] [])]))], []⟩) (by kernel_rfl) ?_
  unfold slices_ContainsFunc_byte_byte_of_impl_areAll_byte__c1_p_c
  refine a_seq ?_
  refine a_region ?_
  refine a_val (v := (.bool false)) (u := []) rfl trivial rfl ?_
  refine a_nil ?_
  refine a_next (σ' := ⟨[(0, (eSu8 a0)), (1, (.clo 159 [] [(.ref (.clo 143 [] [(.ref (.int .i64 a1c0c0) [] [])]) [] [])]))], []⟩) (by kernel_rfl) ?_
  refine a_seq ?_
  refine a_region ?_
  refine a_val (v := (eSu8 a0)) (u := []) rfl trivial rfl ?_
  refine a_val (v := (.clo 159 [] [(.ref (.clo 143 [] [(.ref (.int .i64 a1c0c0) [] [])]) [] [])])) (u := []) rfl trivial rfl ?_
  obtain ⟨r1, hr2, h⟩ := bind_some h
  refine a_call (args := [(eSu8 a0), (.clo 159 [] [(.ref (.clo 143 [] [(.ref (.int .i64 a1c0c0) [] [])]) [] [])])]) (u := []) (r := (.int .i64 r1)) rfl rfl (slices_IndexFunc_byte_byte_of_impl_areAll_byte__c1_p_ok a0 a1c0c0 r1 hr2) rfl ?_
  refine a_val (v := (.bool ((decide (r1 ≥ 0))))) (u := []) rfl trivial rfl ?_
  refine a_val (v := (.bool ((decide (r1 ≥ 0))))) (u := []) rfl trivial rfl ?_
  refine a_nil ?_
  refine a_next rfl ?_
  refine a_ret ?_
  refine ⟨.inr rfl, ?_⟩
  rw [Try.results158]
  cases h
  exact ⟨_, _, _, _, _, rfl, trivial, .inl ⟨rfl, .inl rfl⟩, rfl, rfl⟩
def impl_areAll_byte_of_impl_isPoly_c1_p_c : ACode := (.seq (.region 0 [⟨some 3, .box 141 (.tmp 1), none, []⟩, ⟨some 4, .asg 0 (.const (.bool false)) 4, none, []⟩] false) (.seq (.region 1 [⟨some 5, .mov (.tmp 0), none, []⟩, ⟨some 6, .mkfn 159 [] [(.tmp 3)], none, []⟩, ⟨some 7, .call 0 (.func 158) [(.tmp 5), (.tmp 6)], none, []⟩, ⟨some 8, .un .not (.tmp 7), none, []⟩, ⟨some 4, .asg 0 (.tmp 8) 4, none, []⟩] false) .ret))
def impl_areAll_byte_of_impl_isPoly_c1_p_L : Live := [(0, [0, 1]), (1, [0, 3])]
theorem impl_areAll_byte_of_impl_isPoly_c1_p_body : Try.f142.body = some (Try.f142.body.getD .skip) := by kernel_rfl
theorem impl_areAll_byte_of_impl_isPoly_c1_p_strip : strip [] (Try.f142.body.getD .skip) = impl_areAll_byte_of_impl_isPoly_c1_p_c := by kernel_rfl
noncomputable def impl_areAll_byte_of_impl_isPoly_c1_p (a0 : (List Int)) (a1c0 : Int) : Option Bool :=
  (Option.bind (slices_ContainsFunc_byte_byte_of_impl_areAll_byte__c1_p a0 a1c0) fun r1 => (some (!r1)))
set_option maxHeartbeats 16000000 in
theorem impl_areAll_byte_of_impl_isPoly_c1_p_ok (a0 : (List Int)) (a1c0 : Int) (r : Bool) (h : impl_areAll_byte_of_impl_isPoly_c1_p a0 a1c0 = some r) : Den Try.prog 142 [(eSu8 a0), (.clo 143 [] [(.ref (.int .i64 a1c0) [] [])])] { r := (.bool r) } := by
  refine den_of (rs := [(.bool r)]) (ac := impl_areAll_byte_of_impl_isPoly_c1_p_c) (L := impl_areAll_byte_of_impl_isPoly_c1_p_L) (n := 9) (m := []) good Try.func142 impl_areAll_byte_of_impl_isPoly_c1_p_body (by kernel_rfl) Try.ntmps142 rfl rfl impl_areAll_byte_of_impl_isPoly_c1_p_strip rfl rfl ?_
  refine a_st (σ' := ⟨[(0, (eSu8 a0)), (1, (.clo 143 [] [(.ref (.int .i64 a1c0) [] [])]))], []⟩) (by kernel_rfl) ?_
  unfold impl_areAll_byte_of_impl_isPoly_c1_p_c
  refine a_seq ?_
  refine a_region ?_
  refine a_val (v := (.own 1300 [] [])) (u := [(1300, some ⟨(.clo 143 [] [(.ref (.int .i64 a1c0) [] [])]), false⟩)]) rfl trivial rfl ?_
  refine a_val (v := (.bool false)) (u := []) rfl trivial rfl ?_
  refine a_nil ?_
  refine a_next (σ' := ⟨[(0, (eSu8 a0)), (3, (.own 3 [] []))], [(3, some ⟨(.clo 143 [] [(.ref (.int .i64 a1c0) [] [])]), false⟩)]⟩) (by kernel_rfl) ?_
  refine a_seq ?_
  refine a_region ?_
  refine a_val (v := (eSu8 a0)) (u := []) rfl trivial rfl ?_
  refine a_val (v := (.clo 159 [] [(.ref (.clo 143 [] [(.ref (.int .i64 a1c0) [] [])]) [] [])])) (u := [(3, some ⟨(.clo 143 [] [(.ref (.int .i64 a1c0) [] [])]), true⟩)]) rfl ⟨all_nil, (all_cons ⟨rfl, rfl⟩ all_nil)⟩ rfl ?_
  obtain ⟨r1, hr2, h⟩ := bind_some h
  refine a_call (args := [(eSu8 a0), (.clo 159 [] [(.ref (.clo 143 [] [(.ref (.int .i64 a1c0) [] [])]) [] [])])]) (u := []) (r := (.bool r1)) rfl rfl (slices_ContainsFunc_byte_byte_of_impl_areAll_byte__c1_p_ok a0 a1c0 r1 hr2) rfl ?_
  refine a_val (v := (.bool (!r1))) (u := []) rfl trivial rfl ?_
  refine a_val (v := (.bool (!r1))) (u := []) rfl trivial rfl ?_
  refine a_nil ?_
  refine a_next rfl ?_
  refine a_ret ?_
  refine ⟨.inr rfl, ?_⟩
  rw [Try.results142]
  cases h
  exact ⟨_, _, _, _, _, rfl, trivial, .inl ⟨rfl, .inl rfl⟩, rfl, rfl⟩
def impl_isPoly_c : ACode := (.seq (.region 0 [⟨some 2, .box 2 (.tmp 0), none, []⟩, ⟨some 3, .box 23 (.tmp 1), none, []⟩, ⟨some 4, .asg 0 (.const (.bool false)) 4, none, []⟩] false) (.seq (.region 1 [⟨some 5, .slice 23 (.tmp 3) none none none, none, []⟩, ⟨some 6, .mkfn 143 [] [(.tmp 2)], none, []⟩, ⟨some 7, .call 0 (.func 142) [(.tmp 5), (.tmp 6)], none, []⟩, ⟨some 4, .asg 0 (.tmp 7) 4, none, []⟩] false) .ret))
def impl_isPoly_L : Live := [(0, [0, 1]), (1, [2, 3])]
theorem impl_isPoly_body : Try.f119.body = some (Try.f119.body.getD .skip) := by kernel_rfl
theorem impl_isPoly_strip : strip [] (Try.f119.body.getD .skip) = impl_isPoly_c := by kernel_rfl
noncomputable def impl_isPoly (a0 : Int) (a1 : (Vec Int 64)) : Option Bool :=
  (Option.bind (impl_areAll_byte_of_impl_isPoly_c1_p a1.1 a0) fun r1 => (some r1))
set_option maxHeartbeats 16000000 in
theorem impl_isPoly_ok (a0 : Int) (a1 : (Vec Int 64)) (r : Bool) (h : impl_isPoly a0 a1 = some r) : Den Try.prog 119 [(.int .i64 a0), (eA64u8 a1)] { r := (.bool r) } := by
  refine den_of (rs := [(.bool r)]) (ac := impl_isPoly_c) (L := impl_isPoly_L) (n := 8) (m := []) good Try.func119 impl_isPoly_body (by kernel_rfl) Try.ntmps119 rfl rfl impl_isPoly_strip rfl rfl ?_
  refine a_st (σ' := ⟨[(0, (.int .i64 a0)), (1, (eA64u8 a1))], []⟩) (by kernel_rfl) ?_
  unfold impl_isPoly_c
  refine a_seq ?_
  refine a_region ?_
  refine a_val (v := (.own 1200 [] [])) (u := [(1200, some ⟨(.int .i64 a0), false⟩)]) rfl trivial rfl ?_
  refine a_val (v := (.own 1300 [] [])) (u := [(1300, some ⟨(eA64u8 a1), false⟩)]) rfl trivial rfl ?_
  refine a_val (v := (.bool false)) (u := []) rfl trivial rfl ?_
  refine a_nil ?_
  refine a_next (σ' := ⟨[(2, (.own 2 [] [])), (3, (.own 3 [] []))], [(2, some ⟨(.int .i64 a0), false⟩), (3, some ⟨(eA64u8 a1), false⟩)]⟩) (by kernel_rfl) ?_
  refine a_seq ?_
  refine a_region ?_
  refine a_val (v := (.sl 1 true (a1.1.map (AV.int .u8)))) (u := [(3, some ⟨(eA64u8 a1), true⟩)]) rfl ⟨rfl, trivial, rfl, rfl⟩ rfl ?_
  refine a_val (v := (.clo 143 [] [(.ref (.int .i64 a0) [] [])])) (u := [(2, some ⟨(.int .i64 a0), true⟩)]) rfl ⟨all_nil, (all_cons ⟨rfl, rfl⟩ all_nil)⟩ rfl ?_
  obtain ⟨r1, hr2, h⟩ := bind_some h
  refine a_call (args := [(.sl 1 true (a1.1.map (AV.int .u8))), (.clo 143 [] [(.ref (.int .i64 a0) [] [])])]) (u := []) (r := (.bool r1)) rfl rfl (Den.args (impl_areAll_byte_of_impl_isPoly_c1_p_ok a1.1 a0 r1 hr2) rfl rfl (.cons (.loose _) (.cons (.refl _) .nil))) rfl ?_
  refine a_val (v := (.bool r1)) (u := []) rfl trivial rfl ?_
  refine a_nil ?_
  refine a_next rfl ?_
  refine a_ret ?_
  refine ⟨.inr rfl, ?_⟩
  rw [Try.results119]
  cases h
  exact ⟨_, _, _, _, _, rfl, trivial, .inl ⟨rfl, .inl rfl⟩, rfl, rfl⟩
def impl_IsPoly_c : ACode := (.seq (.region 0 [⟨some 3, .box 23 (.tmp 1), none, []⟩, ⟨some 4, .asg 0 (.const (.bool false)) 4, none, []⟩] false) (.seq (.region 1 [⟨some 5, .mov (.tmp 0), none, []⟩, ⟨some 6, .call 0 (.func 53) [(.tmp 5)], none, []⟩, ⟨some 7, .mov (.tmp 6), none, []⟩, ⟨some 8, .mov (.tmp 0), some (7, true), []⟩, ⟨some 9, .load 23 (.tmp 3), some (7, true), []⟩, ⟨some 10, .call 0 (.func 119) [(.tmp 8), (.tmp 9)], some (7, true), []⟩, ⟨some 11, .pick (.tmp 7) (.tmp 10) (.const (.bool false)), none, []⟩, ⟨some 4, .asg 0 (.tmp 11) 4, none, []⟩] false) .ret))
def impl_IsPoly_L : Live := [(0, [0, 1]), (1, [0, 3])]
theorem impl_IsPoly_body : Try.f160.body = some (Try.f160.body.getD .skip) := by kernel_rfl
theorem impl_IsPoly_strip : strip [] (Try.f160.body.getD .skip) = impl_IsPoly_c := by kernel_rfl
noncomputable def impl_IsPoly (a0 : Int) (a1 : (Vec Int 64)) : Option Bool :=
  (Option.bind (impl_isPrime a0) fun r1 => (if r1 then (Option.bind (impl_isPoly a0 a1) fun r5 => (some r5)) else (some false)))
set_option maxHeartbeats 16000000 in
theorem impl_IsPoly_ok (a0 : Int) (a1 : (Vec Int 64)) (r : Bool) (h : impl_IsPoly a0 a1 = some r) : Den Try.prog 160 [(.int .i64 a0), (eA64u8 a1)] { r := (.bool r) } := by
  refine den_of (rs := [(.bool r)]) (ac := impl_IsPoly_c) (L := impl_IsPoly_L) (n := 12) (m := []) good Try.func160 impl_IsPoly_body (by kernel_rfl) Try.ntmps160 rfl rfl impl_IsPoly_strip rfl rfl ?_
  refine a_st (σ' := ⟨[(0, (.int .i64 a0)), (1, (eA64u8 a1))], []⟩) (by kernel_rfl) ?_
  unfold impl_IsPoly_c
  refine a_seq ?_
  refine a_region ?_
  refine a_val (v := (.own 1300 [] [])) (u := [(1300, some ⟨(eA64u8 a1), false⟩)]) rfl trivial rfl ?_
  refine a_val (v := (.bool false)) (u := []) rfl trivial rfl ?_
  refine a_nil ?_
  refine a_next (σ' := ⟨[(0, (.int .i64 a0)), (3, (.own 3 [] []))], [(3, some ⟨(eA64u8 a1), false⟩)]⟩) (by kernel_rfl) ?_
  refine a_seq ?_
  refine a_region ?_
  refine a_val (v := (.int .i64 a0)) (u := []) rfl trivial rfl ?_
  obtain ⟨r1, hr2, h⟩ := bind_some h
  refine a_call (args := [(.int .i64 a0)]) (u := []) (r := (.bool r1)) rfl rfl (impl_isPrime_ok a0 r1 hr2) rfl ?_
  refine a_val (v := (.bool r1)) (u := []) rfl trivial rfl ?_
  cases hb3 : r1
  · have h := ite_f hb3 h
    refine a_gskip rfl ?_
    refine a_gskip rfl ?_
    refine a_gskip rfl ?_
    refine a_val (v := (.bool false)) (u := []) rfl trivial rfl ?_
    refine a_val (v := (.bool false)) (u := []) rfl trivial rfl ?_
    refine a_nil ?_
    refine a_next rfl ?_
    refine a_ret ?_
    refine ⟨.inr rfl, ?_⟩
    rw [Try.results160]
    cases h
    exact ⟨_, _, _, _, _, rfl, trivial, .inl ⟨rfl, .inl rfl⟩, rfl, rfl⟩
  · have h := ite_t hb3 h
    refine a_gval rfl (v := (.int .i64 a0)) (u := []) rfl trivial rfl ?_
    have hl4 : LdOk [] (eA64u8 a1) [] 64 true (eA64u8 a1) := (.nil rfl rfl rfl)
    refine a_gval rfl (v := (eA64u8 a1)) (u := []) (ld_own (i := ⟨.arr 64 5, 64, 64, (eA64u8 (vrep 64 (0 : Int)))⟩) rfl rfl rfl hl4) hl4.c rfl ?_
    obtain ⟨r5, hr6, h⟩ := bind_some h
    refine a_gcall rfl (args := [(.int .i64 a0), (eA64u8 a1)]) (u := []) (r := (.bool r5)) rfl rfl (impl_isPoly_ok a0 a1 r5 hr6) rfl ?_
    refine a_val (v := (.bool r5)) (u := []) rfl trivial rfl ?_
    refine a_val (v := (.bool r5)) (u := []) rfl trivial rfl ?_
    refine a_nil ?_
    refine a_next rfl ?_
    refine a_ret ?_
    refine ⟨.inr rfl, ?_⟩
    rw [Try.results160]
    cases h
    exact ⟨_, _, _, _, _, rfl, trivial, .inl ⟨rfl, .inl rfl⟩, rfl, rfl⟩
def impl_row_degree_c : ACode := (.seq (.region 0 [⟨some 2, .asg 0 (.const (.int .i64 0)) 2, none, []⟩] false) (.seq (.region 1 [⟨some 3, .mov (.tmp 0), none, []⟩, ⟨some 4, .blt 0 .len [(.tmp 3)] [64], none, []⟩, ⟨some 5, .bin .sub 2 (.tmp 4) (.const (.int .i64 1)), none, []⟩, ⟨some 2, .asg 0 (.tmp 5) 2, none, []⟩] false) .ret))
def impl_row_degree_L : Live := [(0, [0]), (1, [0])]
theorem impl_row_degree_body : Try.f89.body = some (Try.f89.body.getD .skip) := by kernel_rfl
theorem impl_row_degree_strip : strip [] (Try.f89.body.getD .skip) = impl_row_degree_c := by kernel_rfl
noncomputable def impl_row_degree (a0 : (List Int)) : Option Int :=
  (some (IntKind.i64.wrap ((a0.length : Int) - 1)))
set_option maxHeartbeats 16000000 in
theorem impl_row_degree_ok (a0 : (List Int)) (r : Int) (h : impl_row_degree a0 = some r) : Den Try.prog 89 [(eSi64 a0)] { r := (.int .i64 r) } := by
  refine den_of (rs := [(.int .i64 r)]) (ac := impl_row_degree_c) (L := impl_row_degree_L) (n := 6) (m := []) good Try.func89 impl_row_degree_body (by kernel_rfl) Try.ntmps89 rfl rfl impl_row_degree_strip rfl rfl ?_
  refine a_st (σ' := ⟨[(0, (eSi64 a0))], []⟩) (by kernel_rfl) ?_
  unfold impl_row_degree_c
  refine a_seq ?_
  refine a_region ?_
  refine a_val (v := (.int .i64 0)) (u := []) rfl trivial rfl ?_
  refine a_nil ?_
  refine a_next (σ' := ⟨[(0, (eSi64 a0))], []⟩) (by kernel_rfl) ?_
  refine a_seq ?_
  refine a_region ?_
  refine a_val (v := (eSi64 a0)) (u := []) rfl trivial rfl ?_
  refine a_val (v := (.int .i64 (a0.length : Int))) (u := []) (len_run rfl rfl) trivial rfl ?_
  refine a_val (v := (.int .i64 (IntKind.i64.wrap ((a0.length : Int) - 1)))) (u := []) rfl trivial rfl ?_
  refine a_val (v := (.int .i64 (IntKind.i64.wrap ((a0.length : Int) - 1)))) (u := []) rfl trivial rfl ?_
  refine a_nil ?_
  refine a_next rfl ?_
  refine a_ret ?_
  refine ⟨.inr rfl, ?_⟩
  rw [Try.results89]
  cases h
  exact ⟨_, _, _, _, _, rfl, trivial, .inl ⟨rfl, .inl rfl⟩, rfl, rfl⟩
def impl_polysCode_c1_of_p_c : ACode := (.seq (.region 0 [⟨some 2, .box 23 (.tmp 0), none, []⟩, ⟨some 3, .asg 0 (.const (.bool false)) 4, none, []⟩] false) (.seq (.region 1 [⟨some 4, .load 2 (.tmp 1), none, []⟩, ⟨some 5, .load 23 (.tmp 2), none, []⟩, ⟨some 6, .call 0 (.func 119) [(.tmp 4), (.tmp 5)], none, []⟩, ⟨some 3, .asg 0 (.tmp 6) 4, none, []⟩] false) .ret))
def impl_polysCode_c1_of_p_L : Live := [(0, [0, 1]), (1, [1, 2])]
theorem impl_polysCode_c1_of_p_body : Try.f118.body = some (Try.f118.body.getD .skip) := by kernel_rfl
theorem impl_polysCode_c1_of_p_strip : strip [] (Try.f118.body.getD .skip) = impl_polysCode_c1_of_p_c := by kernel_rfl
noncomputable def impl_polysCode_c1_of_p (a0 : (Vec Int 64)) (a1 : Int) : Option Bool :=
  (Option.bind (impl_isPoly a1 a0) fun r3 => (some r3))
set_option maxHeartbeats 16000000 in
theorem impl_polysCode_c1_of_p_ok (a0 : (Vec Int 64)) (a1 : Int) (r : Bool) (h : impl_polysCode_c1_of_p a0 a1 = some r) : Den Try.prog 118 [(eA64u8 a0), (.ref (.int .i64 a1) [] [])] { r := (.bool r) } := by
  refine den_of (rs := [(.bool r)]) (ac := impl_polysCode_c1_of_p_c) (L := impl_polysCode_c1_of_p_L) (n := 7) (m := []) good Try.func118 impl_polysCode_c1_of_p_body (by kernel_rfl) Try.ntmps118 rfl rfl impl_polysCode_c1_of_p_strip rfl rfl ?_
  refine a_st (σ' := ⟨[(0, (eA64u8 a0)), (1, (.ref (.int .i64 a1) [] []))], []⟩) (by kernel_rfl) ?_
  unfold impl_polysCode_c1_of_p_c
  refine a_seq ?_
  refine a_region ?_
  refine a_val (v := (.own 1200 [] [])) (u := [(1200, some ⟨(eA64u8 a0), false⟩)]) rfl trivial rfl ?_
  refine a_val (v := (.bool false)) (u := []) rfl trivial rfl ?_
  refine a_nil ?_
  refine a_next (σ' := ⟨[(1, (.ref (.int .i64 a1) [] [])), (2, (.own 2 [] []))], [(2, some ⟨(eA64u8 a0), false⟩)]⟩) (by kernel_rfl) ?_
  refine a_seq ?_
  refine a_region ?_
  have hl1 : LdOk [] (.int .i64 a1) [] 1 false (.int .i64 a1) := (.nil rfl rfl rfl)
  refine a_val (v := (.int .i64 a1)) (u := []) (ld_ref (i := ⟨.int .i64, 1, 8, (.int .i64 0)⟩) rfl rfl hl1) hl1.c rfl ?_
  have hl2 : LdOk [] (eA64u8 a0) [] 64 true (eA64u8 a0) := (.nil rfl rfl rfl)
  refine a_val (v := (eA64u8 a0)) (u := []) (ld_own (i := ⟨.arr 64 5, 64, 64, (eA64u8 (vrep 64 (0 : Int)))⟩) rfl rfl rfl hl2) hl2.c rfl ?_
  obtain ⟨r3, hr4, h⟩ := bind_some h
  refine a_call (args := [(.int .i64 a1), (eA64u8 a0)]) (u := []) (r := (.bool r3)) rfl rfl (impl_isPoly_ok a1 a0 r3 hr4) rfl ?_
  refine a_val (v := (.bool r3)) (u := []) rfl trivial rfl ?_
  refine a_nil ?_
  refine a_next rfl ?_
  refine a_ret ?_
  refine ⟨.inr rfl, ?_⟩
  rw [Try.results118]
  cases h
  exact ⟨_, _, _, _, _, rfl, trivial, .inl ⟨rfl, .inl rfl⟩, rfl, rfl⟩
def impl_areAll_impl_Poly__c1_of_p_c : ACode := (.seq (.region 0 [⟨some 2, .box 23 (.tmp 0), none, []⟩, ⟨some 3, .asg 0 (.const (.bool false)) 4, none, []⟩] false) (.seq (.region 1 [⟨some 4, .load 119 (.tmp 1), none, []⟩, ⟨some 5, .load 23 (.tmp 2), none, []⟩, ⟨some 6, .call 0 (.tmp 4) [(.tmp 5)], none, []⟩, ⟨some 7, .un .not (.tmp 6), none, []⟩, ⟨some 3, .asg 0 (.tmp 7) 4, none, []⟩] false) .ret))
def impl_areAll_impl_Poly__c1_of_p_L : Live := [(0, [0, 1]), (1, [1, 2])]
theorem impl_areAll_impl_Poly__c1_of_p_body : Try.f141.body = some (Try.f141.body.getD .skip) := by kernel_rfl
theorem impl_areAll_impl_Poly__c1_of_p_strip : strip [] (Try.f141.body.getD .skip) = impl_areAll_impl_Poly__c1_of_p_c := by kernel_rfl
noncomputable def impl_areAll_impl_Poly__c1_of_p (a0 : (Vec Int 64)) (a1c0 : Int) : Option Bool :=
  (Option.bind (impl_polysCode_c1_of_p a0 a1c0) fun r3 => (some (!r3)))
set_option maxHeartbeats 16000000 in
theorem impl_areAll_impl_Poly__c1_of_p_ok (a0 : (Vec Int 64)) (a1c0 : Int) (r : Bool) (h : impl_areAll_impl_Poly__c1_of_p a0 a1c0 = some r) : Den Try.prog 141 [(eA64u8 a0), (.ref (.clo 118 [] [(.ref (.int .i64 a1c0) [] [])]) [] [])] { r := (.bool r) } := by
  refine den_of (rs := [(.bool r)]) (ac := impl_areAll_impl_Poly__c1_of_p_c) (L := impl_areAll_impl_Poly__c1_of_p_L) (n := 8) (m := []) good Try.func141 impl_areAll_impl_Poly__c1_of_p_body (by kernel_rfl) Try.ntmps141 rfl rfl impl_areAll_impl_Poly__c1_of_p_strip rfl rfl ?_
  refine a_st (σ' := ⟨[(0, (eA64u8 a0)), (1, (.ref (.clo 118 [] [(.ref (.int .i64 a1c0) [] [])]) [] []))], []⟩) (by kernel_rfl) ?_
  unfold impl_areAll_impl_Poly__c1_of_p_c
  refine a_seq ?_
  refine a_region ?_
  refine a_val (v := (.own 1200 [] [])) (u := [(1200, some ⟨(eA64u8 a0), false⟩)]) rfl trivial rfl ?_
  refine a_val (v := (.bool false)) (u := []) rfl trivial rfl ?_
  refine a_nil ?_
  refine a_next (σ' := ⟨[(1, (.ref (.clo 118 [] [(.ref (.int .i64 a1c0) [] [])]) [] [])), (2, (.own 2 [] []))], [(2, some ⟨(eA64u8 a0), false⟩)]⟩) (by kernel_rfl) ?_
  refine a_seq ?_
  refine a_region ?_
  have hl1 : LdOk [] (.clo 118 [] [(.ref (.int .i64 a1c0) [] [])]) [] 1 false (.clo 118 [] [(.ref (.int .i64 a1c0) [] [])]) := (.nil rfl rfl rfl)
  refine a_val (v := (.clo 118 [] [(.ref (.int .i64 a1c0) [] [])])) (u := []) (ld_ref (i := ⟨.other, 1, 8, (.raw .nilFunc)⟩) rfl rfl hl1) hl1.c rfl ?_
  have hl2 : LdOk [] (eA64u8 a0) [] 64 true (eA64u8 a0) := (.nil rfl rfl rfl)
  refine a_val (v := (eA64u8 a0)) (u := []) (ld_own (i := ⟨.arr 64 5, 64, 64, (eA64u8 (vrep 64 (0 : Int)))⟩) rfl rfl rfl hl2) hl2.c rfl ?_
  obtain ⟨r3, hr4, h⟩ := bind_some h
  refine a_call (args := [(eA64u8 a0), (.ref (.int .i64 a1c0) [] [])]) (u := []) (r := (.bool r3)) rfl rfl (impl_polysCode_c1_of_p_ok a0 a1c0 r3 hr4) rfl ?_
  refine a_val (v := (.bool (!r3))) (u := []) rfl trivial rfl ?_
  refine a_val (v := (.bool (!r3))) (u := []) rfl trivial rfl ?_
  refine a_nil ?_
  refine a_next rfl ?_
  refine a_ret ?_
  refine ⟨.inr rfl, ?_⟩
  rw [Try.results141]
  cases h
  exact ⟨_, _, _, _, _, rfl, trivial, .inl ⟨rfl, .inl rfl⟩, rfl, rfl⟩
def slices_IndexFunc_impl_Poly_impl_Poly_of_impl_areAll_impl_Poly__c1_p_c : ACode := (.seq (.region 0 [⟨some 4, .asg 0 (.const (.int .i64 0)) 3, none, []⟩] false) (.seq (.seq (.region 1 [⟨some 6, .mov (.tmp 0), none, []⟩, ⟨some 7, .blt 0 .len [(.tmp 6)] [30], none, []⟩, ⟨some 8, .mov (.const (.int .i64 0)), none, []⟩] false) (.block 0 (.loop (.seq (.region 2 [⟨some 9, .bin .lss 3 (.tmp 8) (.tmp 7), none, []⟩] false) (.seq (.cond (.tmp 9) .skip (.exit 0)) (.seq (.block 1 (.seq (.region 3 [⟨some 10, .mov (.tmp 8), none, []⟩, ⟨some 5, .asg 0 (.tmp 10) 3, none, []⟩] false) (.seq (.region 4 [⟨some 11, .mov (.tmp 1), none, []⟩, ⟨some 12, .mov (.tmp 0), none, []⟩, ⟨some 13, .mov (.tmp 5), none, []⟩, ⟨some 14, .indexAddr 30 (.tmp 12) (.tmp 13), none, []⟩, ⟨some 15, .load 23 (.tmp 14), none, []⟩, ⟨some 16, .call 0 (.tmp 11) [(.tmp 15)], none, []⟩] false) (.cond (.tmp 16) (.seq (.region 5 [⟨some 17, .mov (.tmp 5), none, []⟩, ⟨some 4, .asg 0 (.tmp 17) 3, none, []⟩] false) .ret) .skip)))) (.region 6 [⟨some 18, .bin .add 3 (.tmp 8) (.const (.int .i64 1)), none, []⟩, ⟨some 8, .mov (.tmp 18), none, []⟩] false))))))) (.seq (.region 7 [⟨some 4, .asg 0 (.const (.int .i64 (-1))) 3, none, []⟩] false) .ret)))
def slices_IndexFunc_impl_Poly_impl_Poly_of_impl_areAll_impl_Poly__c1_p_L : Live := [(0, [0, 1]), (1, [0, 1]), (2, [0, 1, 7, 8]), (3, [0, 1, 7, 8]), (4, [0, 1, 5, 7, 8]), (5, [5]), (6, [0, 1, 7, 8]), (7, []), (100009, [0, 1, 7, 8, 9]), (100016, [0, 1, 5, 7, 8, 16])]
theorem slices_IndexFunc_impl_Poly_impl_Poly_of_impl_areAll_impl_Poly__c1_p_body : Try.f157.body = some (Try.f157.body.getD .skip) := by kernel_rfl
theorem slices_IndexFunc_impl_Poly_impl_Poly_of_impl_areAll_impl_Poly__c1_p_strip : strip [] (Try.f157.body.getD .skip) = slices_IndexFunc_impl_Poly_impl_Poly_of_impl_areAll_impl_Poly__c1_p_c := by kernel_rfl
noncomputable def slices_IndexFunc_impl_Poly_impl_Poly_of_impl_areAll_impl_Poly__c1_p_l1 (a0 : (List (Vec Int 64))) (a1c0c0 : Int) (x33 : Int) : Option (Int ⊕ (Unit ⊕ Int)) :=
  (if (decide (x33 < (a0.length : Int))) then (ifp (0 ≤ x33 ∧ x33 < ((a0.length : Nat) : Int)) ((Option.bind (impl_areAll_impl_Poly__c1_of_p (rd a0 x33.toNat) a1c0c0) fun r46 => (if r46 then (some (.inr (.inr x33))) else (some (.inl (IntKind.i64.wrap (x33 + 1)))))))) else (some (.inr (((.inl ()))))))
noncomputable def slices_IndexFunc_impl_Poly_impl_Poly_of_impl_areAll_impl_Poly__c1_p (a0 : (List (Vec Int 64))) (a1c0c0 : Int) : Option Int :=
  (Option.bind (α := (Unit ⊕ Int)) ((loopM (fun s : Int => slices_IndexFunc_impl_Poly_impl_Poly_of_impl_areAll_impl_Poly__c1_p_l1 a0 a1c0c0 s) 0)) fun z => match z with | .inl _ => (some (-1)) | .inr r50 => (some r50))
set_option maxHeartbeats 16000000 in
theorem slices_IndexFunc_impl_Poly_impl_Poly_of_impl_areAll_impl_Poly__c1_p_ok (a0 : (List (Vec Int 64))) (a1c0c0 : Int) (r : Int) (h : slices_IndexFunc_impl_Poly_impl_Poly_of_impl_areAll_impl_Poly__c1_p a0 a1c0c0 = some r) : Den Try.prog 157 [(eSA64u8 a0), (.clo 141 [] [(.ref (.clo 118 [] [(.ref (.int .i64 a1c0c0) [] [])]) [] [])])] { r := (.int .i64 r) } := by
  refine den_of (rs := [(.int .i64 r)]) (ac := slices_IndexFunc_impl_Poly_impl_Poly_of_impl_areAll_impl_Poly__c1_p_c) (L := slices_IndexFunc_impl_Poly_impl_Poly_of_impl_areAll_impl_Poly__c1_p_L) (n := 19) (m := []) good Try.func157 slices_IndexFunc_impl_Poly_impl_Poly_of_impl_areAll_impl_Poly__c1_p_body (by kernel_rfl) Try.ntmps157 rfl rfl slices_IndexFunc_impl_Poly_impl_Poly_of_impl_areAll_impl_Poly__c1_p_strip rfl rfl ?_
  refine a_st (σ' := ⟨[(0, (eSA64u8 a0)), (1, (.clo 141 [] [(.ref (.clo 118 [] [(.ref (.int .i64 a1c0c0) [] [])]) [] [])]))], []⟩) (by kernel_rfl) ?_
  unfold slices_IndexFunc_impl_Poly_impl_Poly_of_impl_areAll_impl_Poly__c1_p_c
  refine a_seq ?_
  refine a_region ?_
  refine a_val (v := (.int .i64 0)) (u := []) rfl trivial rfl ?_
  refine a_nil ?_
  refine a_next (σ' := ⟨[(0, (eSA64u8 a0)), (1, (.clo 141 [] [(.ref (.clo 118 [] [(.ref (.int .i64 a1c0c0) [] [])]) [] [])]))], []⟩) (by kernel_rfl) ?_
  obtain ⟨y24, hy25, hk26⟩ := bind_some h
  clear h
  refine a_join (emb := fun (s : Unit) => ⟨[], []⟩) (pre := fun s => (.inl s) = y24) ?_ ?_
  · rintro _ rfl
    have h := hk26
    refine a_st (σ' := ⟨[], []⟩) (by kernel_rfl) ?_
    refine a_seq ?_
    refine a_region ?_
    refine a_val (v := (.int .i64 (-1))) (u := []) rfl trivial rfl ?_
    refine a_nil ?_
    refine a_next rfl ?_
    refine a_ret ?_
    refine ⟨.inr rfl, ?_⟩
    rw [Try.results157]
    cases h
    exact ⟨_, _, _, _, _, rfl, trivial, .inl ⟨rfl, .inl rfl⟩, rfl, rfl⟩
  · have h := hy25
    refine a_seq ?_
    refine a_region ?_
    refine a_val (v := (eSA64u8 a0)) (u := []) rfl trivial rfl ?_
    refine a_val (v := (.int .i64 (a0.length : Int))) (u := []) (len_run rfl rfl) trivial rfl ?_
    refine a_val (v := (.int .i64 0)) (u := []) rfl trivial rfl ?_
    refine a_nil ?_
    refine a_next (σ' := ⟨[(0, (eSA64u8 a0)), (1, (.clo 141 [] [(.ref (.clo 118 [] [(.ref (.int .i64 a1c0c0) [] [])]) [] [])])), (7, (.int .i64 (a0.length : Int))), (8, (.int .i64 0))], []⟩) (by kernel_rfl) ?_
    refine a_block ?_
    refine a_loop (emb := fun (s : Int) => ⟨[(0, (eSA64u8 a0)), (1, (.clo 141 [] [(.ref (.clo 118 [] [(.ref (.int .i64 a1c0c0) [] [])]) [] [])])), (7, (.int .i64 (a0.length : Int))), (8, (.int .i64 s))], []⟩) (body := (fun s : Int => slices_IndexFunc_impl_Poly_impl_Poly_of_impl_areAll_impl_Poly__c1_p_l1 a0 a1c0c0 s)) (G := fun q => some q = some y24) h rfl ?_ (by kernel_rfl)
    rintro X40 x33 x41 h hX42
    have h : slices_IndexFunc_impl_Poly_impl_Poly_of_impl_areAll_impl_Poly__c1_p_l1 a0 a1c0c0 x33 = some x41 := h
    refine a_st (σ' := ⟨[(0, (eSA64u8 a0)), (1, (.clo 141 [] [(.ref (.clo 118 [] [(.ref (.int .i64 a1c0c0) [] [])]) [] [])])), (7, (.int .i64 (a0.length : Int))), (8, (.int .i64 x33))], []⟩) (by kernel_rfl) ?_
    refine a_seq ?_
    refine a_region ?_
    refine a_val (v := (.bool ((decide (x33 < (a0.length : Int)))))) (u := []) rfl trivial rfl ?_
    refine a_nil ?_
    refine a_next (σ' := ⟨[(0, (eSA64u8 a0)), (1, (.clo 141 [] [(.ref (.clo 118 [] [(.ref (.int .i64 a1c0c0) [] [])]) [] [])])), (7, (.int .i64 (a0.length : Int))), (8, (.int .i64 x33)), (9, (.bool ((decide (x33 < (a0.length : Int))))))], []⟩) (by kernel_rfl) ?_
    refine a_seq ?_
    cases hb43 : (decide (x33 < (a0.length : Int)))
    · have h := ite_f hb43 h
      refine a_cond_f rfl ?_
      refine a_exit ?_
      refine t_exit ?_
      cases h
      have h := hX42
      refine t_exit ?_
      refine b_exit ?_
      exact j_leaf () (Option.some.inj h) (by kernel_rfl)
    · have h := ite_t hb43 h
      refine a_cond_t rfl ?_
      refine a_skip ?_
      refine a_next (σ' := ⟨[(0, (eSA64u8 a0)), (1, (.clo 141 [] [(.ref (.clo 118 [] [(.ref (.int .i64 a1c0c0) [] [])]) [] [])])), (7, (.int .i64 (a0.length : Int))), (8, (.int .i64 x33))], []⟩) (by kernel_rfl) ?_
      refine a_seq ?_
      refine a_block ?_
      refine a_seq ?_
      refine a_region ?_
      refine a_val (v := (.int .i64 x33)) (u := []) rfl trivial rfl ?_
      refine a_val (v := (.int .i64 x33)) (u := []) rfl trivial rfl ?_
      refine a_nil ?_
      refine a_next (σ' := ⟨[(0, (eSA64u8 a0)), (1, (.clo 141 [] [(.ref (.clo 118 [] [(.ref (.int .i64 a1c0c0) [] [])]) [] [])])), (5, (.int .i64 x33)), (7, (.int .i64 (a0.length : Int))), (8, (.int .i64 x33))], []⟩) (by kernel_rfl) ?_
      refine a_seq ?_
      refine a_region ?_
      refine a_val (v := (.clo 141 [] [(.ref (.clo 118 [] [(.ref (.int .i64 a1c0c0) [] [])]) [] [])])) (u := []) rfl trivial rfl ?_
      refine a_val (v := (eSA64u8 a0)) (u := []) rfl trivial rfl ?_
      refine a_val (v := (.int .i64 x33)) (u := []) rfl trivial rfl ?_
      obtain ⟨hc44, h⟩ := ifp_some h
      refine a_val (v := (.ref (.row 64 (a0.map eA64u8)) [x33.toNat] [x33.toNat * 64])) (u := []) rfl (lmap hc44) rfl ?_
      have hl45 : LdOk [x33.toNat] (.row 64 (a0.map eA64u8)) [x33.toNat * 64] 64 true (eA64u8 (rd a0 x33.toNat)) := (.row (llt hc44) rfl (.nil rfl rfl rfl))
      refine a_val (v := (eA64u8 (rd a0 x33.toNat))) (u := []) (ld_ref (i := ⟨.arr 64 5, 64, 64, (eA64u8 (vrep 64 (0 : Int)))⟩) rfl rfl hl45) hl45.c rfl ?_
      obtain ⟨r46, hr47, h⟩ := bind_some h
      refine a_call (args := [(eA64u8 (rd a0 x33.toNat)), (.ref (.clo 118 [] [(.ref (.int .i64 a1c0c0) [] [])]) [] [])]) (u := []) (r := (.bool r46)) rfl rfl (impl_areAll_impl_Poly__c1_of_p_ok (rd a0 x33.toNat) a1c0c0 r46 hr47) rfl ?_
      refine a_nil ?_
      refine a_next (σ' := ⟨[(0, (eSA64u8 a0)), (1, (.clo 141 [] [(.ref (.clo 118 [] [(.ref (.int .i64 a1c0c0) [] [])]) [] [])])), (5, (.int .i64 x33)), (7, (.int .i64 (a0.length : Int))), (8, (.int .i64 x33)), (16, (.bool r46))], []⟩) (by kernel_rfl) ?_
      cases hb48 : r46
      · have h := ite_f hb48 h
        refine a_cond_f rfl ?_
        refine a_skip ?_
        refine b_norm ?_
        refine a_next (σ' := ⟨[(0, (eSA64u8 a0)), (1, (.clo 141 [] [(.ref (.clo 118 [] [(.ref (.int .i64 a1c0c0) [] [])]) [] [])])), (7, (.int .i64 (a0.length : Int))), (8, (.int .i64 x33))], []⟩) (by kernel_rfl) ?_
        refine a_region ?_
        refine a_val (v := (.int .i64 (IntKind.i64.wrap (x33 + 1)))) (u := []) rfl trivial rfl ?_
        refine a_val (v := (.int .i64 (IntKind.i64.wrap (x33 + 1)))) (u := []) rfl trivial rfl ?_
        refine a_nil ?_
        cases h
        exact a_again (by kernel_rfl) hX42
      · have h := ite_t hb48 h
        refine a_cond_t rfl ?_
        refine a_seq ?_
        refine a_region ?_
        refine a_val (v := (.int .i64 x33)) (u := []) rfl trivial rfl ?_
        refine a_val (v := (.int .i64 x33)) (u := []) rfl trivial rfl ?_
        refine a_nil ?_
        refine a_next rfl ?_
        refine a_ret ?_
        refine b_ret ?_
        refine t_ret ?_
        cases h
        have h := hX42
        refine t_ret ?_
        refine b_ret ?_
        refine t_ret ?_
        cases h
        have h := hk26
        refine ⟨.inr rfl, ?_⟩
        rw [Try.results157]
        cases h
        exact ⟨_, _, _, _, _, rfl, trivial, .inl ⟨rfl, .inl rfl⟩, rfl, rfl⟩
def slices_ContainsFunc_impl_Poly_impl_Poly_of_impl_areAll_impl_Poly__c1_p_c : ACode := (.seq (.region 0 [⟨some 4, .asg 0 (.const (.bool false)) 4, none, []⟩] false) (.seq (.region 1 [⟨some 5, .mov (.tmp 0), none, []⟩, ⟨some 6, .mov (.tmp 1), none, []⟩, ⟨some 7, .call 0 (.func 157) [(.tmp 5), (.tmp 6)], none, []⟩, ⟨some 8, .bin .geq 3 (.tmp 7) (.const (.int .i64 0)), none, []⟩, ⟨some 4, .asg 0 (.tmp 8) 4, none, []⟩] false) .ret))
def slices_ContainsFunc_impl_Poly_impl_Poly_of_impl_areAll_impl_Poly__c1_p_L : Live := [(0, [0, 1]), (1, [0, 1])]
theorem slices_ContainsFunc_impl_Poly_impl_Poly_of_impl_areAll_impl_Poly__c1_p_body : Try.f140.body = some (Try.f140.body.getD .skip) := by kernel_rfl
theorem slices_ContainsFunc_impl_Poly_impl_Poly_of_impl_areAll_impl_Poly__c1_p_strip : strip [] (Try.f140.body.getD .skip) = slices_ContainsFunc_impl_Poly_impl_Poly_of_impl_areAll_impl_Poly__c1_p_c := by kernel_rfl
noncomputable def slices_ContainsFunc_impl_Poly_impl_Poly_of_impl_areAll_impl_Poly__c1_p (a0 : (List (Vec Int 64))) (a1c0c0 : Int) : Option Bool :=
  (Option.bind (slices_IndexFunc_impl_Poly_impl_Poly_of_impl_areAll_impl_Poly__c1_p a0 a1c0c0) fun r1 => (some ((decide (r1 ≥ 0)))))
set_option maxHeartbeats 16000000 in
theorem slices_ContainsFunc_impl_Poly_impl_Poly_of_impl_areAll_impl_Poly__c1_p_ok (a0 : (List (Vec Int 64))) (a1c0c0 : Int) (r : Bool) (h : slices_ContainsFunc_impl_Poly_impl_Poly_of_impl_areAll_impl_Poly__c1_p a0 a1c0c0 = some r) : Den Try.prog 140 [(eSA64u8 a0), (.clo 141 [] [(.ref (.clo 118 [] [(.ref (.int .i64 a1c0c0) [] [])]) [] [])])] { r := (.bool r) } := by
  refine den_of (rs := [(.bool r)]) (ac := slices_ContainsFunc_impl_Poly_impl_Poly_of_impl_areAll_impl_Poly__c1_p_c) (L := slices_ContainsFunc_impl_Poly_impl_Poly_of_impl_areAll_impl_Poly__c1_p_L) (n := 9) (m := []) good Try.func140 slices_ContainsFunc_impl_Poly_impl_Poly_of_impl_areAll_impl_Poly__c1_p_body (by kernel_rfl) Try.ntmps140 rfl rfl slices_ContainsFunc_impl_Poly_impl_Poly_of_impl_areAll_impl_Poly__c1_p_strip rfl rfl ?_
  refine a_st (σ' := ⟨[(0, (eSA64u8 a0)), (1, (.clo 141 [] [(.ref (.clo 118 [] [(.ref (.int .i64 a1c0c0) [] [])]) [] [])]))], []⟩) (by kernel_rfl) ?_
  unfold slices_ContainsFunc_impl_Poly_impl_Poly_of_impl_areAll_impl_Poly__c1_p_c
  refine a_seq ?_
  refine a_region ?_
  refine a_val (v := (.bool false)) (u := []) rfl trivial rfl ?_
  refine a_nil ?_
  refine a_next (σ' := ⟨[(0, (eSA64u8 a0)), (1, (.clo 141 [] [(.ref (.clo 118 [] [(.ref (.int .i64 a1c0c0) [] [])]) [] [])]))], []⟩) (by kernel_rfl) ?_
  refine a_seq ?_
  refine a_region ?_
  refine a_val (v := (eSA64u8 a0)) (u := []) rfl trivial rfl ?_
  refine a_val (v := (.clo 141 [] [(.ref (.clo 118 [] [(.ref (.int .i64 a1c0c0) [] [])]) [] [])])) (u := []) rfl trivial rfl ?_
  obtain ⟨r1, hr2, h⟩ := bind_some h
  refine a_call (args := [(eSA64u8 a0), (.clo 141 [] [(.ref (.clo 118 [] [(.ref (.int .i64 a1c0c0) [] [])]) [] [])])]) (u := []) (r := (.int .i64 r1)) rfl rfl (slices_IndexFunc_impl_Poly_impl_Poly_of_impl_areAll_impl_Poly__c1_p_ok a0 a1c0c0 r1 hr2) rfl ?_
  refine a_val (v := (.bool ((decide (r1 ≥ 0))))) (u := []) rfl trivial rfl ?_
  refine a_val (v := (.bool ((decide (r1 ≥ 0))))) (u := []) rfl trivial rfl ?_
  refine a_nil ?_
  refine a_next rfl ?_
  refine a_ret ?_
  refine ⟨.inr rfl, ?_⟩
  rw [Try.results140]
  cases h
  exact ⟨_, _, _, _, _, rfl, trivial, .inl ⟨rfl, .inl rfl⟩, rfl, rfl⟩
end Go.Proofs.Ytgodhgbnjlflmaa
