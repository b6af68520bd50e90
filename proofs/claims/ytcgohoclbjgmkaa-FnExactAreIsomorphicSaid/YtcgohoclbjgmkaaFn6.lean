/- Functions of the program: plain Lean functions, and that the program computes them. Printed by gen.py. -/
import Derived.Test.YtcgohoclbjgmkaaFnT
import Derived.Test.YtcgohoclbjgmkaaFn3
import Derived.Test.YtcgohoclbjgmkaaFn4
import Derived.Test.YtcgohoclbjgmkaaFn5
namespace Go.Proofs.Ytcgohoclbjgmkaa
open Go.Abs Go.Proofs
set_option linter.unusedSimpArgs false
set_option linter.unusedVariables false
set_option maxHeartbeats 16000000
attribute [local irreducible] Abs.acode Abs.aops Abs.aopsT Abs.thenK Abs.blockK

def impl_prime_factors_c : ACode := (.seq (.region 0 [q 4 (.asg 1 (.const (.slice none 0 0)) 68)] false) (.seq (.region 1 [q 5 (.asg 2 (.const (.slice none 0 0)) 68)] false) (.seq (.seq (.region 2 [q 6 (.asg 0 (.const (.int .i64 1)) 2)] false) (.block 0 (.loop (.seq (.seq (.region 3 [q 12 (.mov (t 1)), q 13 (.call 0 (.func 59) [(t 12)]), q 14 (.bin .gtr 2 (t 13) (.const (.int .i64 0)))] false) (.cond (t 14) .skip (.exit 0))) (.seq (.block 1 (.seq (.seq (.region 5 [q 17 (.mov (t 6)), q 18 (.bin .mul 2 (.const (.int .i64 2)) (t 17)), q 19 (.mov (t 1)), q 20 (.call 0 (.func 59) [(t 19)]), q 21 (.bin .gtr 2 (t 18) (t 20))] false) (.cond (t 21) (.seq (.region 6 [q 22 (.mov (t 5)), q 23 (.mov (t 0)), q 24 (.mov (t 1)), q 25 (.mov (t 0)), q 26 (.mov (t 1)), q 27 (.call 0 (.func 101) [(t 26)]), q 28 (.call 0 (.func 106) [(t 25), (t 27)]), q 29 (.call 0 (.func 105) [(t 23), (t 24), (t 28)]), q 30 (.build 71 [(0, (t 29)), (1, (.const (.int .i64 1)))]), q 31 (.bslice 0 68 1 [(0, (t 30))]), q 32 (.blt 0 .append [(t 22), (t 31)] [68, 68]), q 5 (.asg 2 (t 32) 68)] false) (.exit 0)) .skip)) (.seq (.region 7 [q 33 (.call 0 (.func 107) []), q 7 (.asg 1 (t 33) 65)] false) (.seq (.seq (.region 8 [q 34 (.mov (t 6)), q 35 (.mov (.const (.int .i64 0)))] false) (.block 2 (.loop (.seq (.region 9 [q 36 (.bin .lss 2 (t 35) (t 34))] false) (.seq (.cond (t 36) .skip (.exit 2)) (.seq (.block 3 (.region 10 [q 37 (.mov (t 0)), q 38 (.mov (t 7)), q 39 (.mov (t 0)), q 40 (.mov (t 1)), q 41 (.call 0 (.func 108) [(t 37), (t 38), (t 39), (t 40)]), q 7 (.asg 1 (t 41) 65)] false)) (.region 11 [q 42 (.bin .add 2 (t 35) (.const (.int .i64 1))), q 35 (.mov (t 42))] false))))))) (.seq (.region 12 [q 43 (.mov (t 0)), q 44 (.mov (t 0)), q 45 (.mov (t 7)), q 46 (.call 0 (.func 107) []), q 47 (.call 0 (.func 110) [(t 44), (t 45), (t 46), (.const (.int .i64 (-1)))]), q 48 (.mov (t 1)), q 49 (.call 0 (.func 109) [(t 43), (t 47), (t 48)]), q 8 (.asg 1 (t 49) 65)] false) (.block 4 (.loop (.seq (.seq (.region 13 [q 50 (.mov (t 8)), q 51 (.call 0 (.func 59) [(t 50)]), q 52 (.bin .gtr 2 (t 51) (.const (.int .i64 0)))] false) (.cond (t 52) .skip (.exit 4))) (.block 5 (.seq (.region 14 [q 53 (.mov (t 0)), q 54 (.mov (t 8)), q 55 (.mov (t 6)), q 56 (.call 0 (.func 111) [(t 53), (t 54), (t 55)]), q 9 (.asg 1 (t 56) 65)] false) (.seq (.region 15 [q 58 (.mov (t 0)), q 59 (.mov (t 1)), q 60 (.mov (t 9)), q 61 (.call 0 (.func 112) [(t 58), (t 59), (t 60)]), q 57 (.mov (t 61)), q 62 (.extract (t 57) 0), q 63 (.extract (t 57) 1), q 10 (.asg 1 (t 62) 65), q 11 (.asg 0 (t 63) 2)] false) (.seq (.region 16 [q 64 (.mov (t 10)), q 1 (.asg 1 (t 64) 65)] false) (.seq (.region 17 [q 66 (.mov (t 0)), q 67 (.mov (t 8)), q 68 (.mov (t 9)), q 69 (.call 0 (.func 112) [(t 66), (t 67), (t 68)]), q 65 (.mov (t 69)), q 70 (.extract (t 65) 0), q 71 (.extract (t 65) 1), q 8 (.asg 1 (t 70) 65)] false) (.region 18 [q 72 (.mov (t 5)), q 73 (.mov (t 9)), q 74 (.mov (t 11)), q 75 (.build 71 [(0, (t 73)), (1, (t 74))]), q 76 (.bslice 0 68 1 [(0, (t 75))]), q 77 (.blt 0 .append [(t 72), (t 76)] [68, 68]), q 5 (.asg 2 (t 77) 68)] false)))))))))))))) (.region 4 [q 15 (.mov (t 6)), q 16 (.bin .add 2 (t 15) (.const (.int .i64 1))), q 6 (.asg 0 (t 16) 2)] false)))))) (.seq (.region 19 [q 78 (.mov (t 5)), q 79 (.call 1 (.func 113) [(t 78), (.func 114)])] false) (.seq (.region 20 [q 80 (.mov (t 5)), q 4 (.asg 1 (t 80) 68)] false) .ret)))))
def impl_prime_factors_L : Live := [(0, [0, 1]), (1, [0, 1]), (2, [0, 1, 5]), (3, [0, 1, 5, 6]), (4, [0, 1, 5, 6]), (5, [0, 1, 5, 6]), (6, [0, 1, 5]), (7, [0, 1, 5, 6]), (8, [0, 1, 5, 6, 7]), (9, [0, 1, 5, 6, 7, 34, 35]), (10, [0, 1, 5, 6, 7, 34, 35]), (11, [0, 1, 5, 6, 7, 34, 35]), (12, [0, 1, 5, 6, 7]), (13, [0, 1, 5, 6, 8]), (14, [0, 1, 5, 6, 8]), (15, [0, 1, 5, 6, 8, 9]), (16, [0, 5, 6, 8, 9, 10, 11]), (17, [0, 1, 5, 6, 8, 9, 11]), (18, [0, 1, 5, 6, 8, 9, 11]), (19, [5]), (20, [5]), (100014, [0, 1, 5, 6, 14]), (100021, [0, 1, 5, 6, 21]), (100036, [0, 1, 5, 6, 7, 34, 35, 36]), (100052, [0, 1, 5, 6, 8, 52])]
noncomputable def impl_prime_factors_l2 (x761 : Int) (a0 : Int) (x760 : (List Int)) (x1077 : (List Int)) (x1078 : Int) : Option (((List Int) × Int) ⊕ (List Int)) :=
  (if (decide (x1078 < x761)) then (Option.bind (impl_prime_power a0 x1077 a0 x760) fun r1086 => (some (.inl ((r1086, IntKind.i64.wrap (x1078 + 1)))))) else (some (.inr x1077)))
noncomputable def impl_prime_factors_l3 (a0 : Int) (x761 : Int) (x1105 : (List Int)) (x1106 : (List Int)) (x1107 : (List ((List Int) × Int))) : Option (((List Int) × (List Int) × (List ((List Int) × Int))) ⊕ (((List Int) × (List ((List Int) × Int))) ⊕ (((List Int) × Int × (List ((List Int) × Int))) ⊕ (List ((List Int) × Int))))) :=
  (Option.bind (impl_row_degree x1106) fun r1121 => (if (decide (r1121 > 0)) then (Option.bind (impl_prime_withDegree a0 x1106 x761) fun r1124 => (Option.bind (impl_prime_strip a0 x1105 r1124) fun r1126 => (Option.bind (impl_prime_strip a0 x1106 r1124) fun r1128 => (ifp ((x1107.length + ([(r1124, r1126.2)] : List ((List Int) × Int)).length) * 32 ≤ 140737488355328) ((some (.inl ((r1126.1, r1128.1, (x1107 ++ ([(r1124, r1126.2)]))))))))))) else (some (.inr (((.inl (x1105, x1107))))))))
noncomputable def impl_prime_factors_l1 (a0 : Int) (x760 : (List Int)) (x761 : Int) (x762 : (List ((List Int) × Int))) : Option (((List Int) × Int × (List ((List Int) × Int))) ⊕ (List ((List Int) × Int))) :=
  (Option.bind (impl_row_degree x760) fun r953 => (if (decide (r953 > 0)) then (Option.bind (α := (((List Int) × (List ((List Int) × Int))) ⊕ (((List Int) × Int × (List ((List Int) × Int))) ⊕ (List ((List Int) × Int))))) ((Option.bind (impl_row_degree x760) fun r1050 => (if (decide ((IntKind.i64.wrap (2 * x761)) > r1050)) then (Option.bind (impl_row_lead x760) fun r1132 => (Option.bind (impl_prime_inverse a0 r1132) fun r1134 => (Option.bind (impl_prime_scale a0 x760 r1134) fun r1136 => (ifp ((x762.length + ([(r1136, 1)] : List ((List Int) × Int)).length) * 32 ≤ 140737488355328) ((some (.inr ((.inr (((x762 ++ ([(r1136, 1)]))))))))))))) else (Option.bind (impl_letter) fun r1053 => (Option.bind (α := (List Int)) ((loopM (fun s : ((List Int) × Int) => impl_prime_factors_l2 x761 a0 x760 s.1 s.2) (r1053, 0))) fun x1070 => (Option.bind (impl_letter) fun r1089 => (Option.bind (impl_prime_combine a0 x1070 r1089 (-1)) fun r1091 => (Option.bind (impl_prime_gcd a0 r1091 x760) fun r1093 => (loopM (fun s : ((List Int) × (List Int) × (List ((List Int) × Int))) => impl_prime_factors_l3 a0 x761 s.1 s.2.1 s.2.2) (x760, r1093, x762)))))))))) fun z => match z with | .inl ⟨x1045, x1046⟩ => (some (.inl ((x1045, IntKind.i64.wrap (x761 + 1), x1046)))) | .inr r1139 => (some r1139)) else (some (.inr x762))))
noncomputable def impl_prime_factors (a0 : Int) (a1 : (List Int)) : Option (List ((List Int) × Int)) :=
  (Option.bind (α := (List ((List Int) × Int))) ((loopM (fun s : ((List Int) × Int × (List ((List Int) × Int))) => impl_prime_factors_l1 a0 s.1 s.2.1 s.2.2) (a1, 1, []))) fun x569 => (Option.bind (slices_SortFunc_impl_factor_impl_factor_of_mut_impl_prime_factors_c1 x569) fun r1141 => (ifp (r1141.length = x569.length) (some r1141))))
theorem impl_prime_factors_ok (a0 : Int) (a1 : (List Int)) (r : (List ((List Int) × Int))) (h : impl_prime_factors a0 a1 = some r) : Den Try.prog 54 [(i6 a0), (eSi64 a1)] { r := (eST_Si64_i64_Z r) } := by
  refine den_of (rs := [(eST_Si64_i64_Z r)]) (ac := impl_prime_factors_c) (L := impl_prime_factors_L) (n := 81) (m := [(1, 1), (4, 1), (5, 2), (7, 1), (8, 1), (9, 1), (10, 1), (79, 1)]) (c := Try.f54.body.getD .skip) good Try.func54 (by kernel_rfl) (by kernel_rfl) Try.ntmps54 rfl rfl (by kernel_rfl) rfl rfl ?_
  refine a_st (σ' := ⟨[(0, (i6 a0)), (1, (eSi64 a1))], []⟩) (by kernel_rfl) ?_
  unfold impl_prime_factors_c
  refine sr (vp (eST_Si64_i64_Z ([])) rfl (nx ⟨[(0, (i6 a0)), (1, (eSi64 a1))], []⟩ (by kernel_rfl) (sr (vu (.osl 1500) [(1500, (bk (.row 2 (([]).map eT_Si64_i64_Z))))] rfl trivial rfl (nx ⟨[(0, (i6 a0)), (1, (eSi64 a1)), (5, (.osl 5))], [(5, (bk (.row 2 (([]).map eT_Si64_i64_Z))))]⟩ (by kernel_rfl) ?_)))))
  obtain ⟨y570, hy571, hk572⟩ := bind_some h
  clear h
  refine a_join (emb := fun (s : (List ((List Int) × Int))) => ⟨[(5, (.osl 5))], [(5, (bk (.row 2 (s.map eT_Si64_i64_Z))))]⟩) (pre := fun s => s = y570) ?_ ?_
  · rintro x569 rfl
    have h := hk572
    refine a_st (σ' := ⟨[(5, (.osl 5))], [(5, (bk (.row 2 (x569.map eT_Si64_i64_Z))))]⟩) (by kernel_rfl) (sr (vp (.osl 5) rfl ?_))
    obtain ⟨r1141, hr1142, h⟩ := bind_some h
    obtain ⟨hl1143, h⟩ := ifp_some h
    refine a_callM (args := [(.mutsl 2 (x569.map eT_Si64_i64_Z)), (.clo 114 [] [])]) (i := 0) (id := 5) (r := (.tuple [])) (c := (.row 2 (r1141.map eT_Si64_i64_Z))) rfl rfl (slices_SortFunc_impl_factor_impl_factor_of_mut_impl_prime_factors_c1_ok x569 r1141 hr1142) rfl (shape_map hl1143) (nx ⟨[(5, (.osl 5))], [(5, (bk (.row 2 (r1141.map eT_Si64_i64_Z))))]⟩ (by kernel_rfl) (sr (vp (.osl 5) rfl (vu (eST_Si64_i64_Z r1141) [(5, (bf (.row 2 (r1141.map eT_Si64_i64_Z))))] rfl trivial rfl (nx _ rfl (a_ret ?_))))))
    refine ⟨.inr rfl, ?_⟩
    rw [Try.results54]
    cases h
    exact ⟨_, _, _, _, _, rfl, trivial, .inl ⟨rfl, .inl rfl⟩, rfl, rfl⟩
  · have h := hy571
    refine sr (vp (i6 1) rfl (nx ⟨[(0, (i6 a0)), (1, (eSi64 a1)), (5, (.osl 5)), (6, (i6 1))], [(5, (bk (.row 2 (([]).map eT_Si64_i64_Z))))]⟩ (by kernel_rfl) (a_block ?_)))
    refine a_loop (emb := fun (s : ((List Int) × Int × (List ((List Int) × Int)))) => ⟨[(0, (i6 a0)), (1, (eSi64 s.1)), (5, (.osl 5)), (6, (i6 s.2.1))], [(5, (bk (.row 2 (s.2.2.map eT_Si64_i64_Z))))]⟩) (body := (fun s : ((List Int) × Int × (List ((List Int) × Int))) => impl_prime_factors_l1 a0 s.1 s.2.1 s.2.2)) (G := fun q => some q = some y570) h rfl ?_ (by kernel_rfl)
    rintro X950 ⟨x760, x761, x762⟩ x951 h hX952
    have h : impl_prime_factors_l1 a0 x760 x761 x762 = some x951 := h
    refine a_st (σ' := ⟨[(0, (i6 a0)), (1, (eSi64 x760)), (5, (.osl 5)), (6, (i6 x761))], [(5, (bk (.row 2 (x762.map eT_Si64_i64_Z))))]⟩) (by kernel_rfl) (a_seq (sr (vp (eSi64 x760) rfl ?_)))
    obtain ⟨r953, hr954, h⟩ := bind_some h
    refine a_call (args := [(eSi64 x760)]) (u := []) (r := (i6 r953)) rfl rfl (impl_row_degree_ok x760 r953 hr954) rfl (vp (.bool ((decide (r953 > 0)))) rfl (nx ⟨[(0, (i6 a0)), (1, (eSi64 x760)), (5, (.osl 5)), (6, (i6 x761)), (14, (.bool ((decide (r953 > 0)))))], [(5, (bk (.row 2 (x762.map eT_Si64_i64_Z))))]⟩ (by kernel_rfl) ?_))
    cases hb955 : (decide (r953 > 0))
    · have h := ite_f hb955 h
      refine a_cond_f rfl (a_exit (t_exit ?_))
      cases h
      have h := hX952
      refine t_exit (b_exit ?_)
      exact j_leaf x762 (Option.some.inj h) (by kernel_rfl)
    · have h := ite_t hb955 h
      refine a_cond_t rfl (a_skip (a_next (σ' := ⟨[(0, (i6 a0)), (1, (eSi64 x760)), (5, (.osl 5)), (6, (i6 x761))], [(5, (bk (.row 2 (x762.map eT_Si64_i64_Z))))]⟩) (by kernel_rfl) ?_))
      obtain ⟨y1047, hy1048, hk1049⟩ := bind_some h
      clear h
      refine a_join (emb := fun (s : ((List Int) × (List ((List Int) × Int)))) => ⟨[(0, (i6 a0)), (1, (eSi64 s.1)), (5, (.osl 5)), (6, (i6 x761))], [(5, (bk (.row 2 (s.2.map eT_Si64_i64_Z))))]⟩) (pre := fun s => (.inl s) = y1047) ?_ ?_
      · rintro ⟨x1045, x1046⟩ rfl
        have h := hk1049
        refine a_st (σ' := ⟨[(0, (i6 a0)), (1, (eSi64 x1045)), (5, (.osl 5)), (6, (i6 x761))], [(5, (bk (.row 2 (x1046.map eT_Si64_i64_Z))))]⟩) (by kernel_rfl) (a_region (vp (i6 x761) rfl (vp (i6 (IntKind.i64.wrap (x761 + 1))) rfl (vp (i6 (IntKind.i64.wrap (x761 + 1))) rfl (a_nil ?_)))))
        cases h
        exact a_again (by kernel_rfl) hX952
      · have h := hy1048
        refine a_block (a_seq (sr (vp (i6 x761) rfl (vp (i6 (IntKind.i64.wrap (2 * x761))) rfl (vp (eSi64 x760) rfl ?_)))))
        obtain ⟨r1050, hr1051, h⟩ := bind_some h
        refine a_call (args := [(eSi64 x760)]) (u := []) (r := (i6 r1050)) rfl rfl (impl_row_degree_ok x760 r1050 hr1051) rfl (vp (.bool ((decide ((IntKind.i64.wrap (2 * x761)) > r1050)))) rfl (nx ⟨[(0, (i6 a0)), (1, (eSi64 x760)), (5, (.osl 5)), (6, (i6 x761)), (21, (.bool ((decide ((IntKind.i64.wrap (2 * x761)) > r1050)))))], [(5, (bk (.row 2 (x762.map eT_Si64_i64_Z))))]⟩ (by kernel_rfl) ?_))
        cases hb1052 : (decide ((IntKind.i64.wrap (2 * x761)) > r1050))
        · have h := ite_f hb1052 h
          refine a_cond_f rfl (a_skip (a_next (σ' := ⟨[(0, (i6 a0)), (1, (eSi64 x760)), (5, (.osl 5)), (6, (i6 x761))], [(5, (bk (.row 2 (x762.map eT_Si64_i64_Z))))]⟩) (by kernel_rfl) (sr ?_)))
          obtain ⟨r1053, hr1054, h⟩ := bind_some h
          refine a_call (args := []) (u := []) (r := (eSi64 r1053)) rfl rfl (impl_letter_ok r1053 hr1054) rfl (vp (eSi64 r1053) rfl (nx ⟨[(0, (i6 a0)), (1, (eSi64 x760)), (5, (.osl 5)), (6, (i6 x761)), (7, (eSi64 r1053))], [(5, (bk (.row 2 (x762.map eT_Si64_i64_Z))))]⟩ (by kernel_rfl) ?_))
          obtain ⟨y1071, hy1072, hk1073⟩ := bind_some h
          clear h
          refine a_join (emb := fun (s : (List Int)) => ⟨[(0, (i6 a0)), (1, (eSi64 x760)), (5, (.osl 5)), (6, (i6 x761)), (7, (eSi64 s))], [(5, (bk (.row 2 (x762.map eT_Si64_i64_Z))))]⟩) (pre := fun s => s = y1071) ?_ ?_
          · rintro x1070 rfl
            have h := hk1073
            refine a_st (σ' := ⟨[(0, (i6 a0)), (1, (eSi64 x760)), (5, (.osl 5)), (6, (i6 x761)), (7, (eSi64 x1070))], [(5, (bk (.row 2 (x762.map eT_Si64_i64_Z))))]⟩) (by kernel_rfl) (sr (vp (i6 a0) rfl (vp (i6 a0) rfl (vp (eSi64 x1070) rfl ?_))))
            obtain ⟨r1089, hr1090, h⟩ := bind_some h
            refine a_call (args := []) (u := []) (r := (eSi64 r1089)) rfl rfl (impl_letter_ok r1089 hr1090) rfl ?_
            obtain ⟨r1091, hr1092, h⟩ := bind_some h
            refine a_call (args := [(i6 a0), (eSi64 x1070), (eSi64 r1089), (i6 (-1))]) (u := []) (r := (eSi64 r1091)) rfl rfl (impl_prime_combine_ok a0 x1070 r1089 (-1) r1091 hr1092) rfl (vp (eSi64 x760) rfl ?_)
            obtain ⟨r1093, hr1094, h⟩ := bind_some h
            refine a_call (args := [(i6 a0), (eSi64 r1091), (eSi64 x760)]) (u := []) (r := (eSi64 r1093)) rfl rfl (impl_prime_gcd_ok a0 r1091 x760 r1093 hr1094) rfl (vp (eSi64 r1093) rfl (nx ⟨[(0, (i6 a0)), (1, (eSi64 x760)), (5, (.osl 5)), (6, (i6 x761)), (8, (eSi64 r1093))], [(5, (bk (.row 2 (x762.map eT_Si64_i64_Z))))]⟩ (by kernel_rfl) (a_block ?_)))
            refine a_loop (emb := fun (s : ((List Int) × (List Int) × (List ((List Int) × Int)))) => ⟨[(0, (i6 a0)), (1, (eSi64 s.1)), (5, (.osl 5)), (6, (i6 x761)), (8, (eSi64 s.2.1))], [(5, (bk (.row 2 (s.2.2.map eT_Si64_i64_Z))))]⟩) (body := (fun s : ((List Int) × (List Int) × (List ((List Int) × Int))) => impl_prime_factors_l3 a0 x761 s.1 s.2.1 s.2.2)) (G := fun q => some q = some y1047) h rfl ?_ (by kernel_rfl)
            rintro X1118 ⟨x1105, x1106, x1107⟩ x1119 h hX1120
            have h : impl_prime_factors_l3 a0 x761 x1105 x1106 x1107 = some x1119 := h
            refine a_st (σ' := ⟨[(0, (i6 a0)), (1, (eSi64 x1105)), (5, (.osl 5)), (6, (i6 x761)), (8, (eSi64 x1106))], [(5, (bk (.row 2 (x1107.map eT_Si64_i64_Z))))]⟩) (by kernel_rfl) (a_seq (sr (vp (eSi64 x1106) rfl ?_)))
            obtain ⟨r1121, hr1122, h⟩ := bind_some h
            refine a_call (args := [(eSi64 x1106)]) (u := []) (r := (i6 r1121)) rfl rfl (impl_row_degree_ok x1106 r1121 hr1122) rfl (vp (.bool ((decide (r1121 > 0)))) rfl (nx ⟨[(0, (i6 a0)), (1, (eSi64 x1105)), (5, (.osl 5)), (6, (i6 x761)), (8, (eSi64 x1106)), (52, (.bool ((decide (r1121 > 0)))))], [(5, (bk (.row 2 (x1107.map eT_Si64_i64_Z))))]⟩ (by kernel_rfl) ?_))
            cases hb1123 : (decide (r1121 > 0))
            · have h := ite_f hb1123 h
              refine a_cond_f rfl (a_exit (t_exit ?_))
              cases h
              have h := hX1120
              refine t_exit (b_exit (b_norm ?_))
              exact j_leaf (x1105, x1107) (Option.some.inj h) (by kernel_rfl)
            · have h := ite_t hb1123 h
              refine a_cond_t rfl (a_skip (a_next (σ' := ⟨[(0, (i6 a0)), (1, (eSi64 x1105)), (5, (.osl 5)), (6, (i6 x761)), (8, (eSi64 x1106))], [(5, (bk (.row 2 (x1107.map eT_Si64_i64_Z))))]⟩) (by kernel_rfl) (a_block (sr (vp (i6 a0) rfl (vp (eSi64 x1106) rfl (vp (i6 x761) rfl ?_)))))))
              obtain ⟨r1124, hr1125, h⟩ := bind_some h
              refine a_call (args := [(i6 a0), (eSi64 x1106), (i6 x761)]) (u := []) (r := (eSi64 r1124)) rfl rfl (impl_prime_withDegree_ok a0 x1106 x761 r1124 hr1125) rfl (vp (eSi64 r1124) rfl (nx ⟨[(0, (i6 a0)), (1, (eSi64 x1105)), (5, (.osl 5)), (6, (i6 x761)), (8, (eSi64 x1106)), (9, (eSi64 r1124))], [(5, (bk (.row 2 (x1107.map eT_Si64_i64_Z))))]⟩ (by kernel_rfl) (sr (vp (i6 a0) rfl (vp (eSi64 x1105) rfl (vp (eSi64 r1124) rfl ?_))))))
              obtain ⟨r1126, hr1127, h⟩ := bind_some h
              refine a_call (args := [(i6 a0), (eSi64 x1105), (eSi64 r1124)]) (u := []) (r := (.tuple [(eSi64 r1126.1), (i6 r1126.2)])) rfl rfl (impl_prime_strip_ok a0 x1105 r1124 r1126 hr1127) rfl (vp (.tuple [(eSi64 r1126.1), (i6 r1126.2)]) rfl (vb (eSi64 r1126.1) rfl rfl (vb (i6 r1126.2) rfl rfl (vp (eSi64 r1126.1) rfl (vp (i6 r1126.2) rfl (nx ⟨[(0, (i6 a0)), (5, (.osl 5)), (6, (i6 x761)), (8, (eSi64 x1106)), (9, (eSi64 r1124)), (10, (eSi64 r1126.1)), (11, (i6 r1126.2))], [(5, (bk (.row 2 (x1107.map eT_Si64_i64_Z))))]⟩ (by kernel_rfl) (sr (vp (eSi64 r1126.1) rfl (vp (eSi64 r1126.1) rfl ?_)))))))))
              refine nx ⟨[(0, (i6 a0)), (1, (eSi64 r1126.1)), (5, (.osl 5)), (6, (i6 x761)), (8, (eSi64 x1106)), (9, (eSi64 r1124)), (11, (i6 r1126.2))], [(5, (bk (.row 2 (x1107.map eT_Si64_i64_Z))))]⟩ (by kernel_rfl) (sr (vp (i6 a0) rfl (vp (eSi64 x1106) rfl (vp (eSi64 r1124) rfl ?_))))
              obtain ⟨r1128, hr1129, h⟩ := bind_some h
              refine a_call (args := [(i6 a0), (eSi64 x1106), (eSi64 r1124)]) (u := []) (r := (.tuple [(eSi64 r1128.1), (i6 r1128.2)])) rfl rfl (impl_prime_strip_ok a0 x1106 r1124 r1128 hr1129) rfl (vp (.tuple [(eSi64 r1128.1), (i6 r1128.2)]) rfl (vb (eSi64 r1128.1) rfl rfl (vb (i6 r1128.2) rfl rfl (vp (eSi64 r1128.1) rfl (nx ⟨[(0, (i6 a0)), (1, (eSi64 r1126.1)), (5, (.osl 5)), (6, (i6 x761)), (8, (eSi64 r1128.1)), (9, (eSi64 r1124)), (11, (i6 r1126.2))], [(5, (bk (.row 2 (x1107.map eT_Si64_i64_Z))))]⟩ (by kernel_rfl) (a_region (vp (.osl 5) rfl (vp (eSi64 r1124) rfl (vp (i6 r1126.2) rfl ?_)))))))))
              refine vq (eT_Si64_i64_Z (r1124, r1126.2)) rfl ⟨rfl, (all_cons ⟨(Nat.le_of_ble_eq_true rfl), rfl⟩ (all_cons ⟨(Nat.le_of_ble_eq_true rfl), rfl⟩ all_nil))⟩ (vq (.sl 2 true (([(r1124, r1126.2)]).map eT_Si64_i64_Z)) rfl ⟨(Nat.le_of_ble_eq_true rfl), (Nat.le_of_ble_eq_true rfl), (all_cons ⟨(Nat.le_of_ble_eq_true rfl), rfl⟩ all_nil)⟩ ?_)
              obtain ⟨hc1130, h⟩ := ifp_some h
              refine vu (.osl 8700) [(8700, (bk (.row 2 (((x1107 ++ ([(r1124, r1126.2)]))).map eT_Si64_i64_Z)))), (5, none)] (app_run (i := ⟨.struct [(0, 65), (1, 2)], 2, 32, (eT_Si64_i64_Z ([], (0 : Int)))⟩) (f := eT_Si64_i64_Z) (l := x1107) (l2 := [(r1124, r1126.2)]) rfl rfl rfl rfl (fun _ => rfl) rfl rfl) (app_c (f := eT_Si64_i64_Z) (s := 2) (sz := 2) (by' := 32) (u := []) (id := 5) hc1130 (.inr rfl) rfl rfl rfl) rfl (vp (.osl 8700) rfl (a_nil (b_norm ?_)))
              cases h
              exact a_again (by kernel_rfl) hX1120
          · have h := hy1072
            refine sr (vp (i6 x761) rfl (vp (i6 0) rfl (nx ⟨[(0, (i6 a0)), (1, (eSi64 x760)), (5, (.osl 5)), (6, (i6 x761)), (7, (eSi64 r1053)), (34, (i6 x761)), (35, (i6 0))], [(5, (bk (.row 2 (x762.map eT_Si64_i64_Z))))]⟩ (by kernel_rfl) (a_block ?_))))
            refine a_loop (emb := fun (s : ((List Int) × Int)) => ⟨[(0, (i6 a0)), (1, (eSi64 x760)), (5, (.osl 5)), (6, (i6 x761)), (7, (eSi64 s.1)), (34, (i6 x761)), (35, (i6 s.2))], [(5, (bk (.row 2 (x762.map eT_Si64_i64_Z))))]⟩) (body := (fun s : ((List Int) × Int) => impl_prime_factors_l2 x761 a0 x760 s.1 s.2)) (G := fun q => some q = some y1071) h rfl ?_ (by kernel_rfl)
            rintro X1082 ⟨x1077, x1078⟩ x1083 h hX1084
            have h : impl_prime_factors_l2 x761 a0 x760 x1077 x1078 = some x1083 := h
            refine a_st (σ' := ⟨[(0, (i6 a0)), (1, (eSi64 x760)), (5, (.osl 5)), (6, (i6 x761)), (7, (eSi64 x1077)), (34, (i6 x761)), (35, (i6 x1078))], [(5, (bk (.row 2 (x762.map eT_Si64_i64_Z))))]⟩) (by kernel_rfl) (sr (vp (.bool ((decide (x1078 < x761)))) rfl (nx ⟨[(0, (i6 a0)), (1, (eSi64 x760)), (5, (.osl 5)), (6, (i6 x761)), (7, (eSi64 x1077)), (34, (i6 x761)), (35, (i6 x1078)), (36, (.bool ((decide (x1078 < x761)))))], [(5, (bk (.row 2 (x762.map eT_Si64_i64_Z))))]⟩ (by kernel_rfl) (a_seq ?_))))
            cases hb1085 : (decide (x1078 < x761))
            · have h := ite_f hb1085 h
              refine a_cond_f rfl (a_exit (t_exit ?_))
              cases h
              have h := hX1084
              refine t_exit (b_exit ?_)
              exact j_leaf x1077 (Option.some.inj h) (by kernel_rfl)
            · have h := ite_t hb1085 h
              refine a_cond_t rfl (a_skip (a_next (σ' := ⟨[(0, (i6 a0)), (1, (eSi64 x760)), (5, (.osl 5)), (6, (i6 x761)), (7, (eSi64 x1077)), (34, (i6 x761)), (35, (i6 x1078))], [(5, (bk (.row 2 (x762.map eT_Si64_i64_Z))))]⟩) (by kernel_rfl) (a_seq (a_block (a_region (vp (i6 a0) rfl (vp (eSi64 x1077) rfl (vp (i6 a0) rfl (vp (eSi64 x760) rfl ?_)))))))))
              obtain ⟨r1086, hr1087, h⟩ := bind_some h
              refine a_call (args := [(i6 a0), (eSi64 x1077), (i6 a0), (eSi64 x760)]) (u := []) (r := (eSi64 r1086)) rfl rfl (impl_prime_power_ok a0 x1077 a0 x760 r1086 hr1087) rfl (vp (eSi64 r1086) rfl (a_nil (b_norm (a_next (σ' := ⟨[(0, (i6 a0)), (1, (eSi64 x760)), (5, (.osl 5)), (6, (i6 x761)), (7, (eSi64 r1086)), (34, (i6 x761)), (35, (i6 x1078))], [(5, (bk (.row 2 (x762.map eT_Si64_i64_Z))))]⟩) (by kernel_rfl) (a_region (vp (i6 (IntKind.i64.wrap (x1078 + 1))) rfl (vp (i6 (IntKind.i64.wrap (x1078 + 1))) rfl (a_nil ?_))))))))
              cases h
              exact a_again (by kernel_rfl) hX1084
        · have h := ite_t hb1052 h
          refine a_cond_t rfl (sr (vp (.osl 5) rfl (vp (i6 a0) rfl (vp (eSi64 x760) rfl (vp (i6 a0) rfl (vp (eSi64 x760) rfl ?_))))))
          obtain ⟨r1132, hr1133, h⟩ := bind_some h
          refine a_call (args := [(eSi64 x760)]) (u := []) (r := (i6 r1132)) rfl rfl (impl_row_lead_ok x760 r1132 hr1133) rfl ?_
          obtain ⟨r1134, hr1135, h⟩ := bind_some h
          refine a_call (args := [(i6 a0), (i6 r1132)]) (u := []) (r := (i6 r1134)) rfl rfl (impl_prime_inverse_ok a0 r1132 r1134 hr1135) rfl ?_
          obtain ⟨r1136, hr1137, h⟩ := bind_some h
          refine a_call (args := [(i6 a0), (eSi64 x760), (i6 r1134)]) (u := []) (r := (eSi64 r1136)) rfl rfl (impl_prime_scale_ok a0 x760 r1134 r1136 hr1137) rfl (vq (eT_Si64_i64_Z (r1136, 1)) rfl ⟨rfl, (all_cons ⟨(Nat.le_of_ble_eq_true rfl), rfl⟩ (all_cons ⟨(Nat.le_of_ble_eq_true rfl), rfl⟩ all_nil))⟩ (vq (.sl 2 true (([(r1136, 1)]).map eT_Si64_i64_Z)) rfl ⟨(Nat.le_of_ble_eq_true rfl), (Nat.le_of_ble_eq_true rfl), (all_cons ⟨(Nat.le_of_ble_eq_true rfl), rfl⟩ all_nil)⟩ ?_))
          obtain ⟨hc1138, h⟩ := ifp_some h
          refine vu (.osl 4200) [(4200, (bk (.row 2 (((x762 ++ ([(r1136, 1)]))).map eT_Si64_i64_Z)))), (5, none)] (app_run (i := ⟨.struct [(0, 65), (1, 2)], 2, 32, (eT_Si64_i64_Z ([], (0 : Int)))⟩) (f := eT_Si64_i64_Z) (l := x762) (l2 := [(r1136, 1)]) rfl rfl rfl rfl (fun _ => rfl) rfl rfl) (app_c (f := eT_Si64_i64_Z) (s := 2) (sz := 2) (by' := 32) (u := []) (id := 5) hc1138 (.inr rfl) rfl rfl rfl) rfl (vp (.osl 4200) rfl (nx _ rfl (a_exit (t_exit (b_other rfl (t_exit ?_))))))
          cases h
          have h := hk1049
          cases h
          have h := hX952
          refine t_exit (b_exit ?_)
          exact j_leaf ((x762 ++ ([(r1136, 1)]))) (Option.some.inj h) (by kernel_rfl)
def impl_prime_isIrreducible_c : ACode := (.seq (.region 0 [q 4 (.asg 0 (.const (.bool false)) 4)] false) (.seq (.seq (.region 1 [q 6 (.mov (t 1)), q 7 (.call 0 (.func 101) [(t 6)]), q 8 (.bin .neq 2 (t 7) (.const (.int .i64 1))), q 9 (.mov (t 8)), ⟨some 10, .mov (t 1), some (9, false), []⟩, ⟨some 11, .call 0 (.func 59) [(t 10)], some (9, false), []⟩, ⟨some 12, .bin .lss 2 (t 11) (.const (.int .i64 1)), some (9, false), []⟩, q 13 (.pick (t 9) (.const (.bool true)) (t 12))] false) (.cond (t 13) (.seq (.region 2 [q 4 (.asg 0 (.const (.bool false)) 4)] false) .ret) .skip)) (.seq (.region 3 [q 14 (.mov (t 0)), q 15 (.mov (t 1)), q 16 (.call 0 (.func 54) [(t 14), (t 15)]), q 5 (.asg 1 (t 16) 68)] false) (.seq (.region 4 [q 17 (.mov (t 5)), q 18 (.blt 0 .len [(t 17)] [68]), q 19 (.bin .eql 3 (t 18) (.const (.int .i64 1))), q 20 (.mov (t 19)), ⟨some 21, .mov (t 5), some (20, true), []⟩, ⟨some 22, .indexAddr 68 (t 21) (.const (.int .i64 0)), some (20, true), []⟩, ⟨some 23, .fieldAddr 71 (t 22) 1, some (20, true), []⟩, ⟨some 24, .load 2 (t 23), some (20, true), []⟩, ⟨some 25, .bin .eql 2 (t 24) (.const (.int .i64 1)), some (20, true), []⟩, q 26 (.pick (t 20) (t 25) (.const (.bool false))), q 4 (.asg 0 (t 26) 4)] false) .ret))))
def impl_prime_isIrreducible_L : Live := [(0, [0, 1]), (1, [0, 1]), (2, []), (3, [0, 1]), (4, [5]), (100013, [0, 1, 13])]
noncomputable def impl_prime_isIrreducible (a0 : Int) (a1 : (List Int)) : Option Bool :=
  (Option.bind (α := Bool) ((Option.bind (impl_row_lead a1) fun r10 => (if (r10 != 1) then (some true) else (Option.bind (impl_row_degree a1) fun r13 => (some ((decide (r13 < 1)))))))) fun x6 => (if x6 then (some false) else (Option.bind (impl_prime_factors a0 a1) fun r16 => (if ((r16.length : Int) == 1) then (ifp (0 ≤ (0 : Int) ∧ (0 : Int) < ((r16.length : Nat) : Int)) ((some (((((rd r16 (0 : Int).toNat)).2) == 1))))) else (some false)))))
theorem impl_prime_isIrreducible_ok (a0 : Int) (a1 : (List Int)) (r : Bool) (h : impl_prime_isIrreducible a0 a1 = some r) : Den Try.prog 51 [(i6 a0), (eSi64 a1)] { r := (.bool r) } := by
  refine den_of (rs := [(.bool r)]) (ac := impl_prime_isIrreducible_c) (L := impl_prime_isIrreducible_L) (n := 27) (m := [(5, 1)]) (c := Try.f51.body.getD .skip) good Try.func51 (by kernel_rfl) (by kernel_rfl) Try.ntmps51 rfl rfl (by kernel_rfl) rfl rfl ?_
  refine a_st (σ' := ⟨[(0, (i6 a0)), (1, (eSi64 a1))], []⟩) (by kernel_rfl) ?_
  unfold impl_prime_isIrreducible_c
  refine sr (vp (.bool false) rfl (nx ⟨[(0, (i6 a0)), (1, (eSi64 a1))], []⟩ (by kernel_rfl) (a_seq ?_)))
  obtain ⟨y7, hy8, hk9⟩ := bind_some h
  clear h
  refine a_join (emb := fun (s : Bool) => ⟨[(0, (i6 a0)), (1, (eSi64 a1)), (13, (.bool s))], []⟩) (pre := fun s => s = y7) ?_ ?_
  · rintro x6 rfl
    have h := hk9
    refine a_st (σ' := ⟨[(0, (i6 a0)), (1, (eSi64 a1)), (13, (.bool x6))], []⟩) (by kernel_rfl) ?_
    cases hb15 : x6
    · have h := ite_f hb15 h
      refine a_cond_f rfl (a_skip (a_next (σ' := ⟨[(0, (i6 a0)), (1, (eSi64 a1))], []⟩) (by kernel_rfl) (sr (vp (i6 a0) rfl (vp (eSi64 a1) rfl ?_)))))
      obtain ⟨r16, hr17, h⟩ := bind_some h
      refine a_call (args := [(i6 a0), (eSi64 a1)]) (u := []) (r := (eST_Si64_i64_Z r16)) rfl rfl (impl_prime_factors_ok a0 a1 r16 hr17) rfl (vp (eST_Si64_i64_Z r16) rfl (nx ⟨[(5, (eST_Si64_i64_Z r16))], []⟩ (by kernel_rfl) (sr (vp (eST_Si64_i64_Z r16) rfl (vq (i6 (r16.length : Int)) (len_run rfl rfl) trivial (vp (.bool (((r16.length : Int) == 1))) rfl (vp (.bool (((r16.length : Int) == 1))) rfl ?_)))))))
      cases hb18 : ((r16.length : Int) == 1)
      · have h := ite_f hb18 h
        refine a_gskip rfl (a_gskip rfl (a_gskip rfl (a_gskip rfl (a_gskip rfl (vp (.bool false) rfl (vp (.bool false) rfl (nx _ rfl (a_ret ?_))))))))
        refine ⟨.inr rfl, ?_⟩
        rw [Try.results51]
        cases h
        exact ⟨_, _, _, _, _, rfl, trivial, .inl ⟨rfl, .inl rfl⟩, rfl, rfl⟩
      · have h := ite_t hb18 h
        refine gp (eST_Si64_i64_Z r16) rfl rfl ?_
        obtain ⟨hc19, h⟩ := ifp_some h
        refine gq (.ref (.row 2 (r16.map eT_Si64_i64_Z)) [(0 : Int).toNat] [(0 : Int).toNat * 2]) rfl rfl (lmap hc19) (gq (.ref (.row 2 (r16.map eT_Si64_i64_Z)) [(0 : Int).toNat, 1] [(0 : Int).toNat * 2, 1]) rfl rfl (Nat.le_of_ble_eq_true rfl) ?_)
        have hl20 : LdOk [(0 : Int).toNat, 1] (.row 2 (r16.map eT_Si64_i64_Z)) [(0 : Int).toNat * 2, 1] 1 false (i6 (((rd r16 (0 : Int).toNat)).2)) := (.row (llt hc19) rfl (.fld rfl rfl rfl rfl (.nil rfl rfl rfl)))
        refine gq (i6 (((rd r16 (0 : Int).toNat)).2)) rfl (ld_ref (i := ⟨.int .i64, 1, 8, (.int .i64 0)⟩) rfl rfl hl20) hl20.c (gp (.bool (((((rd r16 (0 : Int).toNat)).2) == 1))) rfl rfl (vp (.bool (((((rd r16 (0 : Int).toNat)).2) == 1))) rfl (vp (.bool (((((rd r16 (0 : Int).toNat)).2) == 1))) rfl (nx _ rfl (a_ret ?_)))))
        refine ⟨.inr rfl, ?_⟩
        rw [Try.results51]
        cases h
        exact ⟨_, _, _, _, _, rfl, trivial, .inl ⟨rfl, .inl rfl⟩, rfl, rfl⟩
    · have h := ite_t hb15 h
      refine a_cond_t rfl (sr (vp (.bool false) rfl (nx _ rfl (a_ret (t_ret ?_)))))
      refine ⟨.inr rfl, ?_⟩
      rw [Try.results51]
      cases h
      exact ⟨_, _, _, _, _, rfl, trivial, .inl ⟨rfl, .inl rfl⟩, rfl, rfl⟩
  · have h := hy8
    refine a_region (vp (eSi64 a1) rfl ?_)
    obtain ⟨r10, hr11, h⟩ := bind_some h
    refine a_call (args := [(eSi64 a1)]) (u := []) (r := (i6 r10)) rfl rfl (impl_row_lead_ok a1 r10 hr11) rfl (vp (.bool (r10 != 1)) rfl (vp (.bool (r10 != 1)) rfl ?_))
    cases hb12 : (r10 != 1)
    · have h := ite_f hb12 h
      refine gp (eSi64 a1) rfl rfl ?_
      obtain ⟨r13, hr14, h⟩ := bind_some h
      refine a_gcall rfl (args := [(eSi64 a1)]) (u := []) (r := (i6 r13)) rfl rfl (impl_row_degree_ok a1 r13 hr14) rfl (gp (.bool ((decide (r13 < 1)))) rfl rfl (vp (.bool ((decide (r13 < 1)))) rfl (a_nil ?_)))
      exact j_leaf ((decide (r13 < 1))) (Option.some.inj h) (by kernel_rfl)
    · have h := ite_t hb12 h
      refine a_gskip rfl (a_gskip rfl (a_gskip rfl (vp (.bool true) rfl (a_nil ?_))))
      exact j_leaf true (Option.some.inj h) (by kernel_rfl)
def impl_isField_c : ACode := (.seq (.region 0 [q 3 (.box 24 (t 1)), q 4 (.asg 0 (.const (.bool false)) 4)] false) (.seq (.region 1 [q 6 (.load 24 (t 3)), q 7 (.call 0 (.func 52) [(t 6)]), q 5 (.asg 1 (t 7) 65)] false) (.seq (.region 2 [q 8 (.mov (t 0)), q 9 (.load 24 (t 3)), q 10 (.call 0 (.func 92) [(t 8), (t 9)]), q 11 (.mov (t 10)), ⟨some 12, .mov (t 5), some (11, true), []⟩, ⟨some 13, .call 0 (.func 59) [(t 12)], some (11, true), []⟩, ⟨some 14, .call 0 (.func 93) [(t 13), (.const (.int .i64 1)), (.const (.int .i64 4))], some (11, true), []⟩, q 15 (.pick (t 11) (t 14) (.const (.bool false))), q 16 (.mov (t 15)), ⟨some 17, .mov (t 0), some (16, true), []⟩, ⟨some 18, .mov (t 5), some (16, true), []⟩, ⟨some 19, .call 0 (.func 51) [(t 17), (t 18)], some (16, true), []⟩, q 20 (.pick (t 16) (t 19) (.const (.bool false))), q 4 (.asg 0 (t 20) 4)] false) .ret)))
def impl_isField_L : Live := [(0, [0, 1]), (1, [0, 3]), (2, [0, 3, 5])]
noncomputable def impl_isField (a0 : Int) (a1 : (Vec Int 64)) : Option Bool :=
  (Option.bind (impl_rowOf a1) fun r2 => (Option.bind (impl_IsPoly a0 a1) fun r5 => (if r5 then (Option.bind (impl_row_degree r2) fun r8 => (Option.bind (impl_within r8 1 4) fun r10 => (if r10 then (Option.bind (impl_prime_isIrreducible a0 r2) fun r13 => (some r13)) else (some false)))) else (some false))))
theorem impl_isField_ok (a0 : Int) (a1 : (Vec Int 64)) (r : Bool) (h : impl_isField a0 a1 = some r) : Den Try.prog 46 [(i6 a0), (eA64u8 a1)] { r := (.bool r) } := by
  refine den_of (rs := [(.bool r)]) (ac := impl_isField_c) (L := impl_isField_L) (n := 21) (m := [(5, 1)]) (c := Try.f46.body.getD .skip) good Try.func46 (by kernel_rfl) (by kernel_rfl) Try.ntmps46 rfl rfl (by kernel_rfl) rfl rfl ?_
  refine a_st (σ' := ⟨[(0, (i6 a0)), (1, (eA64u8 a1))], []⟩) (by kernel_rfl) ?_
  unfold impl_isField_c
  refine sr (vo 1300 (eA64u8 a1) rfl rfl (vp (.bool false) rfl (nx ⟨[(0, (i6 a0)), (3, (ow 3))], [(3, (bk (eA64u8 a1)))]⟩ (by kernel_rfl) (sr (vl (eA64u8 a1) rfl rfl rfl rfl rfl rfl ?_)))))
  obtain ⟨r2, hr3, h⟩ := bind_some h
  refine a_call (args := [(eA64u8 a1)]) (u := []) (r := (eSi64 r2)) rfl rfl (impl_rowOf_ok a1 r2 hr3) rfl (vp (eSi64 r2) rfl (nx ⟨[(0, (i6 a0)), (3, (ow 3)), (5, (eSi64 r2))], [(3, (bk (eA64u8 a1)))]⟩ (by kernel_rfl) (sr (vp (i6 a0) rfl (vl (eA64u8 a1) rfl rfl rfl rfl rfl rfl ?_)))))
  obtain ⟨r5, hr6, h⟩ := bind_some h
  refine a_call (args := [(i6 a0), (eA64u8 a1)]) (u := []) (r := (.bool r5)) rfl rfl (impl_IsPoly_ok a0 a1 r5 hr6) rfl (vp (.bool r5) rfl ?_)
  cases hb7 : r5
  · have h := ite_f hb7 h
    refine a_gskip rfl (a_gskip rfl (a_gskip rfl (vp (.bool false) rfl (vp (.bool false) rfl (a_gskip rfl (a_gskip rfl (a_gskip rfl (vp (.bool false) rfl (vp (.bool false) rfl ?_)))))))))
    refine nx _ rfl (a_ret ?_)
    refine ⟨.inr rfl, ?_⟩
    rw [Try.results46]
    cases h
    exact ⟨_, _, _, _, _, rfl, trivial, .inl ⟨rfl, .inl rfl⟩, rfl, rfl⟩
  · have h := ite_t hb7 h
    refine gp (eSi64 r2) rfl rfl ?_
    obtain ⟨r8, hr9, h⟩ := bind_some h
    refine a_gcall rfl (args := [(eSi64 r2)]) (u := []) (r := (i6 r8)) rfl rfl (impl_row_degree_ok r2 r8 hr9) rfl ?_
    obtain ⟨r10, hr11, h⟩ := bind_some h
    refine a_gcall rfl (args := [(i6 r8), (i6 1), (i6 4)]) (u := []) (r := (.bool r10)) rfl rfl (impl_within_ok r8 1 4 r10 hr11) rfl (vp (.bool r10) rfl (vp (.bool r10) rfl ?_))
    cases hb12 : r10
    · have h := ite_f hb12 h
      refine a_gskip rfl (a_gskip rfl (a_gskip rfl (vp (.bool false) rfl (vp (.bool false) rfl (nx _ rfl (a_ret ?_))))))
      refine ⟨.inr rfl, ?_⟩
      rw [Try.results46]
      cases h
      exact ⟨_, _, _, _, _, rfl, trivial, .inl ⟨rfl, .inl rfl⟩, rfl, rfl⟩
    · have h := ite_t hb12 h
      refine gp (i6 a0) rfl rfl (gp (eSi64 r2) rfl rfl ?_)
      obtain ⟨r13, hr14, h⟩ := bind_some h
      refine a_gcall rfl (args := [(i6 a0), (eSi64 r2)]) (u := []) (r := (.bool r13)) rfl rfl (impl_prime_isIrreducible_ok a0 r2 r13 hr14) rfl (vp (.bool r13) rfl (vp (.bool r13) rfl (nx _ rfl (a_ret ?_))))
      refine ⟨.inr rfl, ?_⟩
      rw [Try.results46]
      cases h
      exact ⟨_, _, _, _, _, rfl, trivial, .inl ⟨rfl, .inl rfl⟩, rfl, rfl⟩
def impl_fieldOf_c : ACode := (.seq (.region 0 [q 3 (.box 24 (t 1)), q 4 (.alloc 88)] false) (.seq (.region 1 [q 5 (.mov (t 0)), q 6 (.load 24 (t 3)), q 7 (.call 0 (.func 52) [(t 6)]), q 8 (.build 88 [(0, (t 5)), (1, (t 7))]), ⟨none, .store 88 (t 4) (t 8), none, []⟩] false) .ret))
def impl_fieldOf_L : Live := [(0, [0, 1]), (1, [0, 3, 4])]
noncomputable def impl_fieldOf (a0 : Int) (a1 : (Vec Int 64)) : Option (Int × (List Int)) :=
  (Option.bind (impl_rowOf a1) fun r2 => (some (a0, r2)))
theorem impl_fieldOf_ok (a0 : Int) (a1 : (Vec Int 64)) (r : (Int × (List Int))) (h : impl_fieldOf a0 a1 = some r) : Den Try.prog 71 [(i6 a0), (eA64u8 a1)] { r := (eT_i64_Si64_Z r) } := by
  refine den_of (rs := [(eT_i64_Si64_Z r)]) (ac := impl_fieldOf_c) (L := impl_fieldOf_L) (n := 9) (m := []) (c := Try.f71.body.getD .skip) good Try.func71 (by kernel_rfl) (by kernel_rfl) Try.ntmps71 rfl rfl (by kernel_rfl) rfl rfl ?_
  refine a_st (σ' := ⟨[(0, (i6 a0)), (1, (eA64u8 a1))], []⟩) (by kernel_rfl) ?_
  unfold impl_fieldOf_c
  refine sr (vo 1300 (eA64u8 a1) rfl rfl (vo 1400 (eT_i64_Si64_Z (((0 : Int), []))) rfl rfl (nx ⟨[(0, (i6 a0)), (3, (ow 3)), (4, (ow 4))], [(3, (bk (eA64u8 a1))), (4, (bk (eT_i64_Si64_Z (((0 : Int), [])))))]⟩ (by kernel_rfl) (sr (vp (i6 a0) rfl (vl (eA64u8 a1) rfl rfl rfl rfl rfl rfl ?_))))))
  obtain ⟨r2, hr3, h⟩ := bind_some h
  refine a_call (args := [(eA64u8 a1)]) (u := []) (r := (eSi64 r2)) rfl rfl (impl_rowOf_ok a1 r2 hr3) rfl (vq (eT_i64_Si64_Z (a0, r2)) rfl ⟨rfl, (all_cons ⟨(Nat.le_of_ble_eq_true rfl), rfl⟩ (all_cons ⟨(Nat.le_of_ble_eq_true rfl), rfl⟩ all_nil))⟩ (vs (eT_i64_Si64_Z (a0, r2)) rfl rfl (fun _ => rfl) rfl rfl rfl rfl rfl rfl (nx _ rfl (a_ret ?_))))
  have hl5 : LdOk [] (eT_i64_Si64_Z (a0, r2)) [] 2 true (eT_i64_Si64_Z (a0, r2)) := (.nil rfl rfl rfl)
  refine ⟨.inr rfl, ?_⟩
  rw [Try.results71]
  cases h
  exact ⟨_, _, _, _, _, ld_own (i := ⟨.struct [(0, 62), (1, 65)], 2, 32, (eT_i64_Si64_Z ((0 : Int), []))⟩) rfl rfl rfl hl5, hl5.c, .inl ⟨rfl, .inl rfl⟩, rfl, rfl⟩
def impl_field_isResidue_c : ACode := (.seq (.region 0 [q 2 (.box 88 (t 0)), q 3 (.box 24 (t 1)), q 4 (.asg 0 (.const (.bool false)) 4)] false) (.seq (.region 1 [q 5 (.fieldAddr 88 (t 2) 0), ⟨some 6, .load 62 (t 5), none, [0]⟩, q 7 (.load 24 (t 3)), ⟨some 8, .call 0 (.func 120) [(t 6), (t 7)], none, [1, 2]⟩, ⟨some 9, .mov (t 8), none, [3, 3]⟩, ⟨some 10, .load 24 (t 3), some (9, true), [4]⟩, ⟨some 11, .call 0 (.func 52) [(t 10)], some (9, true), [5, 4, 4]⟩, ⟨some 12, .call 0 (.func 59) [(t 11)], some (9, true), [6, 6, 4]⟩, ⟨some 13, .fieldAddr 88 (t 2) 1, some (9, true), [4]⟩, ⟨some 14, .load 65 (t 13), some (9, true), [8, 4]⟩, ⟨some 15, .call 0 (.func 59) [(t 14)], some (9, true), [9, 7, 4]⟩, ⟨some 16, .bin .lss 2 (t 12) (t 15), some (9, true), [7, 10, 4]⟩, ⟨some 17, .pick (t 9) (t 16) (.const (.bool false)), none, [4, 11]⟩, ⟨some 4, .asg 0 (t 17) 4, none, [12, 10, 0, 1, 2, 3, 4, 5, 6, 7, 8, 9, 10, 11, 12]⟩] true) .ret))
def impl_field_isResidue_L : Live := [(0, [0, 1]), (1, [2, 3])]
noncomputable def impl_field_isResidue (a0 : (Int × (List Int))) (a1 : (Vec Int 64)) : Option Bool :=
  (Option.bind (impl_isPoly a0.1 a1) fun r16 => (if r16 then (Option.bind (impl_rowOf a1) fun r20 => (Option.bind (impl_row_degree r20) fun r22 => (Option.bind (impl_row_degree a0.2) fun r25 => (some ((decide (r22 < r25))))))) else (some false)))
theorem impl_field_isResidue_ok (a0 : (Int × (List Int))) (a1 : (Vec Int 64)) (r : Bool) (h : impl_field_isResidue a0 a1 = some r) : Den Try.prog 74 [(eT_i64_Si64_Z a0), (eA64u8 a1)] { r := (.bool r) } := by
  refine den_of (rs := [(.bool r)]) (ac := impl_field_isResidue_c) (L := impl_field_isResidue_L) (n := 18) (m := []) (c := Try.f74.body.getD .skip) good Try.func74 (by kernel_rfl) (by kernel_rfl) Try.ntmps74 rfl rfl (by kernel_rfl) rfl rfl ?_
  refine a_st (σ' := ⟨[(0, (eT_i64_Si64_Z a0)), (1, (eA64u8 a1))], []⟩) (by kernel_rfl) ?_
  unfold impl_field_isResidue_c
  refine sr (vo 1200 (eT_i64_Si64_Z a0) rfl rfl (vo 1300 (eA64u8 a1) rfl rfl (vp (.bool false) rfl (nx ⟨[(2, (ow 2)), (3, (ow 3))], [(2, (bk (eT_i64_Si64_Z a0))), (3, (bk (eA64u8 a1)))]⟩ (by kernel_rfl) (a_seq (a_draw [⟨[2], [], [2], []⟩, ⟨[2], [], [], [0]⟩, ⟨[3], [], [], []⟩, ⟨[], [], [], [0, 1, 2]⟩, ⟨[], [], [], [0, 1, 2, 3]⟩, ⟨[3], [], [], [0, 1, 2, 3, 4]⟩, ⟨[], [], [], [0, 1, 2, 3, 4, 5]⟩, ⟨[], [], [], [0, 1, 2, 3, 4, 5, 6]⟩, ⟨[2], [], [2], [0, 1, 2, 3, 4]⟩, ⟨[2], [], [], [0, 1, 2, 3, 4, 8]⟩, ⟨[], [], [], [0, 1, 2, 3, 4, 5, 6, 7, 8, 9]⟩, ⟨[], [], [], [0, 1, 2, 3, 4, 5, 6, 7, 8, 9, 10]⟩, ⟨[], [], [], [0, 1, 2, 3, 4, 5, 6, 7, 8, 9, 10, 11]⟩, ⟨[], [], [], [0, 1, 2, 3, 4, 5, 6, 7, 8, 9, 10, 11, 12]⟩] (by kernel_rfl) (d_cons (vb (.own 2 [0] [0]) rfl rfl (d_next (by kernel_rfl) ?_)))))))))
  refine d_cons ?_
  have hl14 : LdOk [0] (eT_i64_Si64_Z a0) [0] 1 false (i6 a0.1) := (.fld rfl rfl rfl rfl (.nil rfl rfl rfl))
  refine vq (i6 a0.1) (ld_own (i := ⟨.int .i64, 1, 8, (.int .i64 0)⟩) rfl rfl rfl hl14) hl14.c (d_next (by kernel_rfl) (d_cons (vl (eA64u8 a1) rfl rfl rfl rfl rfl rfl (d_next (by kernel_rfl) (d_cons ?_)))))
  obtain ⟨r16, hr17, h⟩ := bind_some h
  refine a_call (args := [(i6 a0.1), (eA64u8 a1)]) (u := []) (r := (.bool r16)) rfl rfl (impl_isPoly_ok a0.1 a1 r16 hr17) rfl (d_next (by kernel_rfl) (dp (.bool r16) rfl (by kernel_rfl) ?_))
  cases hb18 : r16
  · have h := ite_f hb18 h
    refine dk rfl (by kernel_rfl) (dk rfl (by kernel_rfl) (dk rfl (by kernel_rfl) (dk rfl (by kernel_rfl) (dk rfl (by kernel_rfl) (dk rfl (by kernel_rfl) (dk rfl (by kernel_rfl) (dp (.bool false) rfl (by kernel_rfl) (dp (.bool false) rfl (by kernel_rfl) (d_nil ?_)))))))))
    refine a_next rfl (a_ret ?_)
    refine ⟨.inr rfl, ?_⟩
    rw [Try.results74]
    cases h
    exact ⟨_, _, _, _, _, rfl, trivial, .inl ⟨rfl, .inl rfl⟩, rfl, rfl⟩
  · have h := ite_t hb18 h
    refine d_cons ?_
    have hl19 : LdOk [] (eA64u8 a1) [] 64 true (eA64u8 a1) := (.nil rfl rfl rfl)
    refine gq (eA64u8 a1) rfl (ld_own (i := ⟨.arr 64 5, 64, 64, (eA64u8 (vrep 64 (0 : Int)))⟩) rfl rfl rfl hl19) hl19.c (d_next (by kernel_rfl) (d_cons ?_))
    obtain ⟨r20, hr21, h⟩ := bind_some h
    refine a_gcall rfl (args := [(eA64u8 a1)]) (u := []) (r := (eSi64 r20)) rfl rfl (impl_rowOf_ok a1 r20 hr21) rfl (d_next (by kernel_rfl) (d_cons ?_))
    obtain ⟨r22, hr23, h⟩ := bind_some h
    refine a_gcall rfl (args := [(eSi64 r20)]) (u := []) (r := (i6 r22)) rfl rfl (impl_row_degree_ok r20 r22 hr23) rfl (d_next (by kernel_rfl) (d_cons (gq (.own 2 [1] [1]) rfl rfl (Nat.le_of_ble_eq_true rfl) (d_next (by kernel_rfl) (d_cons ?_)))))
    have hl24 : LdOk [1] (eT_i64_Si64_Z a0) [1] 1 false (eSi64 a0.2) := (.fld rfl rfl rfl rfl (.nil rfl rfl rfl))
    refine gq (eSi64 a0.2) rfl (ld_own (i := ⟨.slice 2, 1, 24, (eSi64 [])⟩) rfl rfl rfl hl24) hl24.c (d_next (by kernel_rfl) (d_cons ?_))
    obtain ⟨r25, hr26, h⟩ := bind_some h
    refine a_gcall rfl (args := [(eSi64 a0.2)]) (u := []) (r := (i6 r25)) rfl rfl (impl_row_degree_ok a0.2 r25 hr26) rfl (d_next (by kernel_rfl) (dg (.bool ((decide (r22 < r25)))) rfl rfl (by kernel_rfl) (dp (.bool ((decide (r22 < r25)))) rfl (by kernel_rfl) (dp (.bool ((decide (r22 < r25)))) rfl (by kernel_rfl) (d_nil (a_next rfl (a_ret ?_)))))))
    refine ⟨.inr rfl, ?_⟩
    rw [Try.results74]
    cases h
    exact ⟨_, _, _, _, _, rfl, trivial, .inl ⟨rfl, .inl rfl⟩, rfl, rfl⟩
def impl_IsDrinfeld_c : ACode := (.seq (.region 0 [q 1 (.box 52 (t 0)), q 2 (.asg 0 (.const (.bool false)) 4)] false) (.seq (.seq (.region 1 [q 4 (.fieldAddr 52 (t 1) 0), q 5 (.load 2 (t 4)), q 6 (.fieldAddr 52 (t 1) 1), q 7 (.load 24 (t 6)), q 8 (.call 0 (.func 46) [(t 5), (t 7)]), q 9 (.un .not (t 8))] false) (.cond (t 9) (.seq (.region 2 [q 2 (.asg 0 (.const (.bool false)) 4)] false) .ret) .skip)) (.seq (.region 3 [q 10 (.fieldAddr 52 (t 1) 0), q 11 (.load 2 (t 10)), q 12 (.fieldAddr 52 (t 1) 1), q 13 (.load 24 (t 12)), q 14 (.call 0 (.func 71) [(t 11), (t 13)]), q 3 (.alloc 88), ⟨none, .store 88 (t 3) (t 14), none, []⟩] false) (.seq (.region 4 [q 15 (.load 88 (t 3)), q 16 (.fieldAddr 52 (t 1) 2), q 17 (.load 24 (t 16)), q 18 (.call 0 (.func 74) [(t 15), (t 17)]), q 19 (.mov (t 18)), ⟨some 20, .load 88 (t 3), some (19, true), []⟩, ⟨some 21, .fieldAddr 52 (t 1) 3, some (19, true), []⟩, ⟨some 22, .load 24 (t 21), some (19, true), []⟩, ⟨some 23, .call 0 (.func 74) [(t 20), (t 22)], some (19, true), []⟩, q 24 (.pick (t 19) (t 23) (.const (.bool false))), q 25 (.mov (t 24)), ⟨some 26, .fieldAddr 52 (t 1) 3, some (25, true), []⟩, ⟨some 27, .load 24 (t 26), some (25, true), []⟩, ⟨some 28, .build 24 [], some (25, true), []⟩, ⟨some 29, .bin .neq 24 (t 27) (t 28), some (25, true), []⟩, q 30 (.pick (t 25) (t 29) (.const (.bool false))), q 2 (.asg 0 (t 30) 4)] false) .ret))))
def impl_IsDrinfeld_L : Live := [(0, [0]), (1, [1]), (2, []), (3, [1]), (4, [1, 3]), (100009, [1, 9])]
noncomputable def impl_IsDrinfeld (a0 : (Int × (Vec Int 64) × (Vec Int 64) × (Vec Int 64))) : Option Bool :=
  (Option.bind (impl_isField a0.1 a0.2.1) fun r3 => (if (!r3) then (some false) else (Option.bind (impl_fieldOf a0.1 a0.2.1) fun r8 => (Option.bind (impl_field_isResidue r8 a0.2.2.1) fun r13 => (if r13 then (Option.bind (impl_field_isResidue r8 a0.2.2.2) fun r18 => (if r18 then (some ((!decide (a0.2.2.2 = ((vrep 64 (0 : Int))))))) else (some false))) else (some false))))))
theorem impl_IsDrinfeld_ok (a0 : (Int × (Vec Int 64) × (Vec Int 64) × (Vec Int 64))) (r : Bool) (h : impl_IsDrinfeld a0 = some r) : Den Try.prog 38 [(eT_i64_A64u8_A64u8_A64u8_Z a0)] { r := (.bool r) } := by
  refine den_of (rs := [(.bool r)]) (ac := impl_IsDrinfeld_c) (L := impl_IsDrinfeld_L) (n := 31) (m := []) (c := Try.f38.body.getD .skip) good Try.func38 (by kernel_rfl) (by kernel_rfl) Try.ntmps38 rfl rfl (by kernel_rfl) rfl rfl ?_
  refine a_st (σ' := ⟨[(0, (eT_i64_A64u8_A64u8_A64u8_Z a0))], []⟩) (by kernel_rfl) ?_
  unfold impl_IsDrinfeld_c
  refine sr (vo 1100 (eT_i64_A64u8_A64u8_A64u8_Z a0) rfl rfl (vp (.bool false) rfl (nx ⟨[(1, (ow 1))], [(1, (bk (eT_i64_A64u8_A64u8_A64u8_Z a0)))]⟩ (by kernel_rfl) (a_seq (sr (vb (.own 1 [0] [0]) rfl rfl ?_))))))
  have hl1 : LdOk [0] (eT_i64_A64u8_A64u8_A64u8_Z a0) [0] 1 false (i6 a0.1) := (.fld rfl rfl rfl rfl (.nil rfl rfl rfl))
  refine vq (i6 a0.1) (ld_own (i := ⟨.int .i64, 1, 8, (.int .i64 0)⟩) rfl rfl rfl hl1) hl1.c (vb (.own 1 [1] [1]) rfl rfl ?_)
  have hl2 : LdOk [1] (eT_i64_A64u8_A64u8_A64u8_Z a0) [1] 64 true (eA64u8 a0.2.1) := (.fld rfl rfl rfl rfl (.nil rfl rfl rfl))
  refine vq (eA64u8 a0.2.1) (ld_own (i := ⟨.arr 64 5, 64, 64, (eA64u8 (vrep 64 (0 : Int)))⟩) rfl rfl rfl hl2) hl2.c ?_
  obtain ⟨r3, hr4, h⟩ := bind_some h
  refine a_call (args := [(i6 a0.1), (eA64u8 a0.2.1)]) (u := []) (r := (.bool r3)) rfl rfl (impl_isField_ok a0.1 a0.2.1 r3 hr4) rfl (vp (.bool (!r3)) rfl (nx ⟨[(1, (ow 1)), (9, (.bool (!r3)))], [(1, (bk (eT_i64_A64u8_A64u8_A64u8_Z a0)))]⟩ (by kernel_rfl) ?_))
  cases hb5 : (!r3)
  · have h := ite_f hb5 h
    refine a_cond_f rfl (a_skip (a_next (σ' := ⟨[(1, (ow 1))], [(1, (bk (eT_i64_A64u8_A64u8_A64u8_Z a0)))]⟩) (by kernel_rfl) (sr (vb (.own 1 [0] [0]) rfl rfl ?_))))
    have hl6 : LdOk [0] (eT_i64_A64u8_A64u8_A64u8_Z a0) [0] 1 false (i6 a0.1) := (.fld rfl rfl rfl rfl (.nil rfl rfl rfl))
    refine vq (i6 a0.1) (ld_own (i := ⟨.int .i64, 1, 8, (.int .i64 0)⟩) rfl rfl rfl hl6) hl6.c (vb (.own 1 [1] [1]) rfl rfl ?_)
    have hl7 : LdOk [1] (eT_i64_A64u8_A64u8_A64u8_Z a0) [1] 64 true (eA64u8 a0.2.1) := (.fld rfl rfl rfl rfl (.nil rfl rfl rfl))
    refine vq (eA64u8 a0.2.1) (ld_own (i := ⟨.arr 64 5, 64, 64, (eA64u8 (vrep 64 (0 : Int)))⟩) rfl rfl rfl hl7) hl7.c ?_
    obtain ⟨r8, hr9, h⟩ := bind_some h
    refine a_call (args := [(i6 a0.1), (eA64u8 a0.2.1)]) (u := []) (r := (eT_i64_Si64_Z r8)) rfl rfl (impl_fieldOf_ok a0.1 a0.2.1 r8 hr9) rfl (vo 1300 (eT_i64_Si64_Z (((0 : Int), []))) rfl rfl (vs (eT_i64_Si64_Z r8) rfl rfl (fun _ => rfl) rfl rfl rfl rfl rfl rfl (nx ⟨[(1, (ow 1)), (3, (ow 3))], [(1, (bk (eT_i64_A64u8_A64u8_A64u8_Z a0))), (3, (bk (eT_i64_Si64_Z r8)))]⟩ (by kernel_rfl) (sr (vl (eT_i64_Si64_Z r8) rfl rfl rfl rfl rfl rfl (vb (.own 1 [2] [65]) rfl rfl ?_))))))
    have hl12 : LdOk [2] (eT_i64_A64u8_A64u8_A64u8_Z a0) [65] 64 true (eA64u8 a0.2.2.1) := (.fld rfl rfl rfl rfl (.nil rfl rfl rfl))
    refine vq (eA64u8 a0.2.2.1) (ld_own (i := ⟨.arr 64 5, 64, 64, (eA64u8 (vrep 64 (0 : Int)))⟩) rfl rfl rfl hl12) hl12.c ?_
    obtain ⟨r13, hr14, h⟩ := bind_some h
    refine a_call (args := [(eT_i64_Si64_Z r8), (eA64u8 a0.2.2.1)]) (u := []) (r := (.bool r13)) rfl rfl (impl_field_isResidue_ok r8 a0.2.2.1 r13 hr14) rfl (vp (.bool r13) rfl ?_)
    cases hb15 : r13
    · have h := ite_f hb15 h
      refine a_gskip rfl (a_gskip rfl (a_gskip rfl (a_gskip rfl (vp (.bool false) rfl (vp (.bool false) rfl (a_gskip rfl (a_gskip rfl (a_gskip rfl (a_gskip rfl ?_)))))))))
      refine vp (.bool false) rfl (vp (.bool false) rfl (nx _ rfl (a_ret ?_)))
      refine ⟨.inr rfl, ?_⟩
      rw [Try.results38]
      cases h
      exact ⟨_, _, _, _, _, rfl, trivial, .inl ⟨rfl, .inl rfl⟩, rfl, rfl⟩
    · have h := ite_t hb15 h
      have hl16 : LdOk [] (eT_i64_Si64_Z r8) [] 2 true (eT_i64_Si64_Z r8) := (.nil rfl rfl rfl)
      refine gq (eT_i64_Si64_Z r8) rfl (ld_own (i := ⟨.struct [(0, 62), (1, 65)], 2, 32, (eT_i64_Si64_Z ((0 : Int), []))⟩) rfl rfl rfl hl16) hl16.c (gq (.own 1 [3] [129]) rfl rfl (Nat.le_of_ble_eq_true rfl) ?_)
      have hl17 : LdOk [3] (eT_i64_A64u8_A64u8_A64u8_Z a0) [129] 64 true (eA64u8 a0.2.2.2) := (.fld rfl rfl rfl rfl (.nil rfl rfl rfl))
      refine gq (eA64u8 a0.2.2.2) rfl (ld_own (i := ⟨.arr 64 5, 64, 64, (eA64u8 (vrep 64 (0 : Int)))⟩) rfl rfl rfl hl17) hl17.c ?_
      obtain ⟨r18, hr19, h⟩ := bind_some h
      refine a_gcall rfl (args := [(eT_i64_Si64_Z r8), (eA64u8 a0.2.2.2)]) (u := []) (r := (.bool r18)) rfl rfl (impl_field_isResidue_ok r8 a0.2.2.2 r18 hr19) rfl (vp (.bool r18) rfl (vp (.bool r18) rfl ?_))
      cases hb20 : r18
      · have h := ite_f hb20 h
        refine a_gskip rfl (a_gskip rfl (a_gskip rfl (a_gskip rfl (vp (.bool false) rfl (vp (.bool false) rfl (nx _ rfl (a_ret ?_)))))))
        refine ⟨.inr rfl, ?_⟩
        rw [Try.results38]
        cases h
        exact ⟨_, _, _, _, _, rfl, trivial, .inl ⟨rfl, .inl rfl⟩, rfl, rfl⟩
      · have h := ite_t hb20 h
        refine gq (.own 1 [3] [129]) rfl rfl (Nat.le_of_ble_eq_true rfl) ?_
        have hl21 : LdOk [3] (eT_i64_A64u8_A64u8_A64u8_Z a0) [129] 64 true (eA64u8 a0.2.2.2) := (.fld rfl rfl rfl rfl (.nil rfl rfl rfl))
        refine gq (eA64u8 a0.2.2.2) rfl (ld_own (i := ⟨.arr 64 5, 64, 64, (eA64u8 (vrep 64 (0 : Int)))⟩) rfl rfl rfl hl21) hl21.c (gq (eA64u8 ((vrep 64 (0 : Int)))) rfl rfl ⟨⟨_, rfl, rfl⟩, all_nil⟩ (gq (.bool ((!decide (a0.2.2.2 = ((vrep 64 (0 : Int))))))) rfl (nea_run (f := (AV.int .u8)) (a := a0.2.2.2.1) (b := ((vrep 64 (0 : Int))).1) rfl rfl (eqb_vec (fun _ _ => eqb_int _ _) a0.2.2.2 ((vrep 64 (0 : Int))))) (cmp_arr (g := 8) (f := (AV.int .u8)) (x := a0.2.2.2) (y := ((vrep 64 (0 : Int)))) rfl rfl rfl (fun _ _ => rfl) (fun _ _ => cmp_int rfl)) (vp (.bool ((!decide (a0.2.2.2 = ((vrep 64 (0 : Int))))))) rfl (vp (.bool ((!decide (a0.2.2.2 = ((vrep 64 (0 : Int))))))) rfl (nx _ rfl (a_ret ?_))))))
        refine ⟨.inr rfl, ?_⟩
        rw [Try.results38]
        cases h
        exact ⟨_, _, _, _, _, rfl, trivial, .inl ⟨rfl, .inl rfl⟩, rfl, rfl⟩
  · have h := ite_t hb5 h
    refine a_cond_t rfl (sr (vp (.bool false) rfl (nx _ rfl (a_ret (t_ret ?_)))))
    refine ⟨.inr rfl, ?_⟩
    rw [Try.results38]
    cases h
    exact ⟨_, _, _, _, _, rfl, trivial, .inl ⟨rfl, .inl rfl⟩, rfl, rfl⟩
def impl_pairCode_c : ACode := (.seq (.region 0 [q 2 (.box 52 (t 0)), q 3 (.box 52 (t 1)), q 4 (.asg 0 (.const (.int .i64 0)) 2)] false) (.seq (.block 0 (.seq (.region 1 [q 6 (.load 52 (t 2)), q 7 (.call 0 (.func 38) [(t 6)]), q 8 (.un .not (t 7)), q 9 (.mov (t 8)), ⟨some 10, .load 52 (t 3), some (9, false), []⟩, ⟨some 11, .call 0 (.func 38) [(t 10)], some (9, false), []⟩, ⟨some 12, .un .not (t 11), some (9, false), []⟩, q 13 (.pick (t 9) (.const (.bool true)) (t 12)), q 5 (.asg 0 (t 13) 4)] false) (.cond (t 5) (.seq (.region 2 [q 4 (.asg 0 (.const (.int .i64 1)) 2)] false) .ret) (.seq (.region 3 [q 15 (.fieldAddr 52 (t 2) 0), q 16 (.load 2 (t 15)), q 17 (.fieldAddr 52 (t 3) 0), q 18 (.load 2 (t 17)), q 19 (.bin .neq 2 (t 16) (t 18)), q 20 (.mov (t 19)), ⟨some 21, .fieldAddr 52 (t 2) 1, some (20, false), []⟩, ⟨some 22, .load 24 (t 21), some (20, false), []⟩, ⟨some 23, .fieldAddr 52 (t 3) 1, some (20, false), []⟩, ⟨some 24, .load 24 (t 23), some (20, false), []⟩, ⟨some 25, .bin .neq 24 (t 22) (t 24), some (20, false), []⟩, q 26 (.pick (t 20) (.const (.bool true)) (t 25)), q 14 (.asg 0 (t 26) 4)] false) (.cond (t 14) (.seq (.region 4 [q 4 (.asg 0 (.const (.int .i64 2)) 2)] false) .ret) .skip))))) (.seq (.region 5 [q 4 (.asg 0 (.const (.int .i64 0)) 2)] false) .ret)))
def impl_pairCode_L : Live := [(0, [0, 1]), (1, [2, 3]), (2, []), (3, [2, 3]), (4, []), (5, []), (100005, [2, 3, 5]), (100014, [14])]
noncomputable def impl_pairCode (a0 : (Int × (Vec Int 64) × (Vec Int 64) × (Vec Int 64))) (a1 : (Int × (Vec Int 64) × (Vec Int 64) × (Vec Int 64))) : Option Int :=
  (Option.bind (α := Bool) ((Option.bind (impl_IsDrinfeld a0) fun r13 => (if (!r13) then (some true) else (Option.bind (impl_IsDrinfeld a1) fun r17 => (some (!r17)))))) fun x8 => (if x8 then (some 1) else (Option.bind (α := Bool) ((if (a0.1 != a1.1) then (some true) else (some ((!decide (a0.2.1 = a1.2.1)))))) fun x25 => (if x25 then (some 2) else (some 0)))))
theorem impl_pairCode_ok (a0 : (Int × (Vec Int 64) × (Vec Int 64) × (Vec Int 64))) (a1 : (Int × (Vec Int 64) × (Vec Int 64) × (Vec Int 64))) (r : Int) (h : impl_pairCode a0 a1 = some r) : Den Try.prog 88 [(eT_i64_A64u8_A64u8_A64u8_Z a0), (eT_i64_A64u8_A64u8_A64u8_Z a1)] { r := (i6 r) } := by
  refine den_of (rs := [(i6 r)]) (ac := impl_pairCode_c) (L := impl_pairCode_L) (n := 27) (m := []) (c := Try.f88.body.getD .skip) good Try.func88 (by kernel_rfl) (by kernel_rfl) Try.ntmps88 rfl rfl (by kernel_rfl) rfl rfl ?_
  refine a_st (σ' := ⟨[(0, (eT_i64_A64u8_A64u8_A64u8_Z a0)), (1, (eT_i64_A64u8_A64u8_A64u8_Z a1))], []⟩) (by kernel_rfl) ?_
  unfold impl_pairCode_c
  refine sr (vo 1200 (eT_i64_A64u8_A64u8_A64u8_Z a0) rfl rfl (vo 1300 (eT_i64_A64u8_A64u8_A64u8_Z a1) rfl rfl (vp (i6 0) rfl (nx ⟨[(2, (ow 2)), (3, (ow 3))], [(2, (bk (eT_i64_A64u8_A64u8_A64u8_Z a0))), (3, (bk (eT_i64_A64u8_A64u8_A64u8_Z a1)))]⟩ (by kernel_rfl) (a_seq (a_block ?_))))))
  obtain ⟨y9, hy10, hk11⟩ := bind_some h
  clear h
  refine a_join (emb := fun (s : Bool) => ⟨[(2, (ow 2)), (3, (ow 3)), (5, (.bool s))], [(2, (bk (eT_i64_A64u8_A64u8_A64u8_Z a0))), (3, (bk (eT_i64_A64u8_A64u8_A64u8_Z a1)))]⟩) (pre := fun s => s = y9) ?_ ?_
  · rintro x8 rfl
    have h := hk11
    refine a_st (σ' := ⟨[(2, (ow 2)), (3, (ow 3)), (5, (.bool x8))], [(2, (bk (eT_i64_A64u8_A64u8_A64u8_Z a0))), (3, (bk (eT_i64_A64u8_A64u8_A64u8_Z a1)))]⟩) (by kernel_rfl) ?_
    cases hb19 : x8
    · have h := ite_f hb19 h
      refine a_cond_f rfl ?_
      obtain ⟨y26, hy27, hk28⟩ := bind_some h
      clear h
      refine a_join (emb := fun (s : Bool) => ⟨[(14, (.bool s))], []⟩) (pre := fun s => s = y26) ?_ ?_
      · rintro x25 rfl
        have h := hk28
        refine a_st (σ' := ⟨[(14, (.bool x25))], []⟩) (by kernel_rfl) ?_
        cases hb34 : x25
        · have h := ite_f hb34 h
          refine a_cond_f rfl (a_skip (b_norm (a_next (σ' := ⟨[], []⟩) (by kernel_rfl) (sr (vp (i6 0) rfl (nx _ rfl (a_ret ?_)))))))
          refine ⟨.inr rfl, ?_⟩
          rw [Try.results88]
          cases h
          exact ⟨_, _, _, _, _, rfl, trivial, .inl ⟨rfl, .inl rfl⟩, rfl, rfl⟩
        · have h := ite_t hb34 h
          refine a_cond_t rfl (sr (vp (i6 2) rfl (nx _ rfl (a_ret (b_ret (t_ret ?_))))))
          refine ⟨.inr rfl, ?_⟩
          rw [Try.results88]
          cases h
          exact ⟨_, _, _, _, _, rfl, trivial, .inl ⟨rfl, .inl rfl⟩, rfl, rfl⟩
      · have h := hy27
        refine a_region (vb (.own 2 [0] [0]) rfl rfl ?_)
        have hl29 : LdOk [0] (eT_i64_A64u8_A64u8_A64u8_Z a0) [0] 1 false (i6 a0.1) := (.fld rfl rfl rfl rfl (.nil rfl rfl rfl))
        refine vq (i6 a0.1) (ld_own (i := ⟨.int .i64, 1, 8, (.int .i64 0)⟩) rfl rfl rfl hl29) hl29.c (vb (.own 3 [0] [0]) rfl rfl ?_)
        have hl30 : LdOk [0] (eT_i64_A64u8_A64u8_A64u8_Z a1) [0] 1 false (i6 a1.1) := (.fld rfl rfl rfl rfl (.nil rfl rfl rfl))
        refine vq (i6 a1.1) (ld_own (i := ⟨.int .i64, 1, 8, (.int .i64 0)⟩) rfl rfl rfl hl30) hl30.c (vp (.bool (a0.1 != a1.1)) rfl (vp (.bool (a0.1 != a1.1)) rfl ?_))
        cases hb31 : (a0.1 != a1.1)
        · have h := ite_f hb31 h
          refine gq (.own 2 [1] [1]) rfl rfl (Nat.le_of_ble_eq_true rfl) ?_
          have hl32 : LdOk [1] (eT_i64_A64u8_A64u8_A64u8_Z a0) [1] 64 true (eA64u8 a0.2.1) := (.fld rfl rfl rfl rfl (.nil rfl rfl rfl))
          refine gq (eA64u8 a0.2.1) rfl (ld_own (i := ⟨.arr 64 5, 64, 64, (eA64u8 (vrep 64 (0 : Int)))⟩) rfl rfl rfl hl32) hl32.c (gq (.own 3 [1] [1]) rfl rfl (Nat.le_of_ble_eq_true rfl) ?_)
          have hl33 : LdOk [1] (eT_i64_A64u8_A64u8_A64u8_Z a1) [1] 64 true (eA64u8 a1.2.1) := (.fld rfl rfl rfl rfl (.nil rfl rfl rfl))
          refine gq (eA64u8 a1.2.1) rfl (ld_own (i := ⟨.arr 64 5, 64, 64, (eA64u8 (vrep 64 (0 : Int)))⟩) rfl rfl rfl hl33) hl33.c (gq (.bool ((!decide (a0.2.1 = a1.2.1)))) rfl (nea_run (f := (AV.int .u8)) (a := a0.2.1.1) (b := a1.2.1.1) rfl rfl (eqb_vec (fun _ _ => eqb_int _ _) a0.2.1 a1.2.1)) (cmp_arr (g := 8) (f := (AV.int .u8)) (x := a0.2.1) (y := a1.2.1) rfl rfl rfl (fun _ _ => rfl) (fun _ _ => cmp_int rfl)) (vp (.bool ((!decide (a0.2.1 = a1.2.1)))) rfl (vp (.bool ((!decide (a0.2.1 = a1.2.1)))) rfl (a_nil ?_))))
          exact j_leaf ((!decide (a0.2.1 = a1.2.1))) (Option.some.inj h) (by kernel_rfl)
        · have h := ite_t hb31 h
          refine a_gskip rfl (a_gskip rfl (a_gskip rfl (a_gskip rfl (a_gskip rfl (vp (.bool true) rfl (vp (.bool true) rfl (a_nil ?_)))))))
          exact j_leaf true (Option.some.inj h) (by kernel_rfl)
    · have h := ite_t hb19 h
      refine a_cond_t rfl (sr (vp (i6 1) rfl (nx _ rfl (a_ret (b_ret (t_ret ?_))))))
      refine ⟨.inr rfl, ?_⟩
      rw [Try.results88]
      cases h
      exact ⟨_, _, _, _, _, rfl, trivial, .inl ⟨rfl, .inl rfl⟩, rfl, rfl⟩
  · have h := hy10
    refine a_region (vl (eT_i64_A64u8_A64u8_A64u8_Z a0) rfl rfl rfl rfl rfl rfl ?_)
    obtain ⟨r13, hr14, h⟩ := bind_some h
    refine a_call (args := [(eT_i64_A64u8_A64u8_A64u8_Z a0)]) (u := []) (r := (.bool r13)) rfl rfl (impl_IsDrinfeld_ok a0 r13 hr14) rfl (vp (.bool (!r13)) rfl (vp (.bool (!r13)) rfl ?_))
    cases hb15 : (!r13)
    · have h := ite_f hb15 h
      have hl16 : LdOk [] (eT_i64_A64u8_A64u8_A64u8_Z a1) [] 193 true (eT_i64_A64u8_A64u8_A64u8_Z a1) := (.nil rfl rfl rfl)
      refine gq (eT_i64_A64u8_A64u8_A64u8_Z a1) rfl (ld_own (i := ⟨.struct [(0, 2), (1, 24), (65, 24), (129, 24)], 193, 200, (eT_i64_A64u8_A64u8_A64u8_Z ((0 : Int), (vrep 64 (0 : Int)), (vrep 64 (0 : Int)), (vrep 64 (0 : Int))))⟩) rfl rfl rfl hl16) hl16.c ?_
      obtain ⟨r17, hr18, h⟩ := bind_some h
      refine a_gcall rfl (args := [(eT_i64_A64u8_A64u8_A64u8_Z a1)]) (u := []) (r := (.bool r17)) rfl rfl (impl_IsDrinfeld_ok a1 r17 hr18) rfl (gp (.bool (!r17)) rfl rfl (vp (.bool (!r17)) rfl (vp (.bool (!r17)) rfl (a_nil ?_))))
      exact j_leaf (!r17) (Option.some.inj h) (by kernel_rfl)
    · have h := ite_t hb15 h
      refine a_gskip rfl (a_gskip rfl (a_gskip rfl (vp (.bool true) rfl (vp (.bool true) rfl (a_nil ?_)))))
      exact j_leaf true (Option.some.inj h) (by kernel_rfl)
def impl_Drinfeld_field_c : ACode := (.seq (.region 0 [q 1 (.box 52 (t 0)), q 2 (.alloc 88)] false) (.seq (.region 1 [q 3 (.fieldAddr 52 (t 1) 0), q 4 (.load 2 (t 3)), q 5 (.fieldAddr 52 (t 1) 1), q 6 (.load 24 (t 5)), q 7 (.call 0 (.func 71) [(t 4), (t 6)]), ⟨none, .store 88 (t 2) (t 7), none, []⟩] false) .ret))
def impl_Drinfeld_field_L : Live := [(0, [0]), (1, [1, 2])]
noncomputable def impl_Drinfeld_field (a0 : (Int × (Vec Int 64) × (Vec Int 64) × (Vec Int 64))) : Option (Int × (List Int)) :=
  (Option.bind (impl_fieldOf a0.1 a0.2.1) fun r3 => (some r3))
theorem impl_Drinfeld_field_ok (a0 : (Int × (Vec Int 64) × (Vec Int 64) × (Vec Int 64))) (r : (Int × (List Int))) (h : impl_Drinfeld_field a0 = some r) : Den Try.prog 84 [(eT_i64_A64u8_A64u8_A64u8_Z a0)] { r := (eT_i64_Si64_Z r) } := by
  refine den_of (rs := [(eT_i64_Si64_Z r)]) (ac := impl_Drinfeld_field_c) (L := impl_Drinfeld_field_L) (n := 8) (m := []) (c := Try.f84.body.getD .skip) good Try.func84 (by kernel_rfl) (by kernel_rfl) Try.ntmps84 rfl rfl (by kernel_rfl) rfl rfl ?_
  refine a_st (σ' := ⟨[(0, (eT_i64_A64u8_A64u8_A64u8_Z a0))], []⟩) (by kernel_rfl) ?_
  unfold impl_Drinfeld_field_c
  refine sr (vo 1100 (eT_i64_A64u8_A64u8_A64u8_Z a0) rfl rfl (vo 1200 (eT_i64_Si64_Z (((0 : Int), []))) rfl rfl (nx ⟨[(1, (ow 1)), (2, (ow 2))], [(1, (bk (eT_i64_A64u8_A64u8_A64u8_Z a0))), (2, (bk (eT_i64_Si64_Z (((0 : Int), [])))))]⟩ (by kernel_rfl) (sr (vb (.own 1 [0] [0]) rfl rfl ?_)))))
  have hl1 : LdOk [0] (eT_i64_A64u8_A64u8_A64u8_Z a0) [0] 1 false (i6 a0.1) := (.fld rfl rfl rfl rfl (.nil rfl rfl rfl))
  refine vq (i6 a0.1) (ld_own (i := ⟨.int .i64, 1, 8, (.int .i64 0)⟩) rfl rfl rfl hl1) hl1.c (vb (.own 1 [1] [1]) rfl rfl ?_)
  have hl2 : LdOk [1] (eT_i64_A64u8_A64u8_A64u8_Z a0) [1] 64 true (eA64u8 a0.2.1) := (.fld rfl rfl rfl rfl (.nil rfl rfl rfl))
  refine vq (eA64u8 a0.2.1) (ld_own (i := ⟨.arr 64 5, 64, 64, (eA64u8 (vrep 64 (0 : Int)))⟩) rfl rfl rfl hl2) hl2.c ?_
  obtain ⟨r3, hr4, h⟩ := bind_some h
  refine a_call (args := [(i6 a0.1), (eA64u8 a0.2.1)]) (u := []) (r := (eT_i64_Si64_Z r3)) rfl rfl (impl_fieldOf_ok a0.1 a0.2.1 r3 hr4) rfl (vs (eT_i64_Si64_Z r3) rfl rfl (fun _ => rfl) rfl rfl rfl rfl rfl rfl (nx _ rfl (a_ret ?_)))
  have hl6 : LdOk [] (eT_i64_Si64_Z r3) [] 2 true (eT_i64_Si64_Z r3) := (.nil rfl rfl rfl)
  refine ⟨.inr rfl, ?_⟩
  rw [Try.results84]
  cases h
  exact ⟨_, _, _, _, _, ld_own (i := ⟨.struct [(0, 62), (1, 65)], 2, 32, (eT_i64_Si64_Z ((0 : Int), []))⟩) rfl rfl rfl hl6, hl6.c, .inl ⟨rfl, .inl rfl⟩, rfl, rfl⟩
def impl_field_inverted_c : ACode := (.seq (.region 0 [q 2 (.box 88 (t 0)), q 4 (.asg 1 (.const (.slice none 0 0)) 65)] false) (.seq (.region 1 [q 9 (.fieldAddr 88 (t 2) 0), q 10 (.load 62 (t 9)), q 11 (.mov (t 1)), q 12 (.fieldAddr 88 (t 2) 1), q 13 (.load 65 (t 12)), q 14 (.call 0 (.func 137) [(t 10), (t 11), (t 13)]), q 8 (.mov (t 14)), q 15 (.extract (t 8) 0), q 16 (.extract (t 8) 1), q 17 (.extract (t 8) 2), q 5 (.asg 1 (t 15) 65), q 6 (.asg 1 (t 16) 65), q 7 (.asg 1 (t 17) 65)] false) (.seq (.region 2 [q 18 (.fieldAddr 88 (t 2) 0), q 19 (.load 62 (t 18)), q 20 (.mov (t 6)), q 21 (.fieldAddr 88 (t 2) 1), q 22 (.load 65 (t 21)), q 23 (.call 0 (.func 135) [(t 19), (t 20), (t 22)]), q 4 (.asg 1 (t 23) 65)] false) .ret)))
def impl_field_inverted_L : Live := [(0, [0, 1]), (1, [1, 2]), (2, [2, 6])]
noncomputable def impl_field_inverted (a0 : (Int × (List Int))) (a1 : (List Int)) : Option (List Int) :=
  (Option.bind (impl_prime_bezout a0.1 a1 a0.2) fun r3 => (Option.bind (impl_prime_rest a0.1 r3.2.1 a0.2) fun r7 => (some r7)))
theorem impl_field_inverted_ok (a0 : (Int × (List Int))) (a1 : (List Int)) (r : (List Int)) (h : impl_field_inverted a0 a1 = some r) : Den Try.prog 131 [(eT_i64_Si64_Z a0), (eSi64 a1)] { r := (eSi64 r) } := by
  refine den_of (rs := [(eSi64 r)]) (ac := impl_field_inverted_c) (L := impl_field_inverted_L) (n := 24) (m := [(4, 1), (5, 1), (6, 1), (7, 1)]) (c := Try.f131.body.getD .skip) good Try.func131 (by kernel_rfl) (by kernel_rfl) Try.ntmps131 rfl rfl (by kernel_rfl) rfl rfl ?_
  refine a_st (σ' := ⟨[(0, (eT_i64_Si64_Z a0)), (1, (eSi64 a1))], []⟩) (by kernel_rfl) ?_
  unfold impl_field_inverted_c
  refine sr (vo 1200 (eT_i64_Si64_Z a0) rfl rfl (vp (eSi64 ([])) rfl (nx ⟨[(1, (eSi64 a1)), (2, (ow 2))], [(2, (bk (eT_i64_Si64_Z a0)))]⟩ (by kernel_rfl) (sr (vb (.own 2 [0] [0]) rfl rfl ?_)))))
  have hl1 : LdOk [0] (eT_i64_Si64_Z a0) [0] 1 false (i6 a0.1) := (.fld rfl rfl rfl rfl (.nil rfl rfl rfl))
  refine vq (i6 a0.1) (ld_own (i := ⟨.int .i64, 1, 8, (.int .i64 0)⟩) rfl rfl rfl hl1) hl1.c (vp (eSi64 a1) rfl (vb (.own 2 [1] [1]) rfl rfl ?_))
  have hl2 : LdOk [1] (eT_i64_Si64_Z a0) [1] 1 false (eSi64 a0.2) := (.fld rfl rfl rfl rfl (.nil rfl rfl rfl))
  refine vq (eSi64 a0.2) (ld_own (i := ⟨.slice 2, 1, 24, (eSi64 [])⟩) rfl rfl rfl hl2) hl2.c ?_
  obtain ⟨r3, hr4, h⟩ := bind_some h
  refine a_call (args := [(i6 a0.1), (eSi64 a1), (eSi64 a0.2)]) (u := []) (r := (.tuple [(eSi64 r3.1), (eSi64 r3.2.1), (eSi64 r3.2.2)])) rfl rfl (impl_prime_bezout_ok a0.1 a1 a0.2 r3 hr4) rfl (vp (.tuple [(eSi64 r3.1), (eSi64 r3.2.1), (eSi64 r3.2.2)]) rfl (vb (eSi64 r3.1) rfl rfl (vb (eSi64 r3.2.1) rfl rfl (vb (eSi64 r3.2.2) rfl rfl (vp (eSi64 r3.1) rfl (vp (eSi64 r3.2.1) rfl (vp (eSi64 r3.2.2) rfl (nx ⟨[(2, (ow 2)), (6, (eSi64 r3.2.1))], [(2, (bk (eT_i64_Si64_Z a0)))]⟩ (by kernel_rfl) (sr ?_)))))))))
  refine vb (.own 2 [0] [0]) rfl rfl ?_
  have hl5 : LdOk [0] (eT_i64_Si64_Z a0) [0] 1 false (i6 a0.1) := (.fld rfl rfl rfl rfl (.nil rfl rfl rfl))
  refine vq (i6 a0.1) (ld_own (i := ⟨.int .i64, 1, 8, (.int .i64 0)⟩) rfl rfl rfl hl5) hl5.c (vp (eSi64 r3.2.1) rfl (vb (.own 2 [1] [1]) rfl rfl ?_))
  have hl6 : LdOk [1] (eT_i64_Si64_Z a0) [1] 1 false (eSi64 a0.2) := (.fld rfl rfl rfl rfl (.nil rfl rfl rfl))
  refine vq (eSi64 a0.2) (ld_own (i := ⟨.slice 2, 1, 24, (eSi64 [])⟩) rfl rfl rfl hl6) hl6.c ?_
  obtain ⟨r7, hr8, h⟩ := bind_some h
  refine a_call (args := [(i6 a0.1), (eSi64 r3.2.1), (eSi64 a0.2)]) (u := []) (r := (eSi64 r7)) rfl rfl (impl_prime_rest_ok a0.1 r3.2.1 a0.2 r7 hr8) rfl (vp (eSi64 r7) rfl (nx _ rfl (a_ret ?_)))
  refine ⟨.inr rfl, ?_⟩
  rw [Try.results131]
  cases h
  exact ⟨_, _, _, _, _, rfl, trivial, .inl ⟨rfl, .inl rfl⟩, rfl, rfl⟩
def impl_field_product_c : ACode := (.seq (.region 0 [q 3 (.box 88 (t 0)), q 6 (.asg 1 (.const (.slice none 0 0)) 65)] false) (.seq (.region 1 [q 7 (.fieldAddr 88 (t 3) 0), ⟨some 8, .load 62 (t 7), none, [0]⟩, q 9 (.fieldAddr 88 (t 3) 0), ⟨some 10, .load 62 (t 9), none, [2]⟩, q 11 (.mov (t 1)), q 12 (.mov (t 2)), ⟨some 13, .call 0 (.func 136) [(t 10), (t 11), (t 12)], none, [3, 4, 5]⟩, q 14 (.fieldAddr 88 (t 3) 1), ⟨some 15, .load 65 (t 14), none, [7]⟩, ⟨some 16, .call 0 (.func 135) [(t 8), (t 13), (t 15)], none, [1, 6, 8, 6]⟩, ⟨some 6, .asg 1 (t 16) 65, none, [9, 9, 0, 1, 2, 3, 4, 5, 6, 7, 8, 9]⟩] true) .ret))
def impl_field_product_L : Live := [(0, [0, 1, 2]), (1, [1, 2, 3])]
noncomputable def impl_field_product (a0 : (Int × (List Int))) (a1 : (List Int)) (a2 : (List Int)) : Option (List Int) :=
  (Option.bind (impl_prime_times a0.1 a1 a2) fun r10 => (Option.bind (impl_prime_rest a0.1 r10 a0.2) fun r13 => (some r13)))
theorem impl_field_product_ok (a0 : (Int × (List Int))) (a1 : (List Int)) (a2 : (List Int)) (r : (List Int)) (h : impl_field_product a0 a1 a2 = some r) : Den Try.prog 127 [(eT_i64_Si64_Z a0), (eSi64 a1), (eSi64 a2)] { r := (eSi64 r) } := by
  refine den_of (rs := [(eSi64 r)]) (ac := impl_field_product_c) (L := impl_field_product_L) (n := 17) (m := [(6, 1)]) (c := Try.f127.body.getD .skip) good Try.func127 (by kernel_rfl) (by kernel_rfl) Try.ntmps127 rfl rfl (by kernel_rfl) rfl rfl ?_
  refine a_st (σ' := ⟨[(0, (eT_i64_Si64_Z a0)), (1, (eSi64 a1)), (2, (eSi64 a2))], []⟩) (by kernel_rfl) ?_
  unfold impl_field_product_c
  refine sr (vo 1300 (eT_i64_Si64_Z a0) rfl rfl (vp (eSi64 ([])) rfl (nx ⟨[(1, (eSi64 a1)), (2, (eSi64 a2)), (3, (ow 3))], [(3, (bk (eT_i64_Si64_Z a0)))]⟩ (by kernel_rfl) (a_seq (a_draw [⟨[3], [], [3], []⟩, ⟨[3], [], [], [0]⟩, ⟨[3], [], [3], []⟩, ⟨[3], [], [], [2]⟩, ⟨[], [], [], []⟩, ⟨[], [], [], []⟩, ⟨[], [], [], [2, 3, 4, 5]⟩, ⟨[3], [], [3], []⟩, ⟨[3], [], [], [7]⟩, ⟨[], [], [], [0, 1, 2, 3, 4, 5, 6, 7, 8]⟩, ⟨[], [], [], [0, 1, 2, 3, 4, 5, 6, 7, 8, 9]⟩] (by kernel_rfl) (d_cons (vb (.own 3 [0] [0]) rfl rfl (d_next (by kernel_rfl) (d_cons ?_)))))))))
  have hl8 : LdOk [0] (eT_i64_Si64_Z a0) [0] 1 false (i6 a0.1) := (.fld rfl rfl rfl rfl (.nil rfl rfl rfl))
  refine vq (i6 a0.1) (ld_own (i := ⟨.int .i64, 1, 8, (.int .i64 0)⟩) rfl rfl rfl hl8) hl8.c (d_next (by kernel_rfl) (d_cons (vb (.own 3 [0] [0]) rfl rfl (d_next (by kernel_rfl) (d_cons ?_)))))
  have hl9 : LdOk [0] (eT_i64_Si64_Z a0) [0] 1 false (i6 a0.1) := (.fld rfl rfl rfl rfl (.nil rfl rfl rfl))
  refine vq (i6 a0.1) (ld_own (i := ⟨.int .i64, 1, 8, (.int .i64 0)⟩) rfl rfl rfl hl9) hl9.c (d_next (by kernel_rfl) (dp (eSi64 a1) rfl (by kernel_rfl) (dp (eSi64 a2) rfl (by kernel_rfl) (d_cons ?_))))
  obtain ⟨r10, hr11, h⟩ := bind_some h
  refine a_call (args := [(i6 a0.1), (eSi64 a1), (eSi64 a2)]) (u := []) (r := (eSi64 r10)) rfl rfl (impl_prime_times_ok a0.1 a1 a2 r10 hr11) rfl (d_next (by kernel_rfl) (d_cons (vb (.own 3 [1] [1]) rfl rfl (d_next (by kernel_rfl) (d_cons ?_)))))
  have hl12 : LdOk [1] (eT_i64_Si64_Z a0) [1] 1 false (eSi64 a0.2) := (.fld rfl rfl rfl rfl (.nil rfl rfl rfl))
  refine vq (eSi64 a0.2) (ld_own (i := ⟨.slice 2, 1, 24, (eSi64 [])⟩) rfl rfl rfl hl12) hl12.c (d_next (by kernel_rfl) (d_cons ?_))
  obtain ⟨r13, hr14, h⟩ := bind_some h
  refine a_call (args := [(i6 a0.1), (eSi64 r10), (eSi64 a0.2)]) (u := []) (r := (eSi64 r13)) rfl rfl (impl_prime_rest_ok a0.1 r10 a0.2 r13 hr14) rfl (d_next (by kernel_rfl) (dp (eSi64 r13) rfl (by kernel_rfl) (d_nil (a_next rfl (a_ret ?_)))))
  refine ⟨.inr rfl, ?_⟩
  rw [Try.results127]
  cases h
  exact ⟨_, _, _, _, _, rfl, trivial, .inl ⟨rfl, .inl rfl⟩, rfl, rfl⟩
def impl_row_poly_c : ACode := (.seq (.region 0 [q 2 (.alloc 24)] false) (.seq (.region 1 [q 3 (.alloc 24)] false) (.seq (.seq (.region 2 [q 6 (.mov (t 0)), q 7 (.blt 0 .len [(t 6)] [65]), q 8 (.mov (.const (.int .i64 0)))] false) (.block 0 (.loop (.seq (.region 3 [q 9 (.bin .lss 3 (t 8) (t 7))] false) (.seq (.cond (t 9) .skip (.exit 0)) (.seq (.block 1 (.seq (.region 4 [q 10 (.mov (t 8)), q 11 (.indexAddr 65 (t 6) (t 8)), q 12 (.load 2 (t 11)), q 4 (.asg 0 (t 10) 3), q 5 (.asg 0 (t 12) 2)] false) (.region 5 [q 13 (.mov (t 4)), q 14 (.mov (t 5)), q 15 (.conv 2 5 (t 14)), q 16 (.indexAddr 24 (t 3) (t 13)), ⟨none, .store 5 (t 16) (t 15), none, []⟩] false))) (.region 6 [q 17 (.bin .add 3 (t 8) (.const (.int .i64 1))), q 8 (.mov (t 17))] false))))))) (.seq (.region 7 [q 18 (.load 24 (t 3)), ⟨none, .store 24 (t 2) (t 18), none, []⟩] false) .ret))))
def impl_row_poly_L : Live := [(0, [0]), (1, [0, 2]), (2, [0, 2, 3]), (3, [2, 3, 6, 7, 8]), (4, [2, 3, 6, 7, 8]), (5, [2, 3, 4, 5, 6, 7, 8]), (6, [2, 3, 6, 7, 8]), (7, [2, 3]), (100009, [2, 3, 6, 7, 8, 9])]
noncomputable def impl_row_poly_l1 (a0 : (List Int)) (x31 : Int) (x32 : (Vec Int 64)) : Option ((Int × (Vec Int 64)) ⊕ (Vec Int 64)) :=
  (if (decide (x31 < (a0.length : Int))) then (ifp (0 ≤ x31 ∧ x31 < ((a0.length : Nat) : Int)) ((ifp (0 ≤ x31 ∧ x31 < ((64 : Nat) : Int)) ((some (.inl ((IntKind.i64.wrap (x31 + 1), (vset x32 x31.toNat (IntKind.u8.wrap (rd a0 x31.toNat))))))))))) else (some (.inr x32)))
noncomputable def impl_row_poly (a0 : (List Int)) : Option (Vec Int 64) :=
  (Option.bind (α := (Vec Int 64)) ((loopM (fun s : (Int × (Vec Int 64)) => impl_row_poly_l1 a0 s.1 s.2) (0, (vrep 64 (0 : Int))))) fun x22 => (some x22))
theorem impl_row_poly_ok (a0 : (List Int)) (r : (Vec Int 64)) (h : impl_row_poly a0 = some r) : Den Try.prog 55 [(eSi64 a0)] { r := (eA64u8 r) } := by
  refine den_of (rs := [(eA64u8 r)]) (ac := impl_row_poly_c) (L := impl_row_poly_L) (n := 19) (m := []) (c := Try.f55.body.getD .skip) good Try.func55 (by kernel_rfl) (by kernel_rfl) Try.ntmps55 rfl rfl (by kernel_rfl) rfl rfl ?_
  refine a_st (σ' := ⟨[(0, (eSi64 a0))], []⟩) (by kernel_rfl) ?_
  unfold impl_row_poly_c
  refine sr (vo 1200 (eA64u8 ((vrep 64 (0 : Int)))) rfl rfl (nx ⟨[(0, (eSi64 a0)), (2, (ow 2))], [(2, (bk (eA64u8 ((vrep 64 (0 : Int))))))]⟩ (by kernel_rfl) (sr (vo 1300 (eA64u8 ((vrep 64 (0 : Int)))) rfl rfl (nx ⟨[(0, (eSi64 a0)), (2, (ow 2)), (3, (ow 3))], [(2, (bk (eA64u8 ((vrep 64 (0 : Int)))))), (3, (bk (eA64u8 ((vrep 64 (0 : Int))))))]⟩ (by kernel_rfl) ?_)))))
  obtain ⟨y23, hy24, hk25⟩ := bind_some h
  clear h
  refine a_join (emb := fun (s : (Vec Int 64)) => ⟨[(2, (ow 2)), (3, (ow 3))], [(2, (bk (eA64u8 ((vrep 64 (0 : Int)))))), (3, (bk (eA64u8 s)))]⟩) (pre := fun s => s = y23) ?_ ?_
  · rintro x22 rfl
    have h := hk25
    refine a_st (σ' := ⟨[(2, (ow 2)), (3, (ow 3))], [(2, (bk (eA64u8 ((vrep 64 (0 : Int)))))), (3, (bk (eA64u8 x22)))]⟩) (by kernel_rfl) (sr (vl (eA64u8 x22) rfl rfl rfl rfl rfl rfl (vs (eA64u8 x22) rfl rfl (fun _ => rfl) rfl rfl rfl rfl rfl rfl (nx _ rfl (a_ret ?_)))))
    have hl49 : LdOk [] (eA64u8 x22) [] 64 true (eA64u8 x22) := (.nil rfl rfl rfl)
    refine ⟨.inr rfl, ?_⟩
    rw [Try.results55]
    cases h
    exact ⟨_, _, _, _, _, ld_own (i := ⟨.arr 64 5, 64, 64, (eA64u8 (vrep 64 (0 : Int)))⟩) rfl rfl rfl hl49, hl49.c, .inl ⟨rfl, .inl rfl⟩, rfl, rfl⟩
  · have h := hy24
    refine sr (vp (eSi64 a0) rfl (vq (i6 (a0.length : Int)) (len_run rfl rfl) trivial (vp (i6 0) rfl (nx ⟨[(2, (ow 2)), (3, (ow 3)), (6, (eSi64 a0)), (7, (i6 (a0.length : Int))), (8, (i6 0))], [(2, (bk (eA64u8 ((vrep 64 (0 : Int)))))), (3, (bk (eA64u8 ((vrep 64 (0 : Int))))))]⟩ (by kernel_rfl) (a_block ?_)))))
    refine a_loop (emb := fun (s : (Int × (Vec Int 64))) => ⟨[(2, (ow 2)), (3, (ow 3)), (6, (eSi64 a0)), (7, (i6 (a0.length : Int))), (8, (i6 s.1))], [(2, (bk (eA64u8 ((vrep 64 (0 : Int)))))), (3, (bk (eA64u8 s.2)))]⟩) (body := (fun s : (Int × (Vec Int 64)) => impl_row_poly_l1 a0 s.1 s.2)) (G := fun q => some q = some y23) h rfl ?_ (by kernel_rfl)
    rintro X38 ⟨x31, x32⟩ x39 h hX40
    have h : impl_row_poly_l1 a0 x31 x32 = some x39 := h
    refine a_st (σ' := ⟨[(2, (ow 2)), (3, (ow 3)), (6, (eSi64 a0)), (7, (i6 (a0.length : Int))), (8, (i6 x31))], [(2, (bk (eA64u8 ((vrep 64 (0 : Int)))))), (3, (bk (eA64u8 x32)))]⟩) (by kernel_rfl) (sr (vp (.bool ((decide (x31 < (a0.length : Int))))) rfl (nx ⟨[(2, (ow 2)), (3, (ow 3)), (6, (eSi64 a0)), (7, (i6 (a0.length : Int))), (8, (i6 x31)), (9, (.bool ((decide (x31 < (a0.length : Int))))))], [(2, (bk (eA64u8 ((vrep 64 (0 : Int)))))), (3, (bk (eA64u8 x32)))]⟩ (by kernel_rfl) (a_seq ?_))))
    cases hb41 : (decide (x31 < (a0.length : Int)))
    · have h := ite_f hb41 h
      refine a_cond_f rfl (a_exit (t_exit ?_))
      cases h
      have h := hX40
      refine t_exit (b_exit ?_)
      exact j_leaf x32 (Option.some.inj h) (by kernel_rfl)
    · have h := ite_t hb41 h
      refine a_cond_t rfl (a_skip (a_next (σ' := ⟨[(2, (ow 2)), (3, (ow 3)), (6, (eSi64 a0)), (7, (i6 (a0.length : Int))), (8, (i6 x31))], [(2, (bk (eA64u8 ((vrep 64 (0 : Int)))))), (3, (bk (eA64u8 x32)))]⟩) (by kernel_rfl) (a_seq (a_block (sr (vp (i6 x31) rfl ?_))))))
      obtain ⟨hc42, h⟩ := ifp_some h
      refine vq (.ref (.row 1 (a0.map (AV.int .i64))) [x31.toNat] [x31.toNat * 1]) rfl (lmap hc42) ?_
      have hl43 : LdOk [x31.toNat] (.row 1 (a0.map (AV.int .i64))) [x31.toNat * 1] 1 false (i6 (rd a0 x31.toNat)) := (.row (llt hc42) rfl (.nil rfl rfl rfl))
      refine vq (i6 (rd a0 x31.toNat)) (ld_ref (i := ⟨.int .i64, 1, 8, (.int .i64 0)⟩) rfl rfl hl43) hl43.c (vp (i6 x31) rfl (vp (i6 (rd a0 x31.toNat)) rfl (nx ⟨[(2, (ow 2)), (3, (ow 3)), (4, (i6 x31)), (5, (i6 (rd a0 x31.toNat))), (6, (eSi64 a0)), (7, (i6 (a0.length : Int))), (8, (i6 x31))], [(2, (bk (eA64u8 ((vrep 64 (0 : Int)))))), (3, (bk (eA64u8 x32)))]⟩ (by kernel_rfl) (a_region (vp (i6 x31) rfl (vp (i6 (rd a0 x31.toNat)) rfl (vp (b8 (IntKind.u8.wrap (rd a0 x31.toNat))) rfl ?_)))))))
      obtain ⟨hc44, h⟩ := ifp_some h
      refine vq (.own 3 [x31.toNat] [x31.toNat * 1]) rfl hc44 ?_
      have hs45 : StOk [x31.toNat] (eA64u8 x32) [x31.toNat * 1] 1 (b8 (IntKind.u8.wrap (rd a0 x31.toNat))) (eA64u8 ((vset x32 x31.toNat (IntKind.u8.wrap (rd a0 x31.toNat))))) := (.arr (y := IntKind.u8.wrap (rd a0 x31.toNat)) (vlt x32 hc44) rfl (.nil rfl rfl rfl rfl))
      refine vu .top [(3, (bk (eA64u8 ((vset x32 x31.toNat (IntKind.u8.wrap (rd a0 x31.toNat)))))))] (st_own (i := ⟨.int .u8, 1, 1, (.int .u8 0)⟩) rfl rfl (fun _ => rfl) rfl hs45) (hs45.c rfl) rfl (a_nil (b_norm (a_next (σ' := ⟨[(2, (ow 2)), (3, (ow 3)), (6, (eSi64 a0)), (7, (i6 (a0.length : Int))), (8, (i6 x31))], [(2, (bk (eA64u8 ((vrep 64 (0 : Int)))))), (3, (bk (eA64u8 ((vset x32 x31.toNat (IntKind.u8.wrap (rd a0 x31.toNat)))))))]⟩) (by kernel_rfl) (a_region (vp (i6 (IntKind.i64.wrap (x31 + 1))) rfl (vp (i6 (IntKind.i64.wrap (x31 + 1))) rfl (a_nil ?_)))))))
      cases h
      exact a_again (by kernel_rfl) hX40
def impl_Drinfeld_twist_c : ACode := (.seq (.region 0 [q 2 (.box 52 (t 0)), q 4 (.alloc 52)] false) (.seq (.region 1 [q 8 (.load 52 (t 2)), q 9 (.call 0 (.func 84) [(t 8)]), q 5 (.alloc 88), ⟨none, .store 88 (t 5) (t 9), none, []⟩] false) (.seq (.region 2 [q 10 (.load 88 (t 5)), q 11 (.fieldAddr 88 (t 5) 0), ⟨some 12, .load 62 (t 11), none, [1]⟩, q 13 (.mov (t 1)), q 14 (.fieldAddr 52 (t 2) 0), ⟨some 15, .load 2 (t 14), none, [4]⟩, ⟨some 16, .bin .sub 2 (t 15) (.const (.int .i64 1)), none, [5]⟩, q 17 (.fieldAddr 88 (t 5) 1), ⟨some 18, .load 65 (t 17), none, [7]⟩, ⟨some 19, .call 0 (.func 108) [(t 12), (t 13), (t 16), (t 18)], none, [2, 3, 6, 8]⟩, ⟨some 20, .call 0 (.func 131) [(t 10), (t 19)], none, [0, 9, 9]⟩, ⟨some 6, .asg 1 (t 20) 65, none, [10, 10, 0, 1, 2, 3, 4, 5, 6, 7, 8, 9, 10]⟩] true) (.seq (.region 3 [q 21 (.load 88 (t 5)), q 22 (.fieldAddr 88 (t 5) 0), ⟨some 23, .load 62 (t 22), none, [1]⟩, q 24 (.mov (t 1)), q 25 (.fieldAddr 52 (t 2) 0), ⟨some 26, .load 2 (t 25), none, [4]⟩, q 27 (.fieldAddr 52 (t 2) 0), ⟨some 28, .load 2 (t 27), none, [6]⟩, ⟨some 29, .bin .mul 2 (t 26) (t 28), none, [5, 7]⟩, ⟨some 30, .bin .sub 2 (t 29) (.const (.int .i64 1)), none, [8]⟩, q 31 (.fieldAddr 88 (t 5) 1), ⟨some 32, .load 65 (t 31), none, [10]⟩, ⟨some 33, .call 0 (.func 108) [(t 23), (t 24), (t 30), (t 32)], none, [2, 3, 9, 11]⟩, ⟨some 34, .call 0 (.func 131) [(t 21), (t 33)], none, [0, 12, 12]⟩, ⟨some 7, .asg 1 (t 34) 65, none, [13, 13, 0, 1, 2, 3, 4, 5, 6, 7, 8, 9, 10, 11, 12, 13]⟩] true) (.seq (.region 4 [q 35 (.fieldAddr 52 (t 2) 0), ⟨some 36, .load 2 (t 35), none, [0]⟩, q 37 (.fieldAddr 52 (t 2) 1), ⟨some 38, .load 24 (t 37), none, [2]⟩, q 39 (.load 88 (t 5)), q 40 (.mov (t 6)), q 41 (.fieldAddr 52 (t 2) 2), ⟨some 42, .load 24 (t 41), none, [6]⟩, ⟨some 43, .call 0 (.func 52) [(t 42)], none, [7]⟩, ⟨some 44, .call 0 (.func 127) [(t 39), (t 40), (t 43)], none, [4, 5, 8, 8]⟩, ⟨some 45, .call 0 (.func 55) [(t 44)], none, [9, 9]⟩, q 46 (.load 88 (t 5)), q 47 (.mov (t 7)), q 48 (.fieldAddr 52 (t 2) 3), ⟨some 49, .load 24 (t 48), none, [13]⟩, ⟨some 50, .call 0 (.func 52) [(t 49)], none, [14, 10]⟩, ⟨some 51, .call 0 (.func 127) [(t 46), (t 47), (t 50)], none, [11, 12, 15, 15]⟩, ⟨some 52, .call 0 (.func 55) [(t 51)], none, [16, 16]⟩, ⟨some 53, .build 52 [(0, (t 36)), (1, (t 38)), (2, (t 45)), (3, (t 52))], none, [1, 3, 10, 17]⟩, ⟨none, .store 52 (t 4) (t 53), none, [18, 17, 0, 1, 2, 3, 4, 5, 6, 7, 8, 9, 10, 11, 12, 13, 14, 15, 16, 17, 18]⟩] true) .ret)))))
def impl_Drinfeld_twist_L : Live := [(0, [0, 1]), (1, [1, 2, 4]), (2, [1, 2, 4, 5]), (3, [1, 2, 4, 5, 6]), (4, [2, 4, 5, 6, 7])]
noncomputable def impl_Drinfeld_twist (a0 : (Int × (Vec Int 64) × (Vec Int 64) × (Vec Int 64))) (a1 : (List Int)) : Option (Int × (Vec Int 64) × (Vec Int 64) × (Vec Int 64)) :=
  (Option.bind (impl_Drinfeld_field a0) fun r2 => (Option.bind (impl_prime_power r2.1 a1 (IntKind.i64.wrap (a0.1 - 1)) r2.2) fun r17 => (Option.bind (impl_field_inverted r2 r17) fun r19 => (Option.bind (impl_prime_power r2.1 a1 (IntKind.i64.wrap ((IntKind.i64.wrap (a0.1 * a0.1)) - 1)) r2.2) fun r35 => (Option.bind (impl_field_inverted r2 r35) fun r37 => (Option.bind (impl_rowOf a0.2.2.1) fun r62 => (Option.bind (impl_field_product r2 r19 r62) fun r64 => (Option.bind (impl_row_poly r64) fun r66 => (Option.bind (impl_rowOf a0.2.2.2) fun r70 => (Option.bind (impl_field_product r2 r37 r70) fun r72 => (Option.bind (impl_row_poly r72) fun r74 => (some (a0.1, a0.2.1, r66, r74)))))))))))))
theorem impl_Drinfeld_twist_ok (a0 : (Int × (Vec Int 64) × (Vec Int 64) × (Vec Int 64))) (a1 : (List Int)) (r : (Int × (Vec Int 64) × (Vec Int 64) × (Vec Int 64))) (h : impl_Drinfeld_twist a0 a1 = some r) : Den Try.prog 89 [(eT_i64_A64u8_A64u8_A64u8_Z a0), (eSi64 a1)] { r := (eT_i64_A64u8_A64u8_A64u8_Z r) } := by
  refine den_of (rs := [(eT_i64_A64u8_A64u8_A64u8_Z r)]) (ac := impl_Drinfeld_twist_c) (L := impl_Drinfeld_twist_L) (n := 54) (m := [(6, 1), (7, 1)]) (c := Try.f89.body.getD .skip) good Try.func89 (by kernel_rfl) (by kernel_rfl) Try.ntmps89 rfl rfl (by kernel_rfl) rfl rfl ?_
  refine a_st (σ' := ⟨[(0, (eT_i64_A64u8_A64u8_A64u8_Z a0)), (1, (eSi64 a1))], []⟩) (by kernel_rfl) ?_
  unfold impl_Drinfeld_twist_c
  refine sr (vo 1200 (eT_i64_A64u8_A64u8_A64u8_Z a0) rfl rfl (vo 1400 (eT_i64_A64u8_A64u8_A64u8_Z (((0 : Int), (vrep 64 (0 : Int)), (vrep 64 (0 : Int)), (vrep 64 (0 : Int))))) rfl rfl (nx ⟨[(1, (eSi64 a1)), (2, (ow 2)), (4, (ow 4))], [(2, (bk (eT_i64_A64u8_A64u8_A64u8_Z a0))), (4, (bk (eT_i64_A64u8_A64u8_A64u8_Z (((0 : Int), (vrep 64 (0 : Int)), (vrep 64 (0 : Int)), (vrep 64 (0 : Int)))))))]⟩ (by kernel_rfl) (sr (vl (eT_i64_A64u8_A64u8_A64u8_Z a0) rfl rfl rfl rfl rfl rfl ?_)))))
  obtain ⟨r2, hr3, h⟩ := bind_some h
  refine a_call (args := [(eT_i64_A64u8_A64u8_A64u8_Z a0)]) (u := []) (r := (eT_i64_Si64_Z r2)) rfl rfl (impl_Drinfeld_field_ok a0 r2 hr3) rfl (vo 1500 (eT_i64_Si64_Z (((0 : Int), []))) rfl rfl (vs (eT_i64_Si64_Z r2) rfl rfl (fun _ => rfl) rfl rfl rfl rfl rfl rfl (nx ⟨[(1, (eSi64 a1)), (2, (ow 2)), (4, (ow 4)), (5, (ow 5))], [(2, (bk (eT_i64_A64u8_A64u8_A64u8_Z a0))), (4, (bk (eT_i64_A64u8_A64u8_A64u8_Z (((0 : Int), (vrep 64 (0 : Int)), (vrep 64 (0 : Int)), (vrep 64 (0 : Int))))))), (5, (bk (eT_i64_Si64_Z r2)))]⟩ (by kernel_rfl) (a_seq (a_draw [⟨[5], [], [], []⟩, ⟨[5], [], [5], []⟩, ⟨[5], [], [], [1]⟩, ⟨[], [], [], []⟩, ⟨[2], [], [2], []⟩, ⟨[2], [], [], [4]⟩, ⟨[], [], [], [4, 5]⟩, ⟨[5], [], [5], []⟩, ⟨[5], [], [], [7]⟩, ⟨[], [], [], [1, 2, 3, 4, 5, 6, 7, 8]⟩, ⟨[], [], [], [0, 1, 2, 3, 4, 5, 6, 7, 8, 9]⟩, ⟨[], [], [], [0, 1, 2, 3, 4, 5, 6, 7, 8, 9, 10]⟩] (by kernel_rfl) (d_cons (vl (eT_i64_Si64_Z r2) rfl rfl rfl rfl rfl rfl (d_next (by kernel_rfl) (d_cons ?_)))))))))
  refine vb (.own 5 [0] [0]) rfl rfl (d_next (by kernel_rfl) (d_cons ?_))
  have hl14 : LdOk [0] (eT_i64_Si64_Z r2) [0] 1 false (i6 r2.1) := (.fld rfl rfl rfl rfl (.nil rfl rfl rfl))
  refine vq (i6 r2.1) (ld_own (i := ⟨.int .i64, 1, 8, (.int .i64 0)⟩) rfl rfl rfl hl14) hl14.c (d_next (by kernel_rfl) (dp (eSi64 a1) rfl (by kernel_rfl) (d_cons (vb (.own 2 [0] [0]) rfl rfl (d_next (by kernel_rfl) (d_cons ?_))))))
  have hl15 : LdOk [0] (eT_i64_A64u8_A64u8_A64u8_Z a0) [0] 1 false (i6 a0.1) := (.fld rfl rfl rfl rfl (.nil rfl rfl rfl))
  refine vq (i6 a0.1) (ld_own (i := ⟨.int .i64, 1, 8, (.int .i64 0)⟩) rfl rfl rfl hl15) hl15.c (d_next (by kernel_rfl) (dp (i6 (IntKind.i64.wrap (a0.1 - 1))) rfl (by kernel_rfl) (d_cons (vb (.own 5 [1] [1]) rfl rfl (d_next (by kernel_rfl) (d_cons ?_))))))
  have hl16 : LdOk [1] (eT_i64_Si64_Z r2) [1] 1 false (eSi64 r2.2) := (.fld rfl rfl rfl rfl (.nil rfl rfl rfl))
  refine vq (eSi64 r2.2) (ld_own (i := ⟨.slice 2, 1, 24, (eSi64 [])⟩) rfl rfl rfl hl16) hl16.c (d_next (by kernel_rfl) (d_cons ?_))
  obtain ⟨r17, hr18, h⟩ := bind_some h
  refine a_call (args := [(i6 r2.1), (eSi64 a1), (i6 (IntKind.i64.wrap (a0.1 - 1))), (eSi64 r2.2)]) (u := []) (r := (eSi64 r17)) rfl rfl (impl_prime_power_ok r2.1 a1 (IntKind.i64.wrap (a0.1 - 1)) r2.2 r17 hr18) rfl (d_next (by kernel_rfl) (d_cons ?_))
  obtain ⟨r19, hr20, h⟩ := bind_some h
  refine a_call (args := [(eT_i64_Si64_Z r2), (eSi64 r17)]) (u := []) (r := (eSi64 r19)) rfl rfl (impl_field_inverted_ok r2 r17 r19 hr20) rfl (d_next (by kernel_rfl) (dp (eSi64 r19) rfl (by kernel_rfl) (d_nil (a_next (σ' := ⟨[(1, (eSi64 a1)), (2, (ow 2)), (4, (ow 4)), (5, (ow 5)), (6, (eSi64 r19))], [(2, (bk (eT_i64_A64u8_A64u8_A64u8_Z a0))), (4, (bk (eT_i64_A64u8_A64u8_A64u8_Z (((0 : Int), (vrep 64 (0 : Int)), (vrep 64 (0 : Int)), (vrep 64 (0 : Int))))))), (5, (bk (eT_i64_Si64_Z r2)))]⟩) (by kernel_rfl) (a_seq (a_draw [⟨[5], [], [], []⟩, ⟨[5], [], [5], []⟩, ⟨[5], [], [], [1]⟩, ⟨[], [], [], []⟩, ⟨[2], [], [2], []⟩, ⟨[2], [], [], [4]⟩, ⟨[2], [], [2], []⟩, ⟨[2], [], [], [6]⟩, ⟨[], [], [], [4, 5, 6, 7]⟩, ⟨[], [], [], [4, 5, 6, 7, 8]⟩, ⟨[5], [], [5], []⟩, ⟨[5], [], [], [10]⟩, ⟨[], [], [], [1, 2, 3, 4, 5, 6, 7, 8, 9, 10, 11]⟩, ⟨[], [], [], [0, 1, 2, 3, 4, 5, 6, 7, 8, 9, 10, 11, 12]⟩, ⟨[], [], [], [0, 1, 2, 3, 4, 5, 6, 7, 8, 9, 10, 11, 12, 13]⟩] (by kernel_rfl) (d_cons (vl (eT_i64_Si64_Z r2) rfl rfl rfl rfl rfl rfl (d_next (by kernel_rfl) ?_)))))))))
  refine d_cons (vb (.own 5 [0] [0]) rfl rfl (d_next (by kernel_rfl) (d_cons ?_)))
  have hl31 : LdOk [0] (eT_i64_Si64_Z r2) [0] 1 false (i6 r2.1) := (.fld rfl rfl rfl rfl (.nil rfl rfl rfl))
  refine vq (i6 r2.1) (ld_own (i := ⟨.int .i64, 1, 8, (.int .i64 0)⟩) rfl rfl rfl hl31) hl31.c (d_next (by kernel_rfl) (dp (eSi64 a1) rfl (by kernel_rfl) (d_cons (vb (.own 2 [0] [0]) rfl rfl (d_next (by kernel_rfl) (d_cons ?_))))))
  have hl32 : LdOk [0] (eT_i64_A64u8_A64u8_A64u8_Z a0) [0] 1 false (i6 a0.1) := (.fld rfl rfl rfl rfl (.nil rfl rfl rfl))
  refine vq (i6 a0.1) (ld_own (i := ⟨.int .i64, 1, 8, (.int .i64 0)⟩) rfl rfl rfl hl32) hl32.c (d_next (by kernel_rfl) (d_cons (vb (.own 2 [0] [0]) rfl rfl (d_next (by kernel_rfl) (d_cons ?_)))))
  have hl33 : LdOk [0] (eT_i64_A64u8_A64u8_A64u8_Z a0) [0] 1 false (i6 a0.1) := (.fld rfl rfl rfl rfl (.nil rfl rfl rfl))
  refine vq (i6 a0.1) (ld_own (i := ⟨.int .i64, 1, 8, (.int .i64 0)⟩) rfl rfl rfl hl33) hl33.c (d_next (by kernel_rfl) (dp (i6 (IntKind.i64.wrap (a0.1 * a0.1))) rfl (by kernel_rfl) (dp (i6 (IntKind.i64.wrap ((IntKind.i64.wrap (a0.1 * a0.1)) - 1))) rfl (by kernel_rfl) (d_cons (vb (.own 5 [1] [1]) rfl rfl (d_next (by kernel_rfl) (d_cons ?_)))))))
  have hl34 : LdOk [1] (eT_i64_Si64_Z r2) [1] 1 false (eSi64 r2.2) := (.fld rfl rfl rfl rfl (.nil rfl rfl rfl))
  refine vq (eSi64 r2.2) (ld_own (i := ⟨.slice 2, 1, 24, (eSi64 [])⟩) rfl rfl rfl hl34) hl34.c (d_next (by kernel_rfl) (d_cons ?_))
  obtain ⟨r35, hr36, h⟩ := bind_some h
  refine a_call (args := [(i6 r2.1), (eSi64 a1), (i6 (IntKind.i64.wrap ((IntKind.i64.wrap (a0.1 * a0.1)) - 1))), (eSi64 r2.2)]) (u := []) (r := (eSi64 r35)) rfl rfl (impl_prime_power_ok r2.1 a1 (IntKind.i64.wrap ((IntKind.i64.wrap (a0.1 * a0.1)) - 1)) r2.2 r35 hr36) rfl (d_next (by kernel_rfl) (d_cons ?_))
  obtain ⟨r37, hr38, h⟩ := bind_some h
  refine a_call (args := [(eT_i64_Si64_Z r2), (eSi64 r35)]) (u := []) (r := (eSi64 r37)) rfl rfl (impl_field_inverted_ok r2 r35 r37 hr38) rfl (d_next (by kernel_rfl) (dp (eSi64 r37) rfl (by kernel_rfl) (d_nil (a_next (σ' := ⟨[(2, (ow 2)), (4, (ow 4)), (5, (ow 5)), (6, (eSi64 r19)), (7, (eSi64 r37))], [(2, (bk (eT_i64_A64u8_A64u8_A64u8_Z a0))), (4, (bk (eT_i64_A64u8_A64u8_A64u8_Z (((0 : Int), (vrep 64 (0 : Int)), (vrep 64 (0 : Int)), (vrep 64 (0 : Int))))))), (5, (bk (eT_i64_Si64_Z r2)))]⟩) (by kernel_rfl) (a_seq (a_draw [⟨[2], [], [2], []⟩, ⟨[2], [], [], [0]⟩, ⟨[2], [], [2], []⟩, ⟨[2], [], [], [2]⟩, ⟨[5], [], [], []⟩, ⟨[], [], [], []⟩, ⟨[2], [], [2], []⟩, ⟨[2], [], [], [6]⟩, ⟨[], [], [], [6, 7]⟩, ⟨[], [], [], [4, 5, 6, 7, 8]⟩, ⟨[], [], [], [4, 5, 6, 7, 8, 9]⟩, ⟨[5], [], [], []⟩, ⟨[], [], [], []⟩, ⟨[2], [], [2], []⟩, ⟨[2], [], [], [13]⟩, ⟨[], [], [], [4, 5, 6, 7, 8, 9, 10, 13, 14]⟩, ⟨[], [], [], [4, 5, 6, 7, 8, 9, 10, 11, 12, 13, 14, 15]⟩, ⟨[], [], [], [4, 5, 6, 7, 8, 9, 10, 11, 12, 13, 14, 15, 16]⟩, ⟨[], [], [], [0, 1, 2, 3, 4, 5, 6, 7, 8, 9, 10, 11, 12, 13, 14, 15, 16, 17]⟩, ⟨[4], [4], [], [0, 1, 2, 3, 4, 5, 6, 7, 8, 9, 10, 11, 12, 13, 14, 15, 16, 17, 18]⟩] (by kernel_rfl) (d_cons (vb (.own 2 [0] [0]) rfl rfl (d_next (by kernel_rfl) ?_)))))))))
  refine d_cons ?_
  have hl58 : LdOk [0] (eT_i64_A64u8_A64u8_A64u8_Z a0) [0] 1 false (i6 a0.1) := (.fld rfl rfl rfl rfl (.nil rfl rfl rfl))
  refine vq (i6 a0.1) (ld_own (i := ⟨.int .i64, 1, 8, (.int .i64 0)⟩) rfl rfl rfl hl58) hl58.c (d_next (by kernel_rfl) (d_cons (vb (.own 2 [1] [1]) rfl rfl (d_next (by kernel_rfl) (d_cons ?_)))))
  have hl59 : LdOk [1] (eT_i64_A64u8_A64u8_A64u8_Z a0) [1] 64 true (eA64u8 a0.2.1) := (.fld rfl rfl rfl rfl (.nil rfl rfl rfl))
  refine vq (eA64u8 a0.2.1) (ld_own (i := ⟨.arr 64 5, 64, 64, (eA64u8 (vrep 64 (0 : Int)))⟩) rfl rfl rfl hl59) hl59.c (d_next (by kernel_rfl) (d_cons (vl (eT_i64_Si64_Z r2) rfl rfl rfl rfl rfl rfl (d_next (by kernel_rfl) (dp (eSi64 r19) rfl (by kernel_rfl) (d_cons (vb (.own 2 [2] [65]) rfl rfl (d_next (by kernel_rfl) (d_cons ?_)))))))))
  have hl61 : LdOk [2] (eT_i64_A64u8_A64u8_A64u8_Z a0) [65] 64 true (eA64u8 a0.2.2.1) := (.fld rfl rfl rfl rfl (.nil rfl rfl rfl))
  refine vq (eA64u8 a0.2.2.1) (ld_own (i := ⟨.arr 64 5, 64, 64, (eA64u8 (vrep 64 (0 : Int)))⟩) rfl rfl rfl hl61) hl61.c (d_next (by kernel_rfl) (d_cons ?_))
  obtain ⟨r62, hr63, h⟩ := bind_some h
  refine a_call (args := [(eA64u8 a0.2.2.1)]) (u := []) (r := (eSi64 r62)) rfl rfl (impl_rowOf_ok a0.2.2.1 r62 hr63) rfl (d_next (by kernel_rfl) (d_cons ?_))
  obtain ⟨r64, hr65, h⟩ := bind_some h
  refine a_call (args := [(eT_i64_Si64_Z r2), (eSi64 r19), (eSi64 r62)]) (u := []) (r := (eSi64 r64)) rfl rfl (impl_field_product_ok r2 r19 r62 r64 hr65) rfl (d_next (by kernel_rfl) (d_cons ?_))
  obtain ⟨r66, hr67, h⟩ := bind_some h
  refine a_call (args := [(eSi64 r64)]) (u := []) (r := (eA64u8 r66)) rfl rfl (impl_row_poly_ok r64 r66 hr67) rfl (d_next (by kernel_rfl) (d_cons (vl (eT_i64_Si64_Z r2) rfl rfl rfl rfl rfl rfl (d_next (by kernel_rfl) (dp (eSi64 r37) rfl (by kernel_rfl) (d_cons (vb (.own 2 [3] [129]) rfl rfl (d_next (by kernel_rfl) (d_cons ?_)))))))))
  have hl69 : LdOk [3] (eT_i64_A64u8_A64u8_A64u8_Z a0) [129] 64 true (eA64u8 a0.2.2.2) := (.fld rfl rfl rfl rfl (.nil rfl rfl rfl))
  refine vq (eA64u8 a0.2.2.2) (ld_own (i := ⟨.arr 64 5, 64, 64, (eA64u8 (vrep 64 (0 : Int)))⟩) rfl rfl rfl hl69) hl69.c (d_next (by kernel_rfl) (d_cons ?_))
  obtain ⟨r70, hr71, h⟩ := bind_some h
  refine a_call (args := [(eA64u8 a0.2.2.2)]) (u := []) (r := (eSi64 r70)) rfl rfl (impl_rowOf_ok a0.2.2.2 r70 hr71) rfl (d_next (by kernel_rfl) (d_cons ?_))
  obtain ⟨r72, hr73, h⟩ := bind_some h
  refine a_call (args := [(eT_i64_Si64_Z r2), (eSi64 r37), (eSi64 r70)]) (u := []) (r := (eSi64 r72)) rfl rfl (impl_field_product_ok r2 r37 r70 r72 hr73) rfl (d_next (by kernel_rfl) (d_cons ?_))
  obtain ⟨r74, hr75, h⟩ := bind_some h
  refine a_call (args := [(eSi64 r72)]) (u := []) (r := (eA64u8 r74)) rfl rfl (impl_row_poly_ok r72 r74 hr75) rfl (d_next (by kernel_rfl) (d_cons (vq (eT_i64_A64u8_A64u8_A64u8_Z (a0.1, a0.2.1, r66, r74)) rfl ⟨rfl, (all_cons ⟨(Nat.le_of_ble_eq_true rfl), rfl⟩ (all_cons ⟨(Nat.le_of_ble_eq_true rfl), rfl⟩ (all_cons ⟨(Nat.le_of_ble_eq_true rfl), rfl⟩ (all_cons ⟨(Nat.le_of_ble_eq_true rfl), rfl⟩ all_nil))))⟩ (d_next (by kernel_rfl) (d_cons (vs (eT_i64_A64u8_A64u8_A64u8_Z (a0.1, a0.2.1, r66, r74)) rfl rfl (fun _ => rfl) rfl rfl rfl rfl rfl rfl (d_next (by kernel_rfl) (d_nil (a_next rfl ?_)))))))))
  refine a_ret ?_
  have hl77 : LdOk [] (eT_i64_A64u8_A64u8_A64u8_Z (a0.1, a0.2.1, r66, r74)) [] 193 true (eT_i64_A64u8_A64u8_A64u8_Z (a0.1, a0.2.1, r66, r74)) := (.nil rfl rfl rfl)
  refine ⟨.inr rfl, ?_⟩
  rw [Try.results89]
  cases h
  exact ⟨_, _, _, _, _, ld_own (i := ⟨.struct [(0, 2), (1, 24), (65, 24), (129, 24)], 193, 200, (eT_i64_A64u8_A64u8_A64u8_Z ((0 : Int), (vrep 64 (0 : Int)), (vrep 64 (0 : Int)), (vrep 64 (0 : Int))))⟩) rfl rfl rfl hl77, hl77.c, .inl ⟨rfl, .inl rfl⟩, rfl, rfl⟩
def impl_AreIsomorphic_c : ACode := (.seq (.region 0 [q 2 (.box 52 (t 0)), q 3 (.box 52 (t 1)), q 4 (.asg 0 (.const (.bool false)) 4), q 5 (.asg 0 (.const (.int .i64 0)) 2)] false) (.seq (.seq (.region 1 [q 9 (.load 52 (t 2)), q 10 (.load 52 (t 3)), q 11 (.call 0 (.func 88) [(t 9), (t 10)]), q 6 (.asg 0 (t 11) 2)] false) (.seq (.region 2 [q 12 (.mov (t 6)), q 13 (.bin .neq 2 (t 12) (.const (.int .i64 0)))] false) (.cond (t 13) (.seq (.region 3 [q 14 (.mov (t 6)), q 4 (.asg 0 (.const (.bool false)) 4), q 5 (.asg 0 (t 14) 2)] false) .ret) .skip))) (.seq (.region 4 [q 15 (.load 52 (t 2)), q 16 (.call 0 (.func 84) [(t 15)]), q 7 (.alloc 88), ⟨none, .store 88 (t 7) (t 16), none, []⟩] false) (.seq (.seq (.region 5 [q 8 (.asg 0 (.const (.int .i64 1)) 2)] false) (.block 0 (.loop (.seq (.seq (.region 6 [q 17 (.mov (t 8)), q 18 (.fieldAddr 88 (t 7) 0), ⟨some 19, .load 62 (t 18), none, [1]⟩, q 20 (.fieldAddr 88 (t 7) 1), ⟨some 21, .load 65 (t 20), none, [3]⟩, ⟨some 22, .call 0 (.func 59) [(t 21)], none, [4]⟩, ⟨some 23, .call 0 (.func 58) [(t 19), (t 22), (.const (.int .i64 1099511627776))], none, [2, 5, 5]⟩, ⟨some 24, .bin .lss 2 (t 17) (t 23), none, [0, 6]⟩] true) (.cond (t 24) .skip (.exit 0))) (.seq (.block 1 (.seq (.region 8 [q 27 (.load 52 (t 2)), q 28 (.fieldAddr 88 (t 7) 0), ⟨some 29, .load 62 (t 28), none, [1]⟩, q 30 (.mov (t 8)), ⟨some 31, .call 0 (.func 90) [(t 29), (t 30)], none, [2, 3]⟩, ⟨some 32, .call 0 (.func 89) [(t 27), (t 31)], none, [0, 4, 4]⟩, q 33 (.load 52 (t 3)), ⟨some 34, .bin .eql 52 (t 32) (t 33), none, [5, 6]⟩] true) (.cond (t 34) (.seq (.region 9 [q 4 (.asg 0 (.const (.bool true)) 4), q 5 (.asg 0 (.const (.int .i64 0)) 2)] false) .ret) .skip))) (.region 7 [q 25 (.mov (t 8)), q 26 (.bin .add 2 (t 25) (.const (.int .i64 1))), q 8 (.asg 0 (t 26) 2)] false)))))) (.seq (.region 10 [q 4 (.asg 0 (.const (.bool false)) 4), q 5 (.asg 0 (.const (.int .i64 0)) 2)] false) .ret)))))
def impl_AreIsomorphic_L : Live := [(0, [0, 1]), (1, [2, 3]), (2, [2, 3, 6]), (3, [6]), (4, [2, 3]), (5, [2, 3, 7]), (6, [2, 3, 7, 8]), (7, [2, 3, 7, 8]), (8, [2, 3, 7, 8]), (9, []), (10, []), (100013, [2, 3, 6, 13]), (100024, [2, 3, 7, 8, 24]), (100034, [2, 3, 7, 8, 34])]
noncomputable def impl_AreIsomorphic_l1 (r7 : (Int × (List Int))) (a0 : (Int × (Vec Int 64) × (Vec Int 64) × (Vec Int 64))) (a1 : (Int × (Vec Int 64) × (Vec Int 64) × (Vec Int 64))) (x130 : Int) : Option (Int ⊕ (Unit ⊕ (Bool × Int))) :=
  (Option.bind (impl_row_degree r7.2) fun r170 => (Option.bind (impl_prime_norm r7.1 r170 1099511627776) fun r172 => (if (decide (x130 < r172)) then (Option.bind (impl_prime_numbered r7.1 x130) fun r184 => (Option.bind (impl_Drinfeld_twist a0 r184) fun r186 => (if (decide (r186 = a1)) then (some (.inr ((.inr (true, 0))))) else (some (.inl (IntKind.i64.wrap (x130 + 1))))))) else (some (.inr (((.inl ()))))))))
noncomputable def impl_AreIsomorphic (a0 : (Int × (Vec Int 64) × (Vec Int 64) × (Vec Int 64))) (a1 : (Int × (Vec Int 64) × (Vec Int 64) × (Vec Int 64))) : Option (Bool × Int) :=
  (Option.bind (impl_pairCode a0 a1) fun r3 => (if (r3 != 0) then (some (false, r3)) else (Option.bind (impl_Drinfeld_field a0) fun r7 => (Option.bind (α := (Unit ⊕ (Bool × Int))) ((loopM (fun s : Int => impl_AreIsomorphic_l1 r7 a0 a1 s) 1)) fun z => match z with | .inl _ => (some (false, 0)) | .inr r191 => (some r191)))))
theorem impl_AreIsomorphic_ok (a0 : (Int × (Vec Int 64) × (Vec Int 64) × (Vec Int 64))) (a1 : (Int × (Vec Int 64) × (Vec Int 64) × (Vec Int 64))) (r : (Bool × Int)) (h : impl_AreIsomorphic a0 a1 = some r) : Den Try.prog 44 [(eT_i64_A64u8_A64u8_A64u8_Z a0), (eT_i64_A64u8_A64u8_A64u8_Z a1)] { r := (.tuple [(.bool r.1), (i6 r.2)]) } := by
  refine den_of (rs := [(.bool r.1), (i6 r.2)]) (ac := impl_AreIsomorphic_c) (L := impl_AreIsomorphic_L) (n := 35) (m := []) (c := Try.f44.body.getD .skip) good Try.func44 (by kernel_rfl) (by kernel_rfl) Try.ntmps44 rfl rfl (by kernel_rfl) rfl rfl ?_
  refine a_st (σ' := ⟨[(0, (eT_i64_A64u8_A64u8_A64u8_Z a0)), (1, (eT_i64_A64u8_A64u8_A64u8_Z a1))], []⟩) (by kernel_rfl) ?_
  unfold impl_AreIsomorphic_c
  refine sr (vo 1200 (eT_i64_A64u8_A64u8_A64u8_Z a0) rfl rfl (vo 1300 (eT_i64_A64u8_A64u8_A64u8_Z a1) rfl rfl (vp (.bool false) rfl (vp (i6 0) rfl (nx ⟨[(2, (ow 2)), (3, (ow 3))], [(2, (bk (eT_i64_A64u8_A64u8_A64u8_Z a0))), (3, (bk (eT_i64_A64u8_A64u8_A64u8_Z a1)))]⟩ (by kernel_rfl) (a_seq (sr (vl (eT_i64_A64u8_A64u8_A64u8_Z a0) rfl rfl rfl rfl rfl rfl (vl (eT_i64_A64u8_A64u8_A64u8_Z a1) rfl rfl rfl rfl rfl rfl ?_)))))))))
  obtain ⟨r3, hr4, h⟩ := bind_some h
  refine a_call (args := [(eT_i64_A64u8_A64u8_A64u8_Z a0), (eT_i64_A64u8_A64u8_A64u8_Z a1)]) (u := []) (r := (i6 r3)) rfl rfl (impl_pairCode_ok a0 a1 r3 hr4) rfl (vp (i6 r3) rfl (nx ⟨[(2, (ow 2)), (3, (ow 3)), (6, (i6 r3))], [(2, (bk (eT_i64_A64u8_A64u8_A64u8_Z a0))), (3, (bk (eT_i64_A64u8_A64u8_A64u8_Z a1)))]⟩ (by kernel_rfl) (sr (vp (i6 r3) rfl (vp (.bool (r3 != 0)) rfl (nx ⟨[(2, (ow 2)), (3, (ow 3)), (6, (i6 r3)), (13, (.bool (r3 != 0)))], [(2, (bk (eT_i64_A64u8_A64u8_A64u8_Z a0))), (3, (bk (eT_i64_A64u8_A64u8_A64u8_Z a1)))]⟩ (by kernel_rfl) ?_))))))
  cases hb5 : (r3 != 0)
  · have h := ite_f hb5 h
    refine a_cond_f rfl (a_skip (a_next (σ' := ⟨[(2, (ow 2)), (3, (ow 3))], [(2, (bk (eT_i64_A64u8_A64u8_A64u8_Z a0))), (3, (bk (eT_i64_A64u8_A64u8_A64u8_Z a1)))]⟩) (by kernel_rfl) (sr (vl (eT_i64_A64u8_A64u8_A64u8_Z a0) rfl rfl rfl rfl rfl rfl ?_))))
    obtain ⟨r7, hr8, h⟩ := bind_some h
    refine a_call (args := [(eT_i64_A64u8_A64u8_A64u8_Z a0)]) (u := []) (r := (eT_i64_Si64_Z r7)) rfl rfl (impl_Drinfeld_field_ok a0 r7 hr8) rfl (vo 1700 (eT_i64_Si64_Z (((0 : Int), []))) rfl rfl (vs (eT_i64_Si64_Z r7) rfl rfl (fun _ => rfl) rfl rfl rfl rfl rfl rfl (nx ⟨[(2, (ow 2)), (3, (ow 3)), (7, (ow 7))], [(2, (bk (eT_i64_A64u8_A64u8_A64u8_Z a0))), (3, (bk (eT_i64_A64u8_A64u8_A64u8_Z a1))), (7, (bk (eT_i64_Si64_Z r7)))]⟩ (by kernel_rfl) ?_)))
    obtain ⟨y99, hy100, hk101⟩ := bind_some h
    clear h
    refine a_join (emb := fun (s : Unit) => ⟨[], []⟩) (pre := fun s => (.inl s) = y99) ?_ ?_
    · rintro _ rfl
      have h := hk101
      refine a_st (σ' := ⟨[], []⟩) (by kernel_rfl) (sr (vp (.bool false) rfl (vp (i6 0) rfl (nx _ rfl (a_ret ?_)))))
      refine ⟨.inr rfl, ?_⟩
      rw [Try.results44]
      cases h
      exact ⟨_, _, _, _, _, rfl, trivial, .inl ⟨rfl, .inl rfl⟩, rfl, ⟨_, _, _, _, _, rfl, trivial, .inl ⟨rfl, .inl rfl⟩, rfl, rfl⟩⟩
    · have h := hy100
      refine sr (vp (i6 1) rfl (nx ⟨[(2, (ow 2)), (3, (ow 3)), (7, (ow 7)), (8, (i6 1))], [(2, (bk (eT_i64_A64u8_A64u8_A64u8_Z a0))), (3, (bk (eT_i64_A64u8_A64u8_A64u8_Z a1))), (7, (bk (eT_i64_Si64_Z r7)))]⟩ (by kernel_rfl) (a_block ?_)))
      refine a_loop (emb := fun (s : Int) => ⟨[(2, (ow 2)), (3, (ow 3)), (7, (ow 7)), (8, (i6 s))], [(2, (bk (eT_i64_A64u8_A64u8_A64u8_Z a0))), (3, (bk (eT_i64_A64u8_A64u8_A64u8_Z a1))), (7, (bk (eT_i64_Si64_Z r7)))]⟩) (body := (fun s : Int => impl_AreIsomorphic_l1 r7 a0 a1 s)) (G := fun q => some q = some y99) h rfl ?_ (by kernel_rfl)
      rintro X159 x130 x160 h hX161
      have h : impl_AreIsomorphic_l1 r7 a0 a1 x130 = some x160 := h
      refine a_st (σ' := ⟨[(2, (ow 2)), (3, (ow 3)), (7, (ow 7)), (8, (i6 x130))], [(2, (bk (eT_i64_A64u8_A64u8_A64u8_Z a0))), (3, (bk (eT_i64_A64u8_A64u8_A64u8_Z a1))), (7, (bk (eT_i64_Si64_Z r7)))]⟩) (by kernel_rfl) (a_seq (a_seq (a_draw [⟨[], [], [], []⟩, ⟨[7], [], [7], []⟩, ⟨[7], [], [], [1]⟩, ⟨[7], [], [7], []⟩, ⟨[7], [], [], [3]⟩, ⟨[], [], [], [3, 4]⟩, ⟨[], [], [], [1, 2, 3, 4, 5]⟩, ⟨[], [], [], [0, 1, 2, 3, 4, 5, 6]⟩] (by kernel_rfl) (dp (i6 x130) rfl (by kernel_rfl) (d_cons (vb (.own 7 [0] [0]) rfl rfl (d_next (by kernel_rfl) (d_cons ?_))))))))
      have hl168 : LdOk [0] (eT_i64_Si64_Z r7) [0] 1 false (i6 r7.1) := (.fld rfl rfl rfl rfl (.nil rfl rfl rfl))
      refine vq (i6 r7.1) (ld_own (i := ⟨.int .i64, 1, 8, (.int .i64 0)⟩) rfl rfl rfl hl168) hl168.c (d_next (by kernel_rfl) (d_cons (vb (.own 7 [1] [1]) rfl rfl (d_next (by kernel_rfl) (d_cons ?_)))))
      have hl169 : LdOk [1] (eT_i64_Si64_Z r7) [1] 1 false (eSi64 r7.2) := (.fld rfl rfl rfl rfl (.nil rfl rfl rfl))
      refine vq (eSi64 r7.2) (ld_own (i := ⟨.slice 2, 1, 24, (eSi64 [])⟩) rfl rfl rfl hl169) hl169.c (d_next (by kernel_rfl) (d_cons ?_))
      obtain ⟨r170, hr171, h⟩ := bind_some h
      refine a_call (args := [(eSi64 r7.2)]) (u := []) (r := (i6 r170)) rfl rfl (impl_row_degree_ok r7.2 r170 hr171) rfl (d_next (by kernel_rfl) (d_cons ?_))
      obtain ⟨r172, hr173, h⟩ := bind_some h
      refine a_call (args := [(i6 r7.1), (i6 r170), (i6 1099511627776)]) (u := []) (r := (i6 r172)) rfl rfl (impl_prime_norm_ok r7.1 r170 1099511627776 r172 hr173) rfl (d_next (by kernel_rfl) (dp (.bool ((decide (x130 < r172)))) rfl (by kernel_rfl) (d_nil (a_next (σ' := ⟨[(2, (ow 2)), (3, (ow 3)), (7, (ow 7)), (8, (i6 x130)), (24, (.bool ((decide (x130 < r172)))))], [(2, (bk (eT_i64_A64u8_A64u8_A64u8_Z a0))), (3, (bk (eT_i64_A64u8_A64u8_A64u8_Z a1))), (7, (bk (eT_i64_Si64_Z r7)))]⟩) (by kernel_rfl) ?_))))
      cases hb174 : (decide (x130 < r172))
      · have h := ite_f hb174 h
        refine a_cond_f rfl (a_exit (t_exit ?_))
        cases h
        have h := hX161
        refine t_exit (b_exit ?_)
        exact j_leaf () (Option.some.inj h) (by kernel_rfl)
      · have h := ite_t hb174 h
        refine a_cond_t rfl (a_skip (a_next (σ' := ⟨[(2, (ow 2)), (3, (ow 3)), (7, (ow 7)), (8, (i6 x130))], [(2, (bk (eT_i64_A64u8_A64u8_A64u8_Z a0))), (3, (bk (eT_i64_A64u8_A64u8_A64u8_Z a1))), (7, (bk (eT_i64_Si64_Z r7)))]⟩) (by kernel_rfl) (a_seq (a_block (a_seq (a_draw [⟨[2], [], [], []⟩, ⟨[7], [], [7], []⟩, ⟨[7], [], [], [1]⟩, ⟨[], [], [], []⟩, ⟨[], [], [], [1, 2, 3]⟩, ⟨[], [], [], [0, 1, 2, 3, 4]⟩, ⟨[3], [], [], []⟩, ⟨[], [], [], [0, 1, 2, 3, 4, 5, 6]⟩] (by kernel_rfl) (d_cons (vl (eT_i64_A64u8_A64u8_A64u8_Z a0) rfl rfl rfl rfl rfl rfl (d_next (by kernel_rfl) ?_)))))))))
        refine d_cons (vb (.own 7 [0] [0]) rfl rfl (d_next (by kernel_rfl) (d_cons ?_)))
        have hl183 : LdOk [0] (eT_i64_Si64_Z r7) [0] 1 false (i6 r7.1) := (.fld rfl rfl rfl rfl (.nil rfl rfl rfl))
        refine vq (i6 r7.1) (ld_own (i := ⟨.int .i64, 1, 8, (.int .i64 0)⟩) rfl rfl rfl hl183) hl183.c (d_next (by kernel_rfl) (dp (i6 x130) rfl (by kernel_rfl) (d_cons ?_)))
        obtain ⟨r184, hr185, h⟩ := bind_some h
        refine a_call (args := [(i6 r7.1), (i6 x130)]) (u := []) (r := (eSi64 r184)) rfl rfl (impl_prime_numbered_ok r7.1 x130 r184 hr185) rfl (d_next (by kernel_rfl) (d_cons ?_))
        obtain ⟨r186, hr187, h⟩ := bind_some h
        refine a_call (args := [(eT_i64_A64u8_A64u8_A64u8_Z a0), (eSi64 r184)]) (u := []) (r := (eT_i64_A64u8_A64u8_A64u8_Z r186)) rfl rfl (impl_Drinfeld_twist_ok a0 r184 r186 hr187) rfl (d_next (by kernel_rfl) (d_cons (vl (eT_i64_A64u8_A64u8_A64u8_Z a1) rfl rfl rfl rfl rfl rfl (d_next (by kernel_rfl) (d_cons (vq (.bool ((decide (r186 = a1)))) (eqs_run rfl rfl (eqbs_cons (f := (AV.int .i64)) (a := r186) (b := a1) (fun _ _ => eqb_int _ _) (eqbs_cons (f := eA64u8) (a := r186.2) (b := a1.2) (fun a b => eqb_arr (f := (AV.int .u8)) (fun _ _ => eqb_int _ _) a b) (eqbs_cons (f := eA64u8) (a := r186.2.2) (b := a1.2.2) (fun a b => eqb_arr (f := (AV.int .u8)) (fun _ _ => eqb_int _ _) a b) (eqbs_one (f := eA64u8) (fun a b => eqb_arr (f := (AV.int .u8)) (fun _ _ => eqb_int _ _) a b) r186.2.2.2 a1.2.2.2))))) (cmp_struct (g := 8) rfl rfl rfl rfl (by kernel_rfl) ⟨(cmp_int rfl), ⟨(cmp_arr (g := 7) (f := (AV.int .u8)) (x := r186.2.1) (y := a1.2.1) rfl rfl rfl (fun _ _ => rfl) (fun _ _ => (cmp_int rfl))), ⟨(cmp_arr (g := 7) (f := (AV.int .u8)) (x := r186.2.2.1) (y := a1.2.2.1) rfl rfl rfl (fun _ _ => rfl) (fun _ _ => (cmp_int rfl))), ⟨(cmp_arr (g := 7) (f := (AV.int .u8)) (x := r186.2.2.2) (y := a1.2.2.2) rfl rfl rfl (fun _ _ => rfl) (fun _ _ => (cmp_int rfl))), trivial⟩⟩⟩⟩) (d_next (by kernel_rfl) (d_nil (a_next (σ' := ⟨[(2, (ow 2)), (3, (ow 3)), (7, (ow 7)), (8, (i6 x130)), (34, (.bool ((decide (r186 = a1)))))], [(2, (bk (eT_i64_A64u8_A64u8_A64u8_Z a0))), (3, (bk (eT_i64_A64u8_A64u8_A64u8_Z a1))), (7, (bk (eT_i64_Si64_Z r7)))]⟩) (by kernel_rfl) ?_)))))))))
        cases hb189 : (decide (r186 = a1))
        · have h := ite_f hb189 h
          refine a_cond_f rfl (a_skip (b_norm (a_next (σ' := ⟨[(2, (ow 2)), (3, (ow 3)), (7, (ow 7)), (8, (i6 x130))], [(2, (bk (eT_i64_A64u8_A64u8_A64u8_Z a0))), (3, (bk (eT_i64_A64u8_A64u8_A64u8_Z a1))), (7, (bk (eT_i64_Si64_Z r7)))]⟩) (by kernel_rfl) (a_region (vp (i6 x130) rfl (vp (i6 (IntKind.i64.wrap (x130 + 1))) rfl (vp (i6 (IntKind.i64.wrap (x130 + 1))) rfl (a_nil ?_))))))))
          cases h
          exact a_again (by kernel_rfl) hX161
        · have h := ite_t hb189 h
          refine a_cond_t rfl (sr (vp (.bool true) rfl (vp (i6 0) rfl (nx _ rfl (a_ret (b_ret (t_ret ?_)))))))
          cases h
          have h := hX161
          refine t_ret (b_ret (t_ret ?_))
          cases h
          have h := hk101
          refine ⟨.inr rfl, ?_⟩
          rw [Try.results44]
          cases h
          exact ⟨_, _, _, _, _, rfl, trivial, .inl ⟨rfl, .inl rfl⟩, rfl, ⟨_, _, _, _, _, rfl, trivial, .inl ⟨rfl, .inl rfl⟩, rfl, rfl⟩⟩
  · have h := ite_t hb5 h
    refine a_cond_t rfl (sr (vp (i6 r3) rfl (vp (.bool false) rfl (vp (i6 r3) rfl (nx _ rfl (a_ret (t_ret ?_)))))))
    refine ⟨.inr rfl, ?_⟩
    rw [Try.results44]
    cases h
    exact ⟨_, _, _, _, _, rfl, trivial, .inl ⟨rfl, .inl rfl⟩, rfl, ⟨_, _, _, _, _, rfl, trivial, .inl ⟨rfl, .inl rfl⟩, rfl, rfl⟩⟩
end Go.Proofs.Ytcgohoclbjgmkaa
