/- Functions of the program: plain Lean functions, and that the program computes them. Printed by gen.py. -/
import Derived.Test.YtcgohoclbjgmkaaFnT
import Derived.Test.YtcgohoclbjgmkaaFn1
import Derived.Test.YtcgohoclbjgmkaaFn2
import Derived.Test.YtcgohoclbjgmkaaFn3
import Derived.Test.YtcgohoclbjgmkaaFn4
namespace Go.Proofs.Ytcgohoclbjgmkaa
open Go.Abs Go.Proofs
set_option linter.unusedSimpArgs false
set_option linter.unusedVariables false
set_option maxHeartbeats 16000000
attribute [local irreducible] Abs.acode Abs.aops Abs.aopsT Abs.thenK Abs.blockK

def impl_prime_factors_c : ACode := (.seq (.region 0 [q 4 (.asg 1 (.const (.slice none 0 0)) 68)] false) (.seq (.region 1 [q 5 (.asg 2 (.const (.slice none 0 0)) 68)] false) (.seq (.seq (.region 2 [q 6 (.asg 0 (.const (.int .i64 1)) 2)] false) (.block 0 (.loop (.seq (.seq (.region 3 [q 12 (.mov (t 1)), q 13 (.call 0 (.func 59) [(t 12)]), q 14 (.bin .gtr 2 (t 13) (.const (.int .i64 0)))] false) (.cond (t 14) .skip (.exit 0))) (.seq (.block 1 (.seq (.seq (.region 5 [q 17 (.mov (t 6)), q 18 (.bin .mul 2 (.const (.int .i64 2)) (t 17)), q 19 (.mov (t 1)), q 20 (.call 0 (.func 59) [(t 19)]), q 21 (.bin .gtr 2 (t 18) (t 20))] false) (.cond (t 21) (.seq (.region 6 [q 22 (.mov (t 5)), q 23 (.mov (t 0)), q 24 (.mov (t 1)), q 25 (.mov (t 0)), q 26 (.mov (t 1)), q 27 (.call 0 (.func 101) [(t 26)]), q 28 (.call 0 (.func 106) [(t 25), (t 27)]), q 29 (.call 0 (.func 105) [(t 23), (t 24), (t 28)]), q 30 (.build 71 [(0, (t 29)), (1, (.const (.int .i64 1)))]), q 31 (.bslice 0 68 1 [(0, (t 30))]), q 32 (.blt 0 .append [(t 22), (t 31)] [68, 68]), q 5 (.asg 2 (t 32) 68)] false) (.exit 0)) .skip)) (.seq (.region 7 [q 33 (.call 0 (.func 107) []), q 7 (.asg 1 (t 33) 65)] false) (.seq (.seq (.region 8 [q 34 (.mov (t 6)), q 35 (.mov (.const (.int .i64 0)))] false) (.block 2 (.loop (.seq (.region 9 [q 36 (.bin .lss 2 (t 35) (t 34))] false) (.seq (.cond (t 36) .skip (.exit 2)) (.seq (.block 3 (.region 10 [q 37 (.mov (t 0)), q 38 (.mov (t 7)), q 39 (.mov (t 0)), q 40 (.mov (t 1)), q 41 (.call 0 (.func 108) [(t 37), (t 38), (t 39), (t 40)]), q 7 (.asg 1 (t 41) 65)] false)) (.region 11 [q 42 (.bin .add 2 (t 35) (.const (.int .i64 1))), q 35 (.mov (t 42))] false))))))) (.seq (.region 12 [q 43 (.mov (t 0)), q 44 (.mov (t 0)), q 45 (.mov (t 7)), q 46 (.call 0 (.func 107) []), q 47 (.call 0 (.func 110) [(t 44), (t 45), (t 46), (.const (.int .i64 (-1)))]), q 48 (.mov (t 1)), q 49 (.call 0 (.func 109) [(t 43), (t 47), (t 48)]), q 8 (.asg 1 (t 49) 65)] false) (.block 4 (.loop (.seq (.seq (.region 13 [q 50 (.mov (t 8)), q 51 (.call 0 (.func 59) [(t 50)]), q 52 (.bin .gtr 2 (t 51) (.const (.int .i64 0)))] false) (.cond (t 52) .skip (.exit 4))) (.block 5 (.seq (.region 14 [q 53 (.mov (t 0)), q 54 (.mov (t 8)), q 55 (.mov (t 6)), q 56 (.call 0 (.func 111) [(t 53), (t 54), (t 55)]), q 9 (.asg 1 (t 56) 65)] false) (.seq (.region 15 [q 58 (.mov (t 0)), q 59 (.mov (t 1)), q 60 (.mov (t 9)), q 61 (.call 0 (.func 112) [(t 58), (t 59), (t 60)]), q 57 (.mov (t 61)), q 62 (.extract (t 57) 0), q 63 (.extract (t 57) 1), q 10 (.asg 1 (t 62) 65), q 11 (.asg 0 (t 63) 2)] false) (.seq (.region 16 [q 64 (.mov (t 10)), q 1 (.asg 1 (t 64) 65)] false) (.seq (.region 17 [q 66 (.mov (t 0)), q 67 (.mov (t 8)), q 68 (.mov (t 9)), q 69 (.call 0 (.func 112) [(t 66), (t 67), (t 68)]), q 65 (.mov (t 69)), q 70 (.extract (t 65) 0), q 71 (.extract (t 65) 1), q 8 (.asg 1 (t 70) 65)] false) (.region 18 [q 72 (.mov (t 5)), q 73 (.mov (t 9)), q 74 (.mov (t 11)), q 75 (.build 71 [(0, (t 73)), (1, (t 74))]), q 76 (.bslice 0 68 1 [(0, (t 75))]), q 77 (.blt 0 .append [(t 72), (t 76)] [68, 68]), q 5 (.asg 2 (t 77) 68)] false)))))))))))))) (.region 4 [q 15 (.mov (t 6)), q 16 (.bin .add 2 (t 15) (.const (.int .i64 1))), q 6 (.asg 0 (t 16) 2)] false)))))) (.seq (.region 19 [q 78 (.mov (t 5)), q 79 (.call 1 (.func 113) [(t 78), (.func 114)])] false) (.seq (.region 20 [q 80 (.mov (t 5)), q 4 (.asg 1 (t 80) 68)] false) .ret)))))
def impl_prime_factors_L : Live := [(0, [0, 1]), (1, [0, 1]), (2, [0, 1, 5]), (3, [0, 1, 5, 6]), (4, [0, 1, 5, 6]), (5, [0, 1, 5, 6]), (6, [0, 1, 5]), (7, [0, 1, 5, 6]), (8, [0, 1, 5, 6, 7]), (9, [0, 1, 5, 6, 7, 34, 35]), (10, [0, 1, 5, 6, 7, 34, 35]), (11, [0, 1, 5, 6, 7, 34, 35]), (12, [0, 1, 5, 6, 7]), (13, [0, 1, 5, 6, 8]), (14, [0, 1, 5, 6, 8]), (15, [0, 1, 5, 6, 8, 9]), (16, [0, 5, 6, 8, 9, 10, 11]), (17, [0, 1, 5, 6, 8, 9, 11]), (18, [0, 1, 5, 6, 8, 9, 11]), (19, [5]), (20, [5]), (100014, [0, 1, 5, 6, 14]), (100021, [0, 1, 5, 6, 21]), (100036, [0, 1, 5, 6, 7, 34, 35, 36]), (100052, [0, 1, 5, 6, 8, 52])]
noncomputable def impl_prime_factors_l2 (x761 : Int) (a0 : Int) (x760 : (List Int)) (x1077 : (List Int)) (x1078 : Int) : Option (((List Int) × Int) ⊕ (List Int)) :=
  (if (decide (x1078 < x761)) then (Option.bind (impl_prime_power a0 x1077 a0 x760) fun r1086 => (some (.inl ((r1086, IntKind.i64.wrap (x1078 + 1)))))) else (some (.inr x1077)))
noncomputable def impl_prime_factors_l3 (a0 : Int) (x761 : Int) (x1105 : (List Int)) (x1106 : (List Int)) (x1107 : (List ((List Int) × Int))) : Option (((List Int) × (List Int) × (List ((List Int) × Int))) ⊕ (((List Int) × (List ((List Int) × Int))) ⊕ (((List Int) × Int × (List ((List Int) × Int))) ⊕ (List ((List Int) × Int))))) :=
  (Option.bind (impl_row_degree x1106) fun r1121 => (if (decide (r1121 > 0)) then (Option.bind (impl_prime_withDegree a0 x1106 x761) fun r1124 => (Option.bind (impl_prime_strip a0 x1105 r1124) fun r1126 => (Option.bind (impl_prime_strip a0 x1106 r1124) fun r1128 => (ifp ((x1107.length + ([(r1124, r1126.2)] : List ((List Int) × Int)).length) * 32 ≤ 140737488355328) ((some (.inl ((r1126.1, r1128.1, (x1107 ++ ([(r1124, r1126.2)]))))))))))) else (some (.inr (((.inl (x1105, x1107))))))))
noncomputable def impl_prime_factors_l1 (a0 : Int) (x760 : (List Int)) (x761 : Int) (x762 : (List ((List Int) × Int))) : Option (((List Int) × Int × (List ((List Int) × Int))) ⊕ (List ((List Int) × Int))) :=
  (Option.bind (impl_row_degree x760) fun r953 => (if (decide (r953 > 0)) then (Option.bind (α := (((List Int) × (List ((List Int) × Int))) ⊕ (((List Int) × Int × (List ((List Int) × Int))) ⊕ (List ((List Int) × Int))))) ((Option.bind (impl_row_degree x760) fun r1050 => (if (decide ((IntKind.i64.wrap (2 * x761)) > r1050)) then (Option.bind (impl_row_lead x760) fun r1132 => (Option.bind (impl_prime_inverse a0 r1132) fun r1134 => (Option.bind (impl_prime_scale a0 x760 r1134) fun r1136 => (ifp ((x762.length + ([(r1136, 1)] : List ((List Int) × Int)).length) * 32 ≤ 140737488355328) ((some (.inr ((.inr (((x762 ++ ([(r1136, 1)]))))))))))))) else (Option.bind (impl_letter) fun r1053 => (Option.bind (α := (List Int)) ((loopM (fun s : ((List Int) × Int) => impl_prime_factors_l2 x761 a0 x760 s.1 s.2) (r1053, 0))) fun x1070 => (Option.bind (impl_letter) fun r1089 => (Option.bind (impl_prime_combine a0 x1070 r1089 (-1)) fun r1091 => (Option.bind (impl_prime_gcd a0 r1091 x760) fun r1093 => (loopM (fun s : ((List Int) × (List Int) × (List ((List Int) × Int))) => impl_prime_factors_l3 a0 x761 s.1 s.2.1 s.2.2) (x760, r1093, x762)))))))))) fun z => match z with | .inl ⟨x1045, x1046⟩ => (some (.inl ((x1045, IntKind.i64.wrap (x761 + 1), x1046)))) | .inr r1139 => (some r1139)) else (some (.inr x762))))
noncomputable def impl_prime_factors (a0 : Int) (a1 : (List Int)) : Option (List ((List Int) × Int)) :=
  (Option.bind (α := (List ((List Int) × Int))) ((loopM (fun s : ((List Int) × Int × (List ((List Int) × Int))) => impl_prime_factors_l1 a0 s.1 s.2.1 s.2.2) (a1, 1, []))) fun x569 => (Option.bind (slices_SortFunc_impl_factor_impl_factor_of_mut_impl_prime_factors_c1 x569) fun r1141 => (ifp (r1141.length = x569.length) (some r1141))))
theorem impl_prime_factors_ok (a0 : Int) (a1 : (List Int)) (r : (List ((List Int) × Int))) (h : impl_prime_factors a0 a1 = some r) : Den Try.prog 54 [(i6 a0), (eSi64 a1)] { r := (eST_Si64_i64_Z r) } := by
  refine den_of (rs := [(eST_Si64_i64_Z r)]) (ac := impl_prime_factors_c) (L := impl_prime_factors_L) (n := 81) (m := [(1, 1), (4, 1), (5, 2), (7, 1), (8, 1), (9, 1), (10, 1), (79, 1)]) (c := Try.f54.body.getD .skip) good Try.func54 (by kernel_rfl) (by kernel_rfl) Try.ntmps54 rfl rfl (by kernel_rfl) rfl rfl ?_
  refine a_st (σ' := ⟨[(0, (i6 a0)), (1, (eSi64 a1))], []⟩) (by kernel_rfl) ?_
  unfold impl_prime_factors_c
  refine sr (vp (eST_Si64_i64_Z ([])) rfl (nx ⟨[(0, (i6 a0)), (1, (eSi64 a1))], []⟩ (by kernel_rfl) (sr (vu (.osl 1500) [(1500, (bk (.row 2 (([]).map eT_Si64_i64_Z))))] rfl trivial rfl (nx ⟨[(0, (i6 a0)), (1, (eSi64 a1)), (5, (.osl 5))], [(5, (bk (.row 2 (([]).map eT_Si64_i64_Z))))]⟩ (by kernel_rfl) ?_)))))
  obtain ⟨y570, hy571, hk572⟩ := bind_some h
  clear h
  refine a_join (emb := fun (s : (List ((List Int) × Int))) => ⟨[(5, (.osl 5))], [(5, (bk (.row 2 (s.map eT_Si64_i64_Z))))]⟩) (pre := fun s => s = y570) ?_ ?_
  · rintro x569 rfl
    have h := hk572
    refine a_st (σ' := ⟨[(5, (.osl 5))], [(5, (bk (.row 2 (x569.map eT_Si64_i64_Z))))]⟩) (by kernel_rfl) (sr (vp (.osl 5) rfl ?_))
    obtain ⟨r1141, hr1142, h⟩ := bind_some h
    obtain ⟨hl1143, h⟩ := ifp_some h
    refine a_callM (args := [(.mutsl 2 (x569.map eT_Si64_i64_Z)), (.clo 114 [] [])]) (i := 0) (id := 5) (r := (.tuple [])) (c := (.row 2 (r1141.map eT_Si64_i64_Z))) rfl rfl (slices_SortFunc_impl_factor_impl_factor_of_mut_impl_prime_factors_c1_ok x569 r1141 hr1142) rfl (shape_map hl1143) (nx ⟨[(5, (.osl 5))], [(5, (bk (.row 2 (r1141.map eT_Si64_i64_Z))))]⟩ (by kernel_rfl) (sr (vp (.osl 5) rfl (vu (eST_Si64_i64_Z r1141) [(5, (bf (.row 2 (r1141.map eT_Si64_i64_Z))))] rfl trivial rfl (nx _ rfl (a_ret ?_))))))
    refine ⟨.inr rfl, ?_⟩
    rw [Try.results54]
    cases h
    exact ⟨_, _, _, _, _, rfl, trivial, .inl ⟨rfl, .inl rfl⟩, rfl, rfl⟩
  · have h := hy571
    refine sr (vp (i6 1) rfl (nx ⟨[(0, (i6 a0)), (1, (eSi64 a1)), (5, (.osl 5)), (6, (i6 1))], [(5, (bk (.row 2 (([]).map eT_Si64_i64_Z))))]⟩ (by kernel_rfl) (a_block ?_)))
    refine a_loop (emb := fun (s : ((List Int) × Int × (List ((List Int) × Int)))) => ⟨[(0, (i6 a0)), (1, (eSi64 s.1)), (5, (.osl 5)), (6, (i6 s.2.1))], [(5, (bk (.row 2 (s.2.2.map eT_Si64_i64_Z))))]⟩) (body := (fun s : ((List Int) × Int × (List ((List Int) × Int))) => impl_prime_factors_l1 a0 s.1 s.2.1 s.2.2)) (G := fun q => some q = some y570) h rfl ?_ (by kernel_rfl)
    rintro X950 ⟨x760, x761, x762⟩ x951 h hX952
    have h : impl_prime_factors_l1 a0 x760 x761 x762 = some x951 := h
    refine a_st (σ' := ⟨[(0, (i6 a0)), (1, (eSi64 x760)), (5, (.osl 5)), (6, (i6 x761))], [(5, (bk (.row 2 (x762.map eT_Si64_i64_Z))))]⟩) (by kernel_rfl) (a_seq (sr (vp (eSi64 x760) rfl ?_)))
    obtain ⟨r953, hr954, h⟩ := bind_some h
    refine a_call (args := [(eSi64 x760)]) (u := []) (r := (i6 r953)) rfl rfl (impl_row_degree_ok x760 r953 hr954) rfl (vp (.bool ((decide (r953 > 0)))) rfl (nx ⟨[(0, (i6 a0)), (1, (eSi64 x760)), (5, (.osl 5)), (6, (i6 x761)), (14, (.bool ((decide (r953 > 0)))))], [(5, (bk (.row 2 (x762.map eT_Si64_i64_Z))))]⟩ (by kernel_rfl) ?_))
    cases hb955 : (decide (r953 > 0))
    · have h := ite_f hb955 h
      refine a_cond_f rfl (a_exit (t_exit ?_))
      cases h
      have h := hX952
      refine t_exit (b_exit ?_)
      exact j_leaf x762 (Option.some.inj h) (by kernel_rfl)
    · have h := ite_t hb955 h
      refine a_cond_t rfl (a_skip (a_next (σ' := ⟨[(0, (i6 a0)), (1, (eSi64 x760)), (5, (.osl 5)), (6, (i6 x761))], [(5, (bk (.row 2 (x762.map eT_Si64_i64_Z))))]⟩) (by kernel_rfl) ?_))
      obtain ⟨y1047, hy1048, hk1049⟩ := bind_some h
      clear h
      refine a_join (emb := fun (s : ((List Int) × (List ((List Int) × Int)))) => ⟨[(0, (i6 a0)), (1, (eSi64 s.1)), (5, (.osl 5)), (6, (i6 x761))], [(5, (bk (.row 2 (s.2.map eT_Si64_i64_Z))))]⟩) (pre := fun s => (.inl s) = y1047) ?_ ?_
      · rintro ⟨x1045, x1046⟩ rfl
        have h := hk1049
        refine a_st (σ' := ⟨[(0, (i6 a0)), (1, (eSi64 x1045)), (5, (.osl 5)), (6, (i6 x761))], [(5, (bk (.row 2 (x1046.map eT_Si64_i64_Z))))]⟩) (by kernel_rfl) (a_region (vp (i6 x761) rfl (vp (i6 (IntKind.i64.wrap (x761 + 1))) rfl (vp (i6 (IntKind.i64.wrap (x761 + 1))) rfl (a_nil ?_)))))
        cases h
        exact a_again (by kernel_rfl) hX952
      · have h := hy1048
        refine a_block (a_seq (sr (vp (i6 x761) rfl (vp (i6 (IntKind.i64.wrap (2 * x761))) rfl (vp (eSi64 x760) rfl ?_)))))
        obtain ⟨r1050, hr1051, h⟩ := bind_some h
        refine a_call (args := [(eSi64 x760)]) (u := []) (r := (i6 r1050)) rfl rfl (impl_row_degree_ok x760 r1050 hr1051) rfl (vp (.bool ((decide ((IntKind.i64.wrap (2 * x761)) > r1050)))) rfl (nx ⟨[(0, (i6 a0)), (1, (eSi64 x760)), (5, (.osl 5)), (6, (i6 x761)), (21, (.bool ((decide ((IntKind.i64.wrap (2 * x761)) > r1050)))))], [(5, (bk (.row 2 (x762.map eT_Si64_i64_Z))))]⟩ (by kernel_rfl) ?_))
        cases hb1052 : (decide ((IntKind.i64.wrap (2 * x761)) > r1050))
        · have h := ite_f hb1052 h
          refine a_cond_f rfl (a_skip (a_next (σ' := ⟨[(0, (i6 a0)), (1, (eSi64 x760)), (5, (.osl 5)), (6, (i6 x761))], [(5, (bk (.row 2 (x762.map eT_Si64_i64_Z))))]⟩) (by kernel_rfl) (sr ?_)))
          obtain ⟨r1053, hr1054, h⟩ := bind_some h
          refine a_call (args := []) (u := []) (r := (eSi64 r1053)) rfl rfl (impl_letter_ok r1053 hr1054) rfl (vp (eSi64 r1053) rfl (nx ⟨[(0, (i6 a0)), (1, (eSi64 x760)), (5, (.osl 5)), (6, (i6 x761)), (7, (eSi64 r1053))], [(5, (bk (.row 2 (x762.map eT_Si64_i64_Z))))]⟩ (by kernel_rfl) ?_))
          obtain ⟨y1071, hy1072, hk1073⟩ := bind_some h
          clear h
          refine a_join (emb := fun (s : (List Int)) => ⟨[(0, (i6 a0)), (1, (eSi64 x760)), (5, (.osl 5)), (6, (i6 x761)), (7, (eSi64 s))], [(5, (bk (.row 2 (x762.map eT_Si64_i64_Z))))]⟩) (pre := fun s => s = y1071) ?_ ?_
          · rintro x1070 rfl
            have h := hk1073
            refine a_st (σ' := ⟨[(0, (i6 a0)), (1, (eSi64 x760)), (5, (.osl 5)), (6, (i6 x761)), (7, (eSi64 x1070))], [(5, (bk (.row 2 (x762.map eT_Si64_i64_Z))))]⟩) (by kernel_rfl) (sr (vp (i6 a0) rfl (vp (i6 a0) rfl (vp (eSi64 x1070) rfl ?_))))
            obtain ⟨r1089, hr1090, h⟩ := bind_some h
            refine a_call (args := []) (u := []) (r := (eSi64 r1089)) rfl rfl (impl_letter_ok r1089 hr1090) rfl ?_
            obtain ⟨r1091, hr1092, h⟩ := bind_some h
            refine a_call (args := [(i6 a0), (eSi64 x1070), (eSi64 r1089), (i6 (-1))]) (u := []) (r := (eSi64 r1091)) rfl rfl (impl_prime_combine_ok a0 x1070 r1089 (-1) r1091 hr1092) rfl (vp (eSi64 x760) rfl ?_)
            obtain ⟨r1093, hr1094, h⟩ := bind_some h
            refine a_call (args := [(i6 a0), (eSi64 r1091), (eSi64 x760)]) (u := []) (r := (eSi64 r1093)) rfl rfl (impl_prime_gcd_ok a0 r1091 x760 r1093 hr1094) rfl (vp (eSi64 r1093) rfl (nx ⟨[(0, (i6 a0)), (1, (eSi64 x760)), (5, (.osl 5)), (6, (i6 x761)), (8, (eSi64 r1093))], [(5, (bk (.row 2 (x762.map eT_Si64_i64_Z))))]⟩ (by kernel_rfl) (a_block ?_)))
            refine a_loop (emb := fun (s : ((List Int) × (List Int) × (List ((List Int) × Int)))) => ⟨[(0, (i6 a0)), (1, (eSi64 s.1)), (5, (.osl 5)), (6, (i6 x761)), (8, (eSi64 s.2.1))], [(5, (bk (.row 2 (s.2.2.map eT_Si64_i64_Z))))]⟩) (body := (fun s : ((List Int) × (List Int) × (List ((List Int) × Int))) => impl_prime_factors_l3 a0 x761 s.1 s.2.1 s.2.2)) (G := fun q => some q = some y1047) h rfl ?_ (by kernel_rfl)
            rintro X1118 ⟨x1105, x1106, x1107⟩ x1119 h hX1120
            have h : impl_prime_factors_l3 a0 x761 x1105 x1106 x1107 = some x1119 := h
            refine a_st (σ' := ⟨[(0, (i6 a0)), (1, (eSi64 x1105)), (5, (.osl 5)), (6, (i6 x761)), (8, (eSi64 x1106))], [(5, (bk (.row 2 (x1107.map eT_Si64_i64_Z))))]⟩) (by kernel_rfl) (a_seq (sr (vp (eSi64 x1106) rfl ?_)))
            obtain ⟨r1121, hr1122, h⟩ := bind_some h
            refine a_call (args := [(eSi64 x1106)]) (u := []) (r := (i6 r1121)) rfl rfl (impl_row_degree_ok x1106 r1121 hr1122) rfl (vp (.bool ((decide (r1121 > 0)))) rfl (nx ⟨[(0, (i6 a0)), (1, (eSi64 x1105)), (5, (.osl 5)), (6, (i6 x761)), (8, (eSi64 x1106)), (52, (.bool ((decide (r1121 > 0)))))], [(5, (bk (.row 2 (x1107.map eT_Si64_i64_Z))))]⟩ (by kernel_rfl) ?_))
            cases hb1123 : (decide (r1121 > 0))
            · have h := ite_f hb1123 h
              refine a_cond_f rfl (a_exit (t_exit ?_))
              cases h
              have h := hX1120
              refine t_exit (b_exit (b_norm ?_))
              exact j_leaf (x1105, x1107) (Option.some.inj h) (by kernel_rfl)
            · have h := ite_t hb1123 h
              refine a_cond_t rfl (a_skip (a_next (σ' := ⟨[(0, (i6 a0)), (1, (eSi64 x1105)), (5, (.osl 5)), (6, (i6 x761)), (8, (eSi64 x1106))], [(5, (bk (.row 2 (x1107.map eT_Si64_i64_Z))))]⟩) (by kernel_rfl) (a_block (sr (vp (i6 a0) rfl (vp (eSi64 x1106) rfl (vp (i6 x761) rfl ?_)))))))
              obtain ⟨r1124, hr1125, h⟩ := bind_some h
              refine a_call (args := [(i6 a0), (eSi64 x1106), (i6 x761)]) (u := []) (r := (eSi64 r1124)) rfl rfl (impl_prime_withDegree_ok a0 x1106 x761 r1124 hr1125) rfl (vp (eSi64 r1124) rfl (nx ⟨[(0, (i6 a0)), (1, (eSi64 x1105)), (5, (.osl 5)), (6, (i6 x761)), (8, (eSi64 x1106)), (9, (eSi64 r1124))], [(5, (bk (.row 2 (x1107.map eT_Si64_i64_Z))))]⟩ (by kernel_rfl) (sr (vp (i6 a0) rfl (vp (eSi64 x1105) rfl (vp (eSi64 r1124) rfl ?_))))))
              obtain ⟨r1126, hr1127, h⟩ := bind_some h
              refine a_call (args := [(i6 a0), (eSi64 x1105), (eSi64 r1124)]) (u := []) (r := (.tuple [(eSi64 r1126.1), (i6 r1126.2)])) rfl rfl (impl_prime_strip_ok a0 x1105 r1124 r1126 hr1127) rfl (vp (.tuple [(eSi64 r1126.1), (i6 r1126.2)]) rfl (vb (eSi64 r1126.1) rfl rfl (vb (i6 r1126.2) rfl rfl (vp (eSi64 r1126.1) rfl (vp (i6 r1126.2) rfl (nx ⟨[(0, (i6 a0)), (5, (.osl 5)), (6, (i6 x761)), (8, (eSi64 x1106)), (9, (eSi64 r1124)), (10, (eSi64 r1126.1)), (11, (i6 r1126.2))], [(5, (bk (.row 2 (x1107.map eT_Si64_i64_Z))))]⟩ (by kernel_rfl) (sr (vp (eSi64 r1126.1) rfl (vp (eSi64 r1126.1) rfl ?_)))))))))
              refine nx ⟨[(0, (i6 a0)), (1, (eSi64 r1126.1)), (5, (.osl 5)), (6, (i6 x761)), (8, (eSi64 x1106)), (9, (eSi64 r1124)), (11, (i6 r1126.2))], [(5, (bk (.row 2 (x1107.map eT_Si64_i64_Z))))]⟩ (by kernel_rfl) (sr (vp (i6 a0) rfl (vp (eSi64 x1106) rfl (vp (eSi64 r1124) rfl ?_))))
              obtain ⟨r1128, hr1129, h⟩ := bind_some h
              refine a_call (args := [(i6 a0), (eSi64 x1106), (eSi64 r1124)]) (u := []) (r := (.tuple [(eSi64 r1128.1), (i6 r1128.2)])) rfl rfl (impl_prime_strip_ok a0 x1106 r1124 r1128 hr1129) rfl (vp (.tuple [(eSi64 r1128.1), (i6 r1128.2)]) rfl (vb (eSi64 r1128.1) rfl rfl (vb (i6 r1128.2) rfl rfl (vp (eSi64 r1128.1) rfl (nx ⟨[(0, (i6 a0)), (1, (eSi64 r1126.1)), (5, (.osl 5)), (6, (i6 x761)), (8, (eSi64 r1128.1)), (9, (eSi64 r1124)), (11, (i6 r1126.2))], [(5, (bk (.row 2 (x1107.map eT_Si64_i64_Z))))]⟩ (by kernel_rfl) (a_region (vp (.osl 5) rfl (vp (eSi64 r1124) rfl (vp (i6 r1126.2) rfl ?_)))))))))
              refine vq (eT_Si64_i64_Z (r1124, r1126.2)) rfl ⟨rfl, (all_cons ⟨(Nat.le_of_ble_eq_true rfl), rfl⟩ (all_cons ⟨(Nat.le_of_ble_eq_true rfl), rfl⟩ all_nil))⟩ (vq (.sl 2 true (([(r1124, r1126.2)]).map eT_Si64_i64_Z)) rfl ⟨(Nat.le_of_ble_eq_true rfl), (Nat.le_of_ble_eq_true rfl), (all_cons ⟨(Nat.le_of_ble_eq_true rfl), rfl⟩ all_nil)⟩ ?_)
              obtain ⟨hc1130, h⟩ := ifp_some h
              refine vu (.osl 8700) [(8700, (bk (.row 2 (((x1107 ++ ([(r1124, r1126.2)]))).map eT_Si64_i64_Z)))), (5, none)] (app_run (i := ⟨.struct [(0, 65), (1, 2)], 2, 32, (eT_Si64_i64_Z ([], (0 : Int)))⟩) (f := eT_Si64_i64_Z) (l := x1107) (l2 := [(r1124, r1126.2)]) rfl rfl rfl rfl (fun _ => rfl) rfl rfl) (app_c (f := eT_Si64_i64_Z) (s := 2) (sz := 2) (by' := 32) (u := []) (id := 5) hc1130 (.inr rfl) rfl rfl rfl) rfl (vp (.osl 8700) rfl (a_nil (b_norm ?_)))
              cases h
              exact a_again (by kernel_rfl) hX1120
          · have h := hy1072
            refine sr (vp (i6 x761) rfl (vp (i6 0) rfl (nx ⟨[(0, (i6 a0)), (1, (eSi64 x760)), (5, (.osl 5)), (6, (i6 x761)), (7, (eSi64 r1053)), (34, (i6 x761)), (35, (i6 0))], [(5, (bk (.row 2 (x762.map eT_Si64_i64_Z))))]⟩ (by kernel_rfl) (a_block ?_))))
            refine a_loop (emb := fun (s : ((List Int) × Int)) => ⟨[(0, (i6 a0)), (1, (eSi64 x760)), (5, (.osl 5)), (6, (i6 x761)), (7, (eSi64 s.1)), (34, (i6 x761)), (35, (i6 s.2))], [(5, (bk (.row 2 (x762.map eT_Si64_i64_Z))))]⟩) (body := (fun s : ((List Int) × Int) => impl_prime_factors_l2 x761 a0 x760 s.1 s.2)) (G := fun q => some q = some y1071) h rfl ?_ (by kernel_rfl)
            rintro X1082 ⟨x1077, x1078⟩ x1083 h hX1084
            have h : impl_prime_factors_l2 x761 a0 x760 x1077 x1078 = some x1083 := h
            refine a_st (σ' := ⟨[(0, (i6 a0)), (1, (eSi64 x760)), (5, (.osl 5)), (6, (i6 x761)), (7, (eSi64 x1077)), (34, (i6 x761)), (35, (i6 x1078))], [(5, (bk (.row 2 (x762.map eT_Si64_i64_Z))))]⟩) (by kernel_rfl) (sr (vp (.bool ((decide (x1078 < x761)))) rfl (nx ⟨[(0, (i6 a0)), (1, (eSi64 x760)), (5, (.osl 5)), (6, (i6 x761)), (7, (eSi64 x1077)), (34, (i6 x761)), (35, (i6 x1078)), (36, (.bool ((decide (x1078 < x761)))))], [(5, (bk (.row 2 (x762.map eT_Si64_i64_Z))))]⟩ (by kernel_rfl) (a_seq ?_))))
            cases hb1085 : (decide (x1078 < x761))
            · have h := ite_f hb1085 h
              refine a_cond_f rfl (a_exit (t_exit ?_))
              cases h
              have h := hX1084
              refine t_exit (b_exit ?_)
              exact j_leaf x1077 (Option.some.inj h) (by kernel_rfl)
            · have h := ite_t hb1085 h
              refine a_cond_t rfl (a_skip (a_next (σ' := ⟨[(0, (i6 a0)), (1, (eSi64 x760)), (5, (.osl 5)), (6, (i6 x761)), (7, (eSi64 x1077)), (34, (i6 x761)), (35, (i6 x1078))], [(5, (bk (.row 2 (x762.map eT_Si64_i64_Z))))]⟩) (by kernel_rfl) (a_seq (a_block (a_region (vp (i6 a0) rfl (vp (eSi64 x1077) rfl (vp (i6 a0) rfl (vp (eSi64 x760) rfl ?_)))))))))
              obtain ⟨r1086, hr1087, h⟩ := bind_some h
              refine a_call (args := [(i6 a0), (eSi64 x1077), (i6 a0), (eSi64 x760)]) (u := []) (r := (eSi64 r1086)) rfl rfl (impl_prime_power_ok a0 x1077 a0 x760 r1086 hr1087) rfl (vp (eSi64 r1086) rfl (a_nil (b_norm (a_next (σ' := ⟨[(0, (i6 a0)), (1, (eSi64 x760)), (5, (.osl 5)), (6, (i6 x761)), (7, (eSi64 r1086)), (34, (i6 x761)), (35, (i6 x1078))], [(5, (bk (.row 2 (x762.map eT_Si64_i64_Z))))]⟩) (by kernel_rfl) (a_region (vp (i6 (IntKind.i64.wrap (x1078 + 1))) rfl (vp (i6 (IntKind.i64.wrap (x1078 + 1))) rfl (a_nil ?_))))))))
              cases h
              exact a_again (by kernel_rfl) hX1084
        · have h := ite_t hb1052 h
          refine a_cond_t rfl (sr (vp (.osl 5) rfl (vp (i6 a0) rfl (vp (eSi64 x760) rfl (vp (i6 a0) rfl (vp (eSi64 x760) rfl ?_))))))
          obtain ⟨r1132, hr1133, h⟩ := bind_some h
          refine a_call (args := [(eSi64 x760)]) (u := []) (r := (i6 r1132)) rfl rfl (impl_row_lead_ok x760 r1132 hr1133) rfl ?_
          obtain ⟨r1134, hr1135, h⟩ := bind_some h
          refine a_call (args := [(i6 a0), (i6 r1132)]) (u := []) (r := (i6 r1134)) rfl rfl (impl_prime_inverse_ok a0 r1132 r1134 hr1135) rfl ?_
          obtain ⟨r1136, hr1137, h⟩ := bind_some h
          refine a_call (args := [(i6 a0), (eSi64 x760), (i6 r1134)]) (u := []) (r := (eSi64 r1136)) rfl rfl (impl_prime_scale_ok a0 x760 r1134 r1136 hr1137) rfl (vq (eT_Si64_i64_Z (r1136, 1)) rfl ⟨rfl, (all_cons ⟨(Nat.le_of_ble_eq_true rfl), rfl⟩ (all_cons ⟨(Nat.le_of_ble_eq_true rfl), rfl⟩ all_nil))⟩ (vq (.sl 2 true (([(r1136, 1)]).map eT_Si64_i64_Z)) rfl ⟨(Nat.le_of_ble_eq_true rfl), (Nat.le_of_ble_eq_true rfl), (all_cons ⟨(Nat.le_of_ble_eq_true rfl), rfl⟩ all_nil)⟩ ?_))
          obtain ⟨hc1138, h⟩ := ifp_some h
          refine vu (.osl 4200) [(4200, (bk (.row 2 (((x762 ++ ([(r1136, 1)]))).map eT_Si64_i64_Z)))), (5, none)] (app_run (i := ⟨.struct [(0, 65), (1, 2)], 2, 32, (eT_Si64_i64_Z ([], (0 : Int)))⟩) (f := eT_Si64_i64_Z) (l := x762) (l2 := [(r1136, 1)]) rfl rfl rfl rfl (fun _ => rfl) rfl rfl) (app_c (f := eT_Si64_i64_Z) (s := 2) (sz := 2) (by' := 32) (u := []) (id := 5) hc1138 (.inr rfl) rfl rfl rfl) rfl (vp (.osl 4200) rfl (nx _ rfl (a_exit (t_exit (b_other rfl (t_exit ?_))))))
          cases h
          have h := hk1049
          cases h
          have h := hX952
          refine t_exit (b_exit ?_)
          exact j_leaf ((x762 ++ ([(r1136, 1)]))) (Option.some.inj h) (by kernel_rfl)
def impl_EulerOf_c : ACode := (.seq (.region 0 [q 3 (.box 24 (t 1)), q 4 (.asg 0 (.const (.int .i64 0)) 2), q 5 (.asg 0 (.const (.int .i64 0)) 2)] false) (.seq (.seq (.region 1 [q 11 (.mov (t 0)), q 12 (.load 24 (t 3)), q 13 (.call 0 (.func 50) [(t 11), (t 12), (.const (.int .i64 1)), (.const (.int .i64 12))]), q 6 (.asg 0 (t 13) 2)] false) (.seq (.region 2 [q 14 (.mov (t 6)), q 15 (.bin .neq 2 (t 14) (.const (.int .i64 0)))] false) (.cond (t 15) (.seq (.region 3 [q 16 (.mov (t 6)), q 4 (.asg 0 (.const (.int .i64 0)) 2), q 5 (.asg 0 (t 16) 2)] false) .ret) .skip))) (.seq (.region 4 [q 7 (.asg 0 (.const (.int .i64 1)) 2)] false) (.seq (.seq (.region 5 [q 17 (.mov (t 0)), q 18 (.load 24 (t 3)), q 19 (.call 0 (.func 52) [(t 18)]), q 20 (.call 0 (.func 54) [(t 17), (t 19)]), q 21 (.blt 0 .len [(t 20)] [68]), q 22 (.mov (.const (.int .i64 0)))] false) (.block 0 (.loop (.seq (.region 6 [q 23 (.bin .lss 3 (t 22) (t 21))] false) (.seq (.cond (t 23) .skip (.exit 0)) (.seq (.block 1 (.seq (.region 7 [q 24 (.indexAddr 68 (t 20) (t 22)), q 25 (.load 71 (t 24)), q 9 (.alloc 71), ⟨none, .store 71 (t 9) (t 25), none, []⟩] false) (.seq (.region 8 [q 26 (.mov (t 0)), q 27 (.fieldAddr 71 (t 9) 0), q 28 (.load 65 (t 27)), q 29 (.call 0 (.func 59) [(t 28)]), q 30 (.call 0 (.func 58) [(t 26), (t 29), (.const (.int .i64 1152921504606846976))]), q 10 (.asg 0 (t 30) 2)] false) (.seq (.region 9 [q 31 (.mov (t 7)), q 32 (.mov (t 10)), q 33 (.bin .sub 2 (t 32) (.const (.int .i64 1))), q 34 (.bin .mul 2 (t 31) (t 33)), q 7 (.asg 0 (t 34) 2)] false) (.seq (.region 10 [q 35 (.fieldAddr 71 (t 9) 1), q 36 (.load 2 (t 35)), q 37 (.bin .sub 2 (t 36) (.const (.int .i64 1))), q 38 (.mov (.const (.int .i64 0)))] false) (.block 2 (.loop (.seq (.region 11 [q 39 (.bin .lss 2 (t 38) (t 37))] false) (.seq (.cond (t 39) .skip (.exit 2)) (.seq (.block 3 (.region 12 [q 40 (.mov (t 7)), q 41 (.mov (t 10)), q 42 (.bin .mul 2 (t 40) (t 41)), q 7 (.asg 0 (t 42) 2)] false)) (.region 13 [q 43 (.bin .add 2 (t 38) (.const (.int .i64 1))), q 38 (.mov (t 43))] false))))))))))) (.region 14 [q 44 (.bin .add 3 (t 22) (.const (.int .i64 1))), q 22 (.mov (t 44))] false))))))) (.seq (.region 15 [q 45 (.mov (t 7)), q 4 (.asg 0 (t 45) 2), q 5 (.asg 0 (.const (.int .i64 0)) 2)] false) .ret)))))
def impl_EulerOf_L : Live := [(0, [0, 1]), (1, [0, 3]), (2, [0, 3, 6]), (3, [6]), (4, [0, 3]), (5, [0, 3, 7]), (6, [0, 7, 20, 21, 22]), (7, [0, 7, 20, 21, 22]), (8, [0, 7, 9, 20, 21, 22]), (9, [0, 7, 9, 10, 20, 21, 22]), (10, [0, 7, 9, 10, 20, 21, 22]), (11, [0, 7, 10, 20, 21, 22, 37, 38]), (12, [0, 7, 10, 20, 21, 22, 37, 38]), (13, [0, 7, 10, 20, 21, 22, 37, 38]), (14, [0, 7, 20, 21, 22]), (15, [7]), (100015, [0, 3, 6, 15]), (100023, [0, 7, 20, 21, 22, 23]), (100039, [0, 7, 10, 20, 21, 22, 37, 38, 39])]
noncomputable def impl_EulerOf_l2 (r194 : (List ((List Int) × Int))) (x254 : Int) (r352 : Int) (x360 : Int) (x361 : Int) : Option ((Int × Int) ⊕ Int) :=
  (letp ((decide (x361 < (IntKind.i64.wrap (((rd r194 x254.toNat).2) - 1))))) fun x368 => (if x368 then (some (.inl ((IntKind.i64.wrap (x360 * r352), IntKind.i64.wrap (x361 + 1))))) else (some (.inr x360))))
noncomputable def impl_EulerOf_l1 (r194 : (List ((List Int) × Int))) (a0 : Int) (x253 : Int) (x254 : Int) : Option ((Int × Int) ⊕ Int) :=
  (if (decide (x254 < (r194.length : Int))) then (Option.bind (α := Int) ((ifp (0 ≤ x254 ∧ x254 < ((r194.length : Nat) : Int)) ((Option.bind (impl_row_degree ((rd r194 x254.toNat).1)) fun r350 => (Option.bind (impl_prime_norm a0 r350 1152921504606846976) fun r352 => (loopM (fun s : (Int × Int) => impl_EulerOf_l2 r194 x254 r352 s.1 s.2) (IntKind.i64.wrap (x253 * (IntKind.i64.wrap (r352 - 1))), 0))))))) fun x342 => (some (.inl ((x342, IntKind.i64.wrap (x254 + 1)))))) else (some (.inr x253)))
noncomputable def impl_EulerOf (a0 : Int) (a1 : (Vec Int 64)) : Option (Int × Int) :=
  (Option.bind (impl_degreeCode a0 a1 1 12) fun r2 => (if (r2 != 0) then (some (0, r2)) else (Option.bind (α := Int) ((Option.bind (impl_rowOf a1) fun r192 => (Option.bind (impl_prime_factors a0 r192) fun r194 => (loopM (fun s : (Int × Int) => impl_EulerOf_l1 r194 a0 s.1 s.2) (1, 0))))) fun x187 => (some (x187, 0)))))
theorem impl_EulerOf_ok (a0 : Int) (a1 : (Vec Int 64)) (r : (Int × Int)) (h : impl_EulerOf a0 a1 = some r) : Den Try.prog 27 [(i6 a0), (eA64u8 a1)] { r := (.tuple [(i6 r.1), (i6 r.2)]) } := by
  refine den_of (rs := [(i6 r.1), (i6 r.2)]) (ac := impl_EulerOf_c) (L := impl_EulerOf_L) (n := 46) (m := []) (c := Try.f27.body.getD .skip) good Try.func27 (by kernel_rfl) (by kernel_rfl) Try.ntmps27 rfl rfl (by kernel_rfl) rfl rfl ?_
  refine a_st (σ' := ⟨[(0, (i6 a0)), (1, (eA64u8 a1))], []⟩) (by kernel_rfl) ?_
  unfold impl_EulerOf_c
  refine sr (vo 1300 (eA64u8 a1) rfl rfl (vp (i6 0) rfl (vp (i6 0) rfl (nx ⟨[(0, (i6 a0)), (3, (ow 3))], [(3, (bk (eA64u8 a1)))]⟩ (by kernel_rfl) (a_seq (sr (vp (i6 a0) rfl (vl (eA64u8 a1) rfl rfl rfl rfl rfl rfl ?_))))))))
  obtain ⟨r2, hr3, h⟩ := bind_some h
  refine a_call (args := [(i6 a0), (eA64u8 a1), (i6 1), (i6 12)]) (u := []) (r := (i6 r2)) rfl rfl (impl_degreeCode_ok a0 a1 1 12 r2 hr3) rfl (vp (i6 r2) rfl (nx ⟨[(0, (i6 a0)), (3, (ow 3)), (6, (i6 r2))], [(3, (bk (eA64u8 a1)))]⟩ (by kernel_rfl) (sr (vp (i6 r2) rfl (vp (.bool (r2 != 0)) rfl (nx ⟨[(0, (i6 a0)), (3, (ow 3)), (6, (i6 r2)), (15, (.bool (r2 != 0)))], [(3, (bk (eA64u8 a1)))]⟩ (by kernel_rfl) ?_))))))
  cases hb4 : (r2 != 0)
  · have h := ite_f hb4 h
    refine a_cond_f rfl (a_skip (a_next (σ' := ⟨[(0, (i6 a0)), (3, (ow 3))], [(3, (bk (eA64u8 a1)))]⟩) (by kernel_rfl) (sr (vp (i6 1) rfl (nx ⟨[(0, (i6 a0)), (3, (ow 3)), (7, (i6 1))], [(3, (bk (eA64u8 a1)))]⟩ (by kernel_rfl) ?_)))))
    obtain ⟨y188, hy189, hk190⟩ := bind_some h
    clear h
    refine a_join (emb := fun (s : Int) => ⟨[(7, (i6 s))], []⟩) (pre := fun s => s = y188) ?_ ?_
    · rintro x187 rfl
      have h := hk190
      refine a_st (σ' := ⟨[(7, (i6 x187))], []⟩) (by kernel_rfl) (sr (vp (i6 x187) rfl (vp (i6 x187) rfl (vp (i6 0) rfl (nx _ rfl (a_ret ?_))))))
      refine ⟨.inr rfl, ?_⟩
      rw [Try.results27]
      cases h
      exact ⟨_, _, _, _, _, rfl, trivial, .inl ⟨rfl, .inl rfl⟩, rfl, ⟨_, _, _, _, _, rfl, trivial, .inl ⟨rfl, .inl rfl⟩, rfl, rfl⟩⟩
    · have h := hy189
      refine sr (vp (i6 a0) rfl (vl (eA64u8 a1) rfl rfl rfl rfl rfl rfl ?_))
      obtain ⟨r192, hr193, h⟩ := bind_some h
      refine a_call (args := [(eA64u8 a1)]) (u := []) (r := (eSi64 r192)) rfl rfl (impl_rowOf_ok a1 r192 hr193) rfl ?_
      obtain ⟨r194, hr195, h⟩ := bind_some h
      refine a_call (args := [(i6 a0), (eSi64 r192)]) (u := []) (r := (eST_Si64_i64_Z r194)) rfl rfl (impl_prime_factors_ok a0 r192 r194 hr195) rfl (vq (i6 (r194.length : Int)) (len_run rfl rfl) trivial (vp (i6 0) rfl (nx ⟨[(0, (i6 a0)), (7, (i6 1)), (20, (eST_Si64_i64_Z r194)), (21, (i6 (r194.length : Int))), (22, (i6 0))], []⟩ (by kernel_rfl) (a_block ?_))))
      refine a_loop (emb := fun (s : (Int × Int)) => ⟨[(0, (i6 a0)), (7, (i6 s.1)), (20, (eST_Si64_i64_Z r194)), (21, (i6 (r194.length : Int))), (22, (i6 s.2))], []⟩) (body := (fun s : (Int × Int) => impl_EulerOf_l1 r194 a0 s.1 s.2)) (G := fun q => some q = some y188) h rfl ?_ (by kernel_rfl)
      rintro X312 ⟨x253, x254⟩ x313 h hX314
      have h : impl_EulerOf_l1 r194 a0 x253 x254 = some x313 := h
      refine a_st (σ' := ⟨[(0, (i6 a0)), (7, (i6 x253)), (20, (eST_Si64_i64_Z r194)), (21, (i6 (r194.length : Int))), (22, (i6 x254))], []⟩) (by kernel_rfl) (sr (vp (.bool ((decide (x254 < (r194.length : Int))))) rfl (nx ⟨[(0, (i6 a0)), (7, (i6 x253)), (20, (eST_Si64_i64_Z r194)), (21, (i6 (r194.length : Int))), (22, (i6 x254)), (23, (.bool ((decide (x254 < (r194.length : Int))))))], []⟩ (by kernel_rfl) (a_seq ?_))))
      cases hb315 : (decide (x254 < (r194.length : Int)))
      · have h := ite_f hb315 h
        refine a_cond_f rfl (a_exit (t_exit ?_))
        cases h
        have h := hX314
        refine t_exit (b_exit ?_)
        exact j_leaf x253 (Option.some.inj h) (by kernel_rfl)
      · have h := ite_t hb315 h
        refine a_cond_t rfl (a_skip (a_next (σ' := ⟨[(0, (i6 a0)), (7, (i6 x253)), (20, (eST_Si64_i64_Z r194)), (21, (i6 (r194.length : Int))), (22, (i6 x254))], []⟩) (by kernel_rfl) ?_))
        obtain ⟨y343, hy344, hk345⟩ := bind_some h
        clear h
        refine a_join (emb := fun (s : Int) => ⟨[(0, (i6 a0)), (7, (i6 s)), (20, (eST_Si64_i64_Z r194)), (21, (i6 (r194.length : Int))), (22, (i6 x254))], []⟩) (pre := fun s => s = y343) ?_ ?_
        · rintro x342 rfl
          have h := hk345
          refine a_st (σ' := ⟨[(0, (i6 a0)), (7, (i6 x342)), (20, (eST_Si64_i64_Z r194)), (21, (i6 (r194.length : Int))), (22, (i6 x254))], []⟩) (by kernel_rfl) (a_region (vp (i6 (IntKind.i64.wrap (x254 + 1))) rfl (vp (i6 (IntKind.i64.wrap (x254 + 1))) rfl (a_nil ?_))))
          cases h
          exact a_again (by kernel_rfl) hX314
        · have h := hy344
          refine a_block (sr ?_)
          obtain ⟨hc346, h⟩ := ifp_some h
          refine vq (.ref (.row 2 (r194.map eT_Si64_i64_Z)) [x254.toNat] [x254.toNat * 2]) rfl (lmap hc346) ?_
          have hl347 : LdOk [x254.toNat] (.row 2 (r194.map eT_Si64_i64_Z)) [x254.toNat * 2] 2 true (eT_Si64_i64_Z (rd r194 x254.toNat)) := (.row (llt hc346) rfl (.nil rfl rfl rfl))
          refine vq (eT_Si64_i64_Z (rd r194 x254.toNat)) (ld_ref (i := ⟨.struct [(0, 65), (1, 2)], 2, 32, (eT_Si64_i64_Z ([], (0 : Int)))⟩) rfl rfl hl347) hl347.c (vo 1900 (eT_Si64_i64_Z (([], (0 : Int)))) rfl rfl (vs (eT_Si64_i64_Z (rd r194 x254.toNat)) rfl rfl (fun _ => rfl) rfl rfl rfl rfl rfl rfl (nx ⟨[(0, (i6 a0)), (7, (i6 x253)), (9, (ow 9)), (20, (eST_Si64_i64_Z r194)), (21, (i6 (r194.length : Int))), (22, (i6 x254))], [(9, (bk (eT_Si64_i64_Z (rd r194 x254.toNat))))]⟩ (by kernel_rfl) (sr (vp (i6 a0) rfl (vb (.own 9 [0] [0]) rfl rfl ?_))))))
          have hl349 : LdOk [0] (eT_Si64_i64_Z (rd r194 x254.toNat)) [0] 1 false (eSi64 ((rd r194 x254.toNat).1)) := (.fld rfl rfl rfl rfl (.nil rfl rfl rfl))
          refine vq (eSi64 ((rd r194 x254.toNat).1)) (ld_own (i := ⟨.slice 2, 1, 24, (eSi64 [])⟩) rfl rfl rfl hl349) hl349.c ?_
          obtain ⟨r350, hr351, h⟩ := bind_some h
          refine a_call (args := [(eSi64 ((rd r194 x254.toNat).1))]) (u := []) (r := (i6 r350)) rfl rfl (impl_row_degree_ok ((rd r194 x254.toNat).1) r350 hr351) rfl ?_
          obtain ⟨r352, hr353, h⟩ := bind_some h
          refine a_call (args := [(i6 a0), (i6 r350), (i6 1152921504606846976)]) (u := []) (r := (i6 r352)) rfl rfl (impl_prime_norm_ok a0 r350 1152921504606846976 r352 hr353) rfl (vp (i6 r352) rfl (nx ⟨[(0, (i6 a0)), (7, (i6 x253)), (9, (ow 9)), (10, (i6 r352)), (20, (eST_Si64_i64_Z r194)), (21, (i6 (r194.length : Int))), (22, (i6 x254))], [(9, (bk (eT_Si64_i64_Z (rd r194 x254.toNat))))]⟩ (by kernel_rfl) (sr (vp (i6 x253) rfl (vp (i6 r352) rfl (vp (i6 (IntKind.i64.wrap (r352 - 1))) rfl (vp (i6 (IntKind.i64.wrap (x253 * (IntKind.i64.wrap (r352 - 1))))) rfl (vp (i6 (IntKind.i64.wrap (x253 * (IntKind.i64.wrap (r352 - 1))))) rfl (nx ⟨[(0, (i6 a0)), (7, (i6 (IntKind.i64.wrap (x253 * (IntKind.i64.wrap (r352 - 1)))))), (9, (ow 9)), (10, (i6 r352)), (20, (eST_Si64_i64_Z r194)), (21, (i6 (r194.length : Int))), (22, (i6 x254))], [(9, (bk (eT_Si64_i64_Z (rd r194 x254.toNat))))]⟩ (by kernel_rfl) ?_)))))))))
          refine sr (vb (.own 9 [1] [1]) rfl rfl ?_)
          have hl354 : LdOk [1] (eT_Si64_i64_Z (rd r194 x254.toNat)) [1] 1 false (i6 ((rd r194 x254.toNat).2)) := (.fld rfl rfl rfl rfl (.nil rfl rfl rfl))
          refine vq (i6 ((rd r194 x254.toNat).2)) (ld_own (i := ⟨.int .i64, 1, 8, (.int .i64 0)⟩) rfl rfl rfl hl354) hl354.c (vp (i6 (IntKind.i64.wrap (((rd r194 x254.toNat).2) - 1))) rfl (vp (i6 0) rfl (nx ⟨[(0, (i6 a0)), (7, (i6 (IntKind.i64.wrap (x253 * (IntKind.i64.wrap (r352 - 1)))))), (10, (i6 r352)), (20, (eST_Si64_i64_Z r194)), (21, (i6 (r194.length : Int))), (22, (i6 x254)), (37, (i6 (IntKind.i64.wrap (((rd r194 x254.toNat).2) - 1)))), (38, (i6 0))], []⟩ (by kernel_rfl) (a_block ?_))))
          refine a_loop (emb := fun (s : (Int × Int)) => ⟨[(0, (i6 a0)), (7, (i6 s.1)), (10, (i6 r352)), (20, (eST_Si64_i64_Z r194)), (21, (i6 (r194.length : Int))), (22, (i6 x254)), (37, (i6 (IntKind.i64.wrap (((rd r194 x254.toNat).2) - 1)))), (38, (i6 s.2))], []⟩) (body := (fun s : (Int × Int) => impl_EulerOf_l2 r194 x254 r352 s.1 s.2)) (G := fun q => some q = some y343) h rfl ?_ (by kernel_rfl)
          rintro X365 ⟨x360, x361⟩ x366 h hX367
          have h : impl_EulerOf_l2 r194 x254 r352 x360 x361 = some x366 := h
          refine a_st (σ' := ⟨[(0, (i6 a0)), (7, (i6 x360)), (10, (i6 r352)), (20, (eST_Si64_i64_Z r194)), (21, (i6 (r194.length : Int))), (22, (i6 x254)), (37, (i6 (IntKind.i64.wrap (((rd r194 x254.toNat).2) - 1)))), (38, (i6 x361))], []⟩) (by kernel_rfl) (sr ?_)
          obtain ⟨x368, hx369, h⟩ := letp_some h
          refine a_val' (v := (.bool ((decide (x361 < (IntKind.i64.wrap (((rd r194 x254.toNat).2) - 1))))))) (v' := (.bool x368)) (u := []) (u' := []) rfl (congrArg (fun z => ((.bool z) : AV)) hx369) rfl trivial rfl (nx ⟨[(0, (i6 a0)), (7, (i6 x360)), (10, (i6 r352)), (20, (eST_Si64_i64_Z r194)), (21, (i6 (r194.length : Int))), (22, (i6 x254)), (37, (i6 (IntKind.i64.wrap (((rd r194 x254.toNat).2) - 1)))), (38, (i6 x361)), (39, (.bool x368))], []⟩ (by kernel_rfl) (a_seq ?_))
          cases hb370 : x368
          · have h := ite_f hb370 h
            refine a_cond_f rfl (a_exit (t_exit ?_))
            cases h
            have h := hX367
            refine t_exit (b_exit (b_norm ?_))
            exact j_leaf x360 (Option.some.inj h) (by kernel_rfl)
          · have h := ite_t hb370 h
            refine a_cond_t rfl (a_skip (a_next (σ' := ⟨[(0, (i6 a0)), (7, (i6 x360)), (10, (i6 r352)), (20, (eST_Si64_i64_Z r194)), (21, (i6 (r194.length : Int))), (22, (i6 x254)), (37, (i6 (IntKind.i64.wrap (((rd r194 x254.toNat).2) - 1)))), (38, (i6 x361))], []⟩) (by kernel_rfl) (a_seq (a_block (a_region (vp (i6 x360) rfl (vp (i6 r352) rfl (vp (i6 (IntKind.i64.wrap (x360 * r352))) rfl (vp (i6 (IntKind.i64.wrap (x360 * r352))) rfl ?_)))))))))
            refine a_nil (b_norm (a_next (σ' := ⟨[(0, (i6 a0)), (7, (i6 (IntKind.i64.wrap (x360 * r352)))), (10, (i6 r352)), (20, (eST_Si64_i64_Z r194)), (21, (i6 (r194.length : Int))), (22, (i6 x254)), (37, (i6 (IntKind.i64.wrap (((rd r194 x254.toNat).2) - 1)))), (38, (i6 x361))], []⟩) (by kernel_rfl) (a_region (vp (i6 (IntKind.i64.wrap (x361 + 1))) rfl (vp (i6 (IntKind.i64.wrap (x361 + 1))) rfl (a_nil ?_))))))
            cases h
            exact a_again (by kernel_rfl) hX367
  · have h := ite_t hb4 h
    refine a_cond_t rfl (sr (vp (i6 r2) rfl (vp (i6 0) rfl (vp (i6 r2) rfl (nx _ rfl (a_ret (t_ret ?_)))))))
    refine ⟨.inr rfl, ?_⟩
    rw [Try.results27]
    cases h
    exact ⟨_, _, _, _, _, rfl, trivial, .inl ⟨rfl, .inl rfl⟩, rfl, ⟨_, _, _, _, _, rfl, trivial, .inl ⟨rfl, .inl rfl⟩, rfl, rfl⟩⟩
def laws_FnExactEulerOf_c : ACode := (.seq (.region 0 [q 3 (.box 22 (t 1)), q 4 (.asg 0 (.const (.bool false)) 4)] false) (.seq (.region 1 [q 10 (.mov (t 0)), q 11 (.load 22 (t 3)), q 12 (.call 0 (.func 15) [(t 11)]), q 13 (.call 0 (.func 26) [(t 10), (t 12)]), q 9 (.mov (t 13)), q 14 (.extract (t 9) 0), q 15 (.extract (t 9) 1), q 5 (.asg 0 (t 14) 2), q 6 (.asg 0 (t 15) 2)] false) (.seq (.region 2 [q 17 (.mov (t 0)), q 18 (.load 22 (t 3)), q 19 (.call 0 (.func 15) [(t 18)]), q 20 (.call 0 (.func 27) [(t 17), (t 19)]), q 16 (.mov (t 20)), q 21 (.extract (t 16) 0), q 22 (.extract (t 16) 1), q 7 (.asg 0 (t 21) 2), q 8 (.asg 0 (t 22) 2)] false) (.seq (.seq (.region 3 [q 23 (.mov (t 7)), q 24 (.mov (t 5)), q 25 (.bin .neq 2 (t 23) (t 24)), q 26 (.mov (t 25)), ⟨some 27, .mov (t 8), some (26, false), []⟩, ⟨some 28, .mov (t 6), some (26, false), []⟩, ⟨some 29, .bin .neq 2 (t 27) (t 28), some (26, false), []⟩, q 30 (.pick (t 26) (.const (.bool true)) (t 29))] false) (.cond (t 30) (.seq (.region 4 [q 4 (.asg 0 (.const (.bool false)) 4)] false) .ret) .skip)) (.seq (.region 5 [q 4 (.asg 0 (.const (.bool true)) 4)] false) .ret)))))
def laws_FnExactEulerOf_L : Live := [(0, [0, 1]), (1, [0, 3]), (2, [0, 3, 5, 6]), (3, [5, 6, 7, 8]), (4, []), (5, []), (100030, [30])]
noncomputable def laws_FnExactEulerOf (a0 : Int) (a1 : (Vec Int 64)) : Option Bool :=
  (Option.bind (laws_toPoly a1) fun r2 => (Option.bind (spec_EulerOf a0 r2) fun r4 => (Option.bind (laws_toPoly a1) fun r7 => (Option.bind (impl_EulerOf a0 r7) fun r9 => (Option.bind (α := Bool) ((if (r9.1 != r4.1) then (some true) else (some (r9.2 != r4.2)))) fun x12 => (if x12 then (some false) else (some true)))))))
theorem laws_FnExactEulerOf_ok (a0 : Int) (a1 : (Vec Int 64)) (r : Bool) (h : laws_FnExactEulerOf a0 a1 = some r) : Den Try.prog 7 [(i6 a0), (eA64u8 a1)] { r := (.bool r) } := by
  refine den_of (rs := [(.bool r)]) (ac := laws_FnExactEulerOf_c) (L := laws_FnExactEulerOf_L) (n := 31) (m := []) (c := Try.f7.body.getD .skip) good Try.func7 (by kernel_rfl) (by kernel_rfl) Try.ntmps7 rfl rfl (by kernel_rfl) rfl rfl ?_
  refine a_st (σ' := ⟨[(0, (i6 a0)), (1, (eA64u8 a1))], []⟩) (by kernel_rfl) ?_
  unfold laws_FnExactEulerOf_c
  refine sr (vo 1300 (eA64u8 a1) rfl rfl (vp (.bool false) rfl (nx ⟨[(0, (i6 a0)), (3, (ow 3))], [(3, (bk (eA64u8 a1)))]⟩ (by kernel_rfl) (sr (vp (i6 a0) rfl (vl (eA64u8 a1) rfl rfl rfl rfl rfl rfl ?_))))))
  obtain ⟨r2, hr3, h⟩ := bind_some h
  refine a_call (args := [(eA64u8 a1)]) (u := []) (r := (eA64u8 r2)) rfl rfl (laws_toPoly_ok a1 r2 hr3) rfl ?_
  obtain ⟨r4, hr5, h⟩ := bind_some h
  refine a_call (args := [(i6 a0), (eA64u8 r2)]) (u := []) (r := (.tuple [(i6 r4.1), (i6 r4.2)])) rfl rfl (spec_EulerOf_ok a0 r2 r4 hr5) rfl (vp (.tuple [(i6 r4.1), (i6 r4.2)]) rfl (vb (i6 r4.1) rfl rfl (vb (i6 r4.2) rfl rfl (vp (i6 r4.1) rfl (vp (i6 r4.2) rfl (nx ⟨[(0, (i6 a0)), (3, (ow 3)), (5, (i6 r4.1)), (6, (i6 r4.2))], [(3, (bk (eA64u8 a1)))]⟩ (by kernel_rfl) (sr (vp (i6 a0) rfl (vl (eA64u8 a1) rfl rfl rfl rfl rfl rfl ?_)))))))))
  obtain ⟨r7, hr8, h⟩ := bind_some h
  refine a_call (args := [(eA64u8 a1)]) (u := []) (r := (eA64u8 r7)) rfl rfl (laws_toPoly_ok a1 r7 hr8) rfl ?_
  obtain ⟨r9, hr10, h⟩ := bind_some h
  refine a_call (args := [(i6 a0), (eA64u8 r7)]) (u := []) (r := (.tuple [(i6 r9.1), (i6 r9.2)])) rfl rfl (impl_EulerOf_ok a0 r7 r9 hr10) rfl (vp (.tuple [(i6 r9.1), (i6 r9.2)]) rfl (vb (i6 r9.1) rfl rfl (vb (i6 r9.2) rfl rfl (vp (i6 r9.1) rfl (vp (i6 r9.2) rfl (nx ⟨[(5, (i6 r4.1)), (6, (i6 r4.2)), (7, (i6 r9.1)), (8, (i6 r9.2))], []⟩ (by kernel_rfl) (a_seq ?_)))))))
  obtain ⟨y13, hy14, hk15⟩ := bind_some h
  clear h
  refine a_join (emb := fun (s : Bool) => ⟨[(30, (.bool s))], []⟩) (pre := fun s => s = y13) ?_ ?_
  · rintro x12 rfl
    have h := hk15
    refine a_st (σ' := ⟨[(30, (.bool x12))], []⟩) (by kernel_rfl) ?_
    cases hb17 : x12
    · have h := ite_f hb17 h
      refine a_cond_f rfl (a_skip (a_next (σ' := ⟨[], []⟩) (by kernel_rfl) (sr (vp (.bool true) rfl (nx _ rfl (a_ret ?_))))))
      refine ⟨.inr rfl, ?_⟩
      rw [Try.results7]
      cases h
      exact ⟨_, _, _, _, _, rfl, trivial, .inl ⟨rfl, .inl rfl⟩, rfl, rfl⟩
    · have h := ite_t hb17 h
      refine a_cond_t rfl (sr (vp (.bool false) rfl (nx _ rfl (a_ret (t_ret ?_)))))
      refine ⟨.inr rfl, ?_⟩
      rw [Try.results7]
      cases h
      exact ⟨_, _, _, _, _, rfl, trivial, .inl ⟨rfl, .inl rfl⟩, rfl, rfl⟩
  · have h := hy14
    refine a_region (vp (i6 r9.1) rfl (vp (i6 r4.1) rfl (vp (.bool (r9.1 != r4.1)) rfl (vp (.bool (r9.1 != r4.1)) rfl ?_))))
    cases hb16 : (r9.1 != r4.1)
    · have h := ite_f hb16 h
      refine gp (i6 r9.2) rfl rfl (gp (i6 r4.2) rfl rfl (gp (.bool (r9.2 != r4.2)) rfl rfl (vp (.bool (r9.2 != r4.2)) rfl (a_nil ?_))))
      exact j_leaf (r9.2 != r4.2) (Option.some.inj h) (by kernel_rfl)
    · have h := ite_t hb16 h
      refine a_gskip rfl (a_gskip rfl (a_gskip rfl (vp (.bool true) rfl (a_nil ?_))))
      exact j_leaf true (Option.some.inj h) (by kernel_rfl)
def spec_l01One_c : ACode := (.seq (.region 0 [q 0 (.alloc 24)] false) (.seq (.region 1 [q 1 (.build 24 [(0, (.const (.int .u8 1)))]), ⟨none, .store 24 (t 0) (t 1), none, []⟩] false) .ret))
def spec_l01One_L : Live := [(0, []), (1, [0])]
noncomputable def spec_l01One  : Option (Vec Int 64) :=
  (some ((vset (vrep 64 (0 : Int)) 0 1)))
theorem spec_l01One_ok  (r : (Vec Int 64)) (h : spec_l01One = some r) : Den Try.prog 123 [] { r := (eA64u8 r) } := by
  refine den_of (rs := [(eA64u8 r)]) (ac := spec_l01One_c) (L := spec_l01One_L) (n := 2) (m := []) (c := Try.f123.body.getD .skip) good Try.func123 (by kernel_rfl) (by kernel_rfl) Try.ntmps123 rfl rfl (by kernel_rfl) rfl rfl ?_
  refine a_st (σ' := ⟨[], []⟩) (by kernel_rfl) ?_
  unfold spec_l01One_c
  refine sr (vo 1000 (eA64u8 ((vrep 64 (0 : Int)))) rfl rfl (nx ⟨[(0, (ow 0))], [(0, (bk (eA64u8 ((vrep 64 (0 : Int))))))]⟩ (by kernel_rfl) (sr (vq (eA64u8 ((vset (vrep 64 (0 : Int)) 0 1))) rfl ⟨⟨_, rfl, rfl⟩, (all_cons ⟨(Nat.le_of_ble_eq_true rfl), rfl⟩ all_nil)⟩ (vs (eA64u8 ((vset (vrep 64 (0 : Int)) 0 1))) rfl rfl (fun _ => rfl) rfl rfl rfl rfl rfl rfl (nx _ rfl (a_ret ?_)))))))
  have hl2 : LdOk [] (eA64u8 ((vset (vrep 64 (0 : Int)) 0 1))) [] 64 true (eA64u8 ((vset (vrep 64 (0 : Int)) 0 1))) := (.nil rfl rfl rfl)
  refine ⟨.inr rfl, ?_⟩
  rw [Try.results123]
  cases h
  exact ⟨_, _, _, _, _, ld_own (i := ⟨.arr 64 5, 64, 64, (eA64u8 (vrep 64 (0 : Int)))⟩) rfl rfl rfl hl2, hl2.c, .inl ⟨rfl, .inl rfl⟩, rfl, rfl⟩
def spec_l01Times_c : ACode := (.seq (.region 0 [q 4 (.box 24 (t 1)), q 5 (.box 24 (t 2)), q 6 (.alloc 24), q 7 (.asg 0 (.const (.bool false)) 4)] false) (.seq (.region 1 [q 13 (.load 24 (t 4)), ⟨some 14, .call 0 (.func 81) [(t 13)], none, [0]⟩, q 15 (.load 24 (t 5)), ⟨some 16, .call 0 (.func 81) [(t 15)], none, [2, 1]⟩, q 17 (.build 24 []), q 10 (.alloc 24), ⟨some 8, .asg 0 (t 14) 2, none, [1, 3, 0, 1, 5]⟩, ⟨some 9, .asg 0 (t 16) 2, none, [3, 6, 0, 1, 2, 3, 5, 6]⟩, ⟨none, .store 24 (t 10) (t 17), none, [5, 4, 7, 0, 1, 2, 3, 4, 5, 6, 7]⟩] true) (.seq (.seq (.region 2 [q 18 (.mov (t 8)), q 19 (.bin .lss 2 (t 18) (.const (.int .i64 0))), q 20 (.mov (t 19)), ⟨some 21, .mov (t 9), some (20, false), []⟩, ⟨some 22, .bin .lss 2 (t 21) (.const (.int .i64 0)), some (20, false), []⟩, q 23 (.pick (t 20) (.const (.bool true)) (t 22))] false) (.cond (t 23) (.seq (.region 3 [q 24 (.load 24 (t 10)), ⟨none, .store 24 (t 6) (t 24), none, []⟩, q 7 (.asg 0 (.const (.bool true)) 4)] false) .ret) .skip)) (.seq (.seq (.region 4 [q 25 (.mov (t 8)), q 26 (.mov (t 9)), q 27 (.bin .add 2 (t 25) (t 26)), q 28 (.bin .gtr 2 (t 27) (.const (.int .i64 63)))] false) (.cond (t 28) (.seq (.region 5 [q 29 (.load 24 (t 10)), ⟨none, .store 24 (t 6) (t 29), none, []⟩, q 7 (.asg 0 (.const (.bool false)) 4)] false) .ret) .skip)) (.seq (.seq (.region 6 [q 11 (.asg 0 (.const (.int .i64 0)) 2)] false) (.block 0 (.loop (.seq (.seq (.region 7 [q 30 (.mov (t 11)), q 31 (.mov (t 8)), q 32 (.bin .leq 2 (t 30) (t 31))] false) (.cond (t 32) .skip (.exit 0))) (.seq (.block 1 (.seq (.region 9 [q 12 (.asg 0 (.const (.int .i64 0)) 2)] false) (.block 2 (.loop (.seq (.seq (.region 10 [q 35 (.mov (t 12)), q 36 (.mov (t 9)), q 37 (.bin .leq 2 (t 35) (t 36)), q 38 (.mov (t 37)), ⟨some 39, .mov (t 11), some (38, true), []⟩, ⟨some 40, .indexAddr 24 (t 4) (t 39), some (38, true), []⟩, ⟨some 41, .load 5 (t 40), some (38, true), []⟩, ⟨some 42, .bin .neq 5 (t 41) (.const (.int .u8 0)), some (38, true), []⟩, q 43 (.pick (t 38) (t 42) (.const (.bool false)))] false) (.cond (t 43) .skip (.exit 2))) (.seq (.block 3 (.region 12 [q 46 (.mov (t 11)), q 47 (.mov (t 12)), ⟨some 48, .bin .add 2 (t 46) (t 47), none, [0, 1]⟩, q 49 (.mov (t 11)), q 50 (.mov (t 12)), ⟨some 51, .bin .add 2 (t 49) (t 50), none, [3, 4]⟩, ⟨some 52, .indexAddr 24 (t 10) (t 51), none, [5]⟩, ⟨some 53, .load 5 (t 52), none, [6]⟩, ⟨some 54, .conv 5 2 (t 53), none, [7]⟩, q 55 (.mov (t 11)), ⟨some 56, .indexAddr 24 (t 4) (t 55), none, [9]⟩, ⟨some 57, .load 5 (t 56), none, [10]⟩, ⟨some 58, .conv 5 2 (t 57), none, [11]⟩, q 59 (.mov (t 12)), ⟨some 60, .indexAddr 24 (t 5) (t 59), none, [13]⟩, ⟨some 61, .load 5 (t 60), none, [14]⟩, ⟨some 62, .conv 5 2 (t 61), none, [15]⟩, ⟨some 63, .bin .mul 2 (t 58) (t 62), none, [12, 16]⟩, ⟨some 64, .bin .add 2 (t 54) (t 63), none, [8, 17]⟩, q 65 (.mov (t 0)), ⟨some 66, .bin .rem 2 (t 64) (t 65), none, [18, 19]⟩, ⟨some 67, .conv 2 5 (t 66), none, [20]⟩, ⟨some 68, .indexAddr 24 (t 10) (t 48), none, [2, 0, 1, 2, 3, 4, 5, 6, 7, 8, 9, 10, 11, 12, 13, 14, 15, 16, 17, 18, 19, 20, 21]⟩, ⟨none, .store 5 (t 68) (t 67), none, [22, 21, 0, 1, 2, 3, 4, 5, 6, 7, 8, 9, 10, 11, 12, 13, 14, 15, 16, 17, 18, 19, 20, 21]⟩] true)) (.region 11 [q 44 (.mov (t 12)), q 45 (.bin .add 2 (t 44) (.const (.int .i64 1))), q 12 (.asg 0 (t 45) 2)] false))))))) (.region 8 [q 33 (.mov (t 11)), q 34 (.bin .add 2 (t 33) (.const (.int .i64 1))), q 11 (.asg 0 (t 34) 2)] false)))))) (.seq (.region 13 [q 69 (.load 24 (t 10)), ⟨none, .store 24 (t 6) (t 69), none, []⟩, q 7 (.asg 0 (.const (.bool true)) 4)] false) .ret))))))
def spec_l01Times_L : Live := [(0, [0, 1, 2]), (1, [0, 4, 5, 6]), (2, [0, 4, 5, 6, 8, 9, 10]), (3, [6, 10]), (4, [0, 4, 5, 6, 8, 9, 10]), (5, [6, 10]), (6, [0, 4, 5, 6, 8, 9, 10]), (7, [0, 4, 5, 6, 8, 9, 10, 11]), (8, [0, 4, 5, 6, 8, 9, 10, 11]), (9, [0, 4, 5, 6, 8, 9, 10, 11]), (10, [0, 4, 5, 6, 8, 9, 10, 11, 12]), (11, [0, 4, 5, 6, 8, 9, 10, 11, 12]), (12, [0, 4, 5, 6, 8, 9, 10, 11, 12]), (13, [6, 10]), (100023, [0, 4, 5, 6, 8, 9, 10, 23]), (100028, [0, 4, 5, 6, 8, 9, 10, 28]), (100032, [0, 4, 5, 6, 8, 9, 10, 11, 32]), (100043, [0, 4, 5, 6, 8, 9, 10, 11, 12, 43])]
noncomputable def spec_l01Times_l2 (r12 : Int) (x1081 : Int) (a1 : (Vec Int 64)) (a2 : (Vec Int 64)) (a0 : Int) (x1524 : Int) (x1525 : (Vec Int 64)) : Option ((Int × (Vec Int 64)) ⊕ (Vec Int 64)) :=
  (Option.bind (α := Bool) ((if (decide (x1524 ≤ r12)) then (ifp (0 ≤ x1081 ∧ x1081 < ((64 : Nat) : Int)) ((some (((rd a1.1 x1081.toNat) != 0))))) else (some false))) fun x1573 => (if x1573 then (ifp (0 ≤ IntKind.i64.wrap (x1081 + x1524) ∧ IntKind.i64.wrap (x1081 + x1524) < ((64 : Nat) : Int)) ((letp (IntKind.i64.wrap ((rd x1525.1 (IntKind.i64.wrap (x1081 + x1524)).toNat))) fun x1598 => (ifp (0 ≤ x1081 ∧ x1081 < ((64 : Nat) : Int)) ((ifp (0 ≤ x1524 ∧ x1524 < ((64 : Nat) : Int)) ((letp (IntKind.i64.wrap ((IntKind.i64.wrap (rd a1.1 x1081.toNat)) * (IntKind.i64.wrap (rd a2.1 x1524.toNat)))) fun x1604 => (ifp (a0 ≠ 0) ((letp (IntKind.u8.wrap (Int.tmod (IntKind.i64.wrap (x1598 + x1604)) a0)) fun x1607 => (ifp (0 ≤ IntKind.i64.wrap (x1081 + x1524) ∧ IntKind.i64.wrap (x1081 + x1524) < ((64 : Nat) : Int)) ((some (.inl ((IntKind.i64.wrap (x1524 + 1), (vset x1525 (IntKind.i64.wrap (x1081 + x1524)).toNat x1607)))))))))))))))))) else (some (.inr x1525))))
noncomputable def spec_l01Times_l1 (r9 : Int) (r12 : Int) (a1 : (Vec Int 64)) (a2 : (Vec Int 64)) (a0 : Int) (x1081 : Int) (x1082 : (Vec Int 64)) : Option ((Int × (Vec Int 64)) ⊕ (Vec Int 64)) :=
  (if (decide (x1081 ≤ r9)) then (Option.bind (α := (Vec Int 64)) ((loopM (fun s : (Int × (Vec Int 64)) => spec_l01Times_l2 r12 x1081 a1 a2 a0 s.1 s.2) (0, x1082))) fun x1479 => (some (.inl ((IntKind.i64.wrap (x1081 + 1), x1479))))) else (some (.inr x1082)))
noncomputable def spec_l01Times (a0 : Int) (a1 : (Vec Int 64)) (a2 : (Vec Int 64)) : Option ((Vec Int 64) × Bool) :=
  (Option.bind (spec_l01Deg a1) fun r9 => (Option.bind (spec_l01Deg a2) fun r12 => (Option.bind (α := Bool) ((if (decide (r9 < 0)) then (some true) else (some ((decide (r12 < 0)))))) fun x16 => (if x16 then (some (((vrep 64 (0 : Int)), true))) else (if (decide ((IntKind.i64.wrap (r9 + r12)) > 63)) then (some (((vrep 64 (0 : Int)), false))) else (Option.bind (α := (Vec Int 64)) ((loopM (fun s : (Int × (Vec Int 64)) => spec_l01Times_l1 r9 r12 a1 a2 a0 s.1 s.2) (0, (vrep 64 (0 : Int))))) fun x814 => (some (x814, true))))))))
theorem spec_l01Times_ok (a0 : Int) (a1 : (Vec Int 64)) (a2 : (Vec Int 64)) (r : ((Vec Int 64) × Bool)) (h : spec_l01Times a0 a1 a2 = some r) : Den Try.prog 151 [(i6 a0), (eA64u8 a1), (eA64u8 a2)] { r := (.tuple [(eA64u8 r.1), (.bool r.2)]) } := by
  refine den_of (rs := [(eA64u8 r.1), (.bool r.2)]) (ac := spec_l01Times_c) (L := spec_l01Times_L) (n := 70) (m := []) (c := Try.f151.body.getD .skip) good Try.func151 (by kernel_rfl) (by kernel_rfl) Try.ntmps151 rfl rfl (by kernel_rfl) rfl rfl ?_
  refine a_st (σ' := ⟨[(0, (i6 a0)), (1, (eA64u8 a1)), (2, (eA64u8 a2))], []⟩) (by kernel_rfl) ?_
  unfold spec_l01Times_c
  refine sr (vo 1400 (eA64u8 a1) rfl rfl (vo 1500 (eA64u8 a2) rfl rfl (vo 1600 (eA64u8 ((vrep 64 (0 : Int)))) rfl rfl (vp (.bool false) rfl (nx ⟨[(0, (i6 a0)), (4, (ow 4)), (5, (ow 5)), (6, (ow 6))], [(4, (bk (eA64u8 a1))), (5, (bk (eA64u8 a2))), (6, (bk (eA64u8 ((vrep 64 (0 : Int))))))]⟩ (by kernel_rfl) (a_seq (a_draw [⟨[4], [], [], []⟩, ⟨[], [], [], [0]⟩, ⟨[5], [], [], []⟩, ⟨[], [], [], [0, 1, 2]⟩, ⟨[], [], [], []⟩, ⟨[2000], [2000], [2000], []⟩, ⟨[], [], [], [0, 1, 2, 3, 5]⟩, ⟨[], [], [], [0, 1, 2, 3, 5, 6]⟩, ⟨[2000], [2000], [], [0, 1, 2, 3, 4, 5, 6, 7]⟩] (by kernel_rfl) (d_cons (vl (eA64u8 a1) rfl rfl rfl rfl rfl rfl ?_)))))))))
  refine d_next (by kernel_rfl) (d_cons ?_)
  obtain ⟨r9, hr10, h⟩ := bind_some h
  refine a_call (args := [(eA64u8 a1)]) (u := []) (r := (i6 r9)) rfl rfl (spec_l01Deg_ok a1 r9 hr10) rfl (d_next (by kernel_rfl) (d_cons (vl (eA64u8 a2) rfl rfl rfl rfl rfl rfl (d_next (by kernel_rfl) (d_cons ?_)))))
  obtain ⟨r12, hr13, h⟩ := bind_some h
  refine a_call (args := [(eA64u8 a2)]) (u := []) (r := (i6 r12)) rfl rfl (spec_l01Deg_ok a2 r12 hr13) rfl (d_next (by kernel_rfl) (d_cons (vq (eA64u8 ((vrep 64 (0 : Int)))) rfl ⟨⟨_, rfl, rfl⟩, all_nil⟩ (d_next (by kernel_rfl) (d_cons (vo 2000 (eA64u8 ((vrep 64 (0 : Int)))) rfl rfl (d_next (by kernel_rfl) (dp (i6 r9) rfl (by kernel_rfl) (dp (i6 r12) rfl (by kernel_rfl) ?_)))))))))
  refine d_cons (vs (eA64u8 ((vrep 64 (0 : Int)))) rfl rfl (fun _ => rfl) rfl rfl rfl rfl rfl rfl (d_next (by kernel_rfl) (d_nil (a_next (σ' := ⟨[(0, (i6 a0)), (4, (ow 4)), (5, (ow 5)), (6, (ow 6)), (8, (i6 r9)), (9, (i6 r12)), (10, (ow 10))], [(4, (bk (eA64u8 a1))), (5, (bk (eA64u8 a2))), (6, (bk (eA64u8 ((vrep 64 (0 : Int)))))), (10, (bk (eA64u8 ((vrep 64 (0 : Int))))))]⟩) (by kernel_rfl) (a_seq ?_)))))
  obtain ⟨y17, hy18, hk19⟩ := bind_some h
  clear h
  refine a_join (emb := fun (s : Bool) => ⟨[(0, (i6 a0)), (4, (ow 4)), (5, (ow 5)), (6, (ow 6)), (8, (i6 r9)), (9, (i6 r12)), (10, (ow 10)), (23, (.bool s))], [(4, (bk (eA64u8 a1))), (5, (bk (eA64u8 a2))), (6, (bk (eA64u8 ((vrep 64 (0 : Int)))))), (10, (bk (eA64u8 ((vrep 64 (0 : Int))))))]⟩) (pre := fun s => s = y17) ?_ ?_
  · rintro x16 rfl
    have h := hk19
    refine a_st (σ' := ⟨[(0, (i6 a0)), (4, (ow 4)), (5, (ow 5)), (6, (ow 6)), (8, (i6 r9)), (9, (i6 r12)), (10, (ow 10)), (23, (.bool x16))], [(4, (bk (eA64u8 a1))), (5, (bk (eA64u8 a2))), (6, (bk (eA64u8 ((vrep 64 (0 : Int)))))), (10, (bk (eA64u8 ((vrep 64 (0 : Int))))))]⟩) (by kernel_rfl) ?_
    cases hb21 : x16
    · have h := ite_f hb21 h
      refine a_cond_f rfl (a_skip (a_next (σ' := ⟨[(0, (i6 a0)), (4, (ow 4)), (5, (ow 5)), (6, (ow 6)), (8, (i6 r9)), (9, (i6 r12)), (10, (ow 10))], [(4, (bk (eA64u8 a1))), (5, (bk (eA64u8 a2))), (6, (bk (eA64u8 ((vrep 64 (0 : Int)))))), (10, (bk (eA64u8 ((vrep 64 (0 : Int))))))]⟩) (by kernel_rfl) (a_seq (sr (vp (i6 r9) rfl (vp (i6 r12) rfl (vp (i6 (IntKind.i64.wrap (r9 + r12))) rfl (vp (.bool ((decide ((IntKind.i64.wrap (r9 + r12)) > 63)))) rfl (nx ⟨[(0, (i6 a0)), (4, (ow 4)), (5, (ow 5)), (6, (ow 6)), (8, (i6 r9)), (9, (i6 r12)), (10, (ow 10)), (28, (.bool ((decide ((IntKind.i64.wrap (r9 + r12)) > 63)))))], [(4, (bk (eA64u8 a1))), (5, (bk (eA64u8 a2))), (6, (bk (eA64u8 ((vrep 64 (0 : Int)))))), (10, (bk (eA64u8 ((vrep 64 (0 : Int))))))]⟩ (by kernel_rfl) ?_)))))))))
      cases hb22 : (decide ((IntKind.i64.wrap (r9 + r12)) > 63))
      · have h := ite_f hb22 h
        refine a_cond_f rfl (a_skip (a_next (σ' := ⟨[(0, (i6 a0)), (4, (ow 4)), (5, (ow 5)), (6, (ow 6)), (8, (i6 r9)), (9, (i6 r12)), (10, (ow 10))], [(4, (bk (eA64u8 a1))), (5, (bk (eA64u8 a2))), (6, (bk (eA64u8 ((vrep 64 (0 : Int)))))), (10, (bk (eA64u8 ((vrep 64 (0 : Int))))))]⟩) (by kernel_rfl) ?_))
        obtain ⟨y815, hy816, hk817⟩ := bind_some h
        clear h
        refine a_join (emb := fun (s : (Vec Int 64)) => ⟨[(6, (ow 6)), (10, (ow 10))], [(6, (bk (eA64u8 ((vrep 64 (0 : Int)))))), (10, (bk (eA64u8 s)))]⟩) (pre := fun s => s = y815) ?_ ?_
        · rintro x814 rfl
          have h := hk817
          refine a_st (σ' := ⟨[(6, (ow 6)), (10, (ow 10))], [(6, (bk (eA64u8 ((vrep 64 (0 : Int)))))), (10, (bk (eA64u8 x814)))]⟩) (by kernel_rfl) (sr (vl (eA64u8 x814) rfl rfl rfl rfl rfl rfl (vs (eA64u8 x814) rfl rfl (fun _ => rfl) rfl rfl rfl rfl rfl rfl (vp (.bool true) rfl (nx _ rfl (a_ret ?_))))))
          have hl1615 : LdOk [] (eA64u8 x814) [] 64 true (eA64u8 x814) := (.nil rfl rfl rfl)
          refine ⟨.inr rfl, ?_⟩
          rw [Try.results151]
          cases h
          exact ⟨_, _, _, _, _, ld_own (i := ⟨.arr 64 5, 64, 64, (eA64u8 (vrep 64 (0 : Int)))⟩) rfl rfl rfl hl1615, hl1615.c, .inl ⟨rfl, .inl rfl⟩, rfl, ⟨_, _, _, _, _, rfl, trivial, .inl ⟨rfl, .inl rfl⟩, rfl, rfl⟩⟩
        · have h := hy816
          refine sr (vp (i6 0) rfl (nx ⟨[(0, (i6 a0)), (4, (ow 4)), (5, (ow 5)), (6, (ow 6)), (8, (i6 r9)), (9, (i6 r12)), (10, (ow 10)), (11, (i6 0))], [(4, (bk (eA64u8 a1))), (5, (bk (eA64u8 a2))), (6, (bk (eA64u8 ((vrep 64 (0 : Int)))))), (10, (bk (eA64u8 ((vrep 64 (0 : Int))))))]⟩ (by kernel_rfl) (a_block ?_)))
          refine a_loop (emb := fun (s : (Int × (Vec Int 64))) => ⟨[(0, (i6 a0)), (4, (ow 4)), (5, (ow 5)), (6, (ow 6)), (8, (i6 r9)), (9, (i6 r12)), (10, (ow 10)), (11, (i6 s.1))], [(4, (bk (eA64u8 a1))), (5, (bk (eA64u8 a2))), (6, (bk (eA64u8 ((vrep 64 (0 : Int)))))), (10, (bk (eA64u8 s.2)))]⟩) (body := (fun s : (Int × (Vec Int 64)) => spec_l01Times_l1 r9 r12 a1 a2 a0 s.1 s.2)) (G := fun q => some q = some y815) h rfl ?_ (by kernel_rfl)
          rintro X1346 ⟨x1081, x1082⟩ x1347 h hX1348
          have h : spec_l01Times_l1 r9 r12 a1 a2 a0 x1081 x1082 = some x1347 := h
          refine a_st (σ' := ⟨[(0, (i6 a0)), (4, (ow 4)), (5, (ow 5)), (6, (ow 6)), (8, (i6 r9)), (9, (i6 r12)), (10, (ow 10)), (11, (i6 x1081))], [(4, (bk (eA64u8 a1))), (5, (bk (eA64u8 a2))), (6, (bk (eA64u8 ((vrep 64 (0 : Int)))))), (10, (bk (eA64u8 x1082)))]⟩) (by kernel_rfl) (a_seq (sr (vp (i6 x1081) rfl (vp (i6 r9) rfl (vp (.bool ((decide (x1081 ≤ r9)))) rfl (nx ⟨[(0, (i6 a0)), (4, (ow 4)), (5, (ow 5)), (6, (ow 6)), (8, (i6 r9)), (9, (i6 r12)), (10, (ow 10)), (11, (i6 x1081)), (32, (.bool ((decide (x1081 ≤ r9)))))], [(4, (bk (eA64u8 a1))), (5, (bk (eA64u8 a2))), (6, (bk (eA64u8 ((vrep 64 (0 : Int)))))), (10, (bk (eA64u8 x1082)))]⟩ (by kernel_rfl) ?_))))))
          cases hb1349 : (decide (x1081 ≤ r9))
          · have h := ite_f hb1349 h
            refine a_cond_f rfl (a_exit (t_exit ?_))
            cases h
            have h := hX1348
            refine t_exit (b_exit ?_)
            exact j_leaf x1082 (Option.some.inj h) (by kernel_rfl)
          · have h := ite_t hb1349 h
            refine a_cond_t rfl (a_skip (a_next (σ' := ⟨[(0, (i6 a0)), (4, (ow 4)), (5, (ow 5)), (6, (ow 6)), (8, (i6 r9)), (9, (i6 r12)), (10, (ow 10)), (11, (i6 x1081))], [(4, (bk (eA64u8 a1))), (5, (bk (eA64u8 a2))), (6, (bk (eA64u8 ((vrep 64 (0 : Int)))))), (10, (bk (eA64u8 x1082)))]⟩) (by kernel_rfl) ?_))
            obtain ⟨y1480, hy1481, hk1482⟩ := bind_some h
            clear h
            refine a_join (emb := fun (s : (Vec Int 64)) => ⟨[(0, (i6 a0)), (4, (ow 4)), (5, (ow 5)), (6, (ow 6)), (8, (i6 r9)), (9, (i6 r12)), (10, (ow 10)), (11, (i6 x1081))], [(4, (bk (eA64u8 a1))), (5, (bk (eA64u8 a2))), (6, (bk (eA64u8 ((vrep 64 (0 : Int)))))), (10, (bk (eA64u8 s)))]⟩) (pre := fun s => s = y1480) ?_ ?_
            · rintro x1479 rfl
              have h := hk1482
              refine a_st (σ' := ⟨[(0, (i6 a0)), (4, (ow 4)), (5, (ow 5)), (6, (ow 6)), (8, (i6 r9)), (9, (i6 r12)), (10, (ow 10)), (11, (i6 x1081))], [(4, (bk (eA64u8 a1))), (5, (bk (eA64u8 a2))), (6, (bk (eA64u8 ((vrep 64 (0 : Int)))))), (10, (bk (eA64u8 x1479)))]⟩) (by kernel_rfl) (a_region (vp (i6 x1081) rfl (vp (i6 (IntKind.i64.wrap (x1081 + 1))) rfl (vp (i6 (IntKind.i64.wrap (x1081 + 1))) rfl (a_nil ?_)))))
              cases h
              exact a_again (by kernel_rfl) hX1348
            · have h := hy1481
              refine a_block (sr (vp (i6 0) rfl (nx ⟨[(0, (i6 a0)), (4, (ow 4)), (5, (ow 5)), (6, (ow 6)), (8, (i6 r9)), (9, (i6 r12)), (10, (ow 10)), (11, (i6 x1081)), (12, (i6 0))], [(4, (bk (eA64u8 a1))), (5, (bk (eA64u8 a2))), (6, (bk (eA64u8 ((vrep 64 (0 : Int)))))), (10, (bk (eA64u8 x1082)))]⟩ (by kernel_rfl) (a_block ?_))))
              refine a_loop (emb := fun (s : (Int × (Vec Int 64))) => ⟨[(0, (i6 a0)), (4, (ow 4)), (5, (ow 5)), (6, (ow 6)), (8, (i6 r9)), (9, (i6 r12)), (10, (ow 10)), (11, (i6 x1081)), (12, (i6 s.1))], [(4, (bk (eA64u8 a1))), (5, (bk (eA64u8 a2))), (6, (bk (eA64u8 ((vrep 64 (0 : Int)))))), (10, (bk (eA64u8 s.2)))]⟩) (body := (fun s : (Int × (Vec Int 64)) => spec_l01Times_l2 r12 x1081 a1 a2 a0 s.1 s.2)) (G := fun q => some q = some y1480) h rfl ?_ (by kernel_rfl)
              rintro X1567 ⟨x1524, x1525⟩ x1568 h hX1569
              have h : spec_l01Times_l2 r12 x1081 a1 a2 a0 x1524 x1525 = some x1568 := h
              refine a_st (σ' := ⟨[(0, (i6 a0)), (4, (ow 4)), (5, (ow 5)), (6, (ow 6)), (8, (i6 r9)), (9, (i6 r12)), (10, (ow 10)), (11, (i6 x1081)), (12, (i6 x1524))], [(4, (bk (eA64u8 a1))), (5, (bk (eA64u8 a2))), (6, (bk (eA64u8 ((vrep 64 (0 : Int)))))), (10, (bk (eA64u8 x1525)))]⟩) (by kernel_rfl) (a_seq ?_)
              obtain ⟨y1574, hy1575, hk1576⟩ := bind_some h
              clear h
              refine a_join (emb := fun (s : Bool) => ⟨[(0, (i6 a0)), (4, (ow 4)), (5, (ow 5)), (6, (ow 6)), (8, (i6 r9)), (9, (i6 r12)), (10, (ow 10)), (11, (i6 x1081)), (12, (i6 x1524)), (43, (.bool s))], [(4, (bk (eA64u8 a1))), (5, (bk (eA64u8 a2))), (6, (bk (eA64u8 ((vrep 64 (0 : Int)))))), (10, (bk (eA64u8 x1525)))]⟩) (pre := fun s => s = y1574) ?_ ?_
              · rintro x1573 rfl
                have h := hk1576
                refine a_st (σ' := ⟨[(0, (i6 a0)), (4, (ow 4)), (5, (ow 5)), (6, (ow 6)), (8, (i6 r9)), (9, (i6 r12)), (10, (ow 10)), (11, (i6 x1081)), (12, (i6 x1524)), (43, (.bool x1573))], [(4, (bk (eA64u8 a1))), (5, (bk (eA64u8 a2))), (6, (bk (eA64u8 ((vrep 64 (0 : Int)))))), (10, (bk (eA64u8 x1525)))]⟩) (by kernel_rfl) ?_
                cases hb1580 : x1573
                · have h := ite_f hb1580 h
                  refine a_cond_f rfl (a_exit (t_exit ?_))
                  cases h
                  have h := hX1569
                  refine t_exit (b_exit (b_norm ?_))
                  exact j_leaf x1525 (Option.some.inj h) (by kernel_rfl)
                · have h := ite_t hb1580 h
                  refine a_cond_t rfl (a_skip (a_next (σ' := ⟨[(0, (i6 a0)), (4, (ow 4)), (5, (ow 5)), (6, (ow 6)), (8, (i6 r9)), (9, (i6 r12)), (10, (ow 10)), (11, (i6 x1081)), (12, (i6 x1524))], [(4, (bk (eA64u8 a1))), (5, (bk (eA64u8 a2))), (6, (bk (eA64u8 ((vrep 64 (0 : Int)))))), (10, (bk (eA64u8 x1525)))]⟩) (by kernel_rfl) (a_seq (a_block (a_draw [⟨[], [], [], []⟩, ⟨[], [], [], []⟩, ⟨[], [], [], [0, 1]⟩, ⟨[], [], [], []⟩, ⟨[], [], [], []⟩, ⟨[], [], [], [3, 4]⟩, ⟨[10], [], [10], [3, 4, 5]⟩, ⟨[10], [], [], [3, 4, 5, 6]⟩, ⟨[], [], [], [3, 4, 5, 6, 7]⟩, ⟨[], [], [], []⟩, ⟨[4], [], [4], [9]⟩, ⟨[4], [], [], [9, 10]⟩, ⟨[], [], [], [9, 10, 11]⟩, ⟨[], [], [], []⟩, ⟨[5], [], [5], [13]⟩, ⟨[5], [], [], [13, 14]⟩, ⟨[], [], [], [13, 14, 15]⟩, ⟨[], [], [], [9, 10, 11, 12, 13, 14, 15, 16]⟩, ⟨[], [], [], [3, 4, 5, 6, 7, 8, 9, 10, 11, 12, 13, 14, 15, 16, 17]⟩, ⟨[], [], [], []⟩, ⟨[], [], [], [3, 4, 5, 6, 7, 8, 9, 10, 11, 12, 13, 14, 15, 16, 17, 18, 19]⟩, ⟨[], [], [], [3, 4, 5, 6, 7, 8, 9, 10, 11, 12, 13, 14, 15, 16, 17, 18, 19, 20]⟩, ⟨[10], [], [10], [0, 1, 2, 3, 4, 5, 6, 7, 8, 9, 10, 11, 12, 13, 14, 15, 16, 17, 18, 19, 20, 21]⟩, ⟨[10], [10], [], [0, 1, 2, 3, 4, 5, 6, 7, 8, 9, 10, 11, 12, 13, 14, 15, 16, 17, 18, 19, 20, 21, 22]⟩] (by kernel_rfl) (dp (i6 x1081) rfl (by kernel_rfl) (dp (i6 x1524) rfl (by kernel_rfl) (dp (i6 (IntKind.i64.wrap (x1081 + x1524))) rfl (by kernel_rfl) (dp (i6 x1081) rfl (by kernel_rfl) ?_)))))))))
                  refine dp (i6 x1524) rfl (by kernel_rfl) (dp (i6 (IntKind.i64.wrap (x1081 + x1524))) rfl (by kernel_rfl) (d_cons ?_))
                  obtain ⟨hc1596, h⟩ := ifp_some h
                  refine vq (.own 10 [(IntKind.i64.wrap (x1081 + x1524)).toNat] [(IntKind.i64.wrap (x1081 + x1524)).toNat * 1]) rfl hc1596 (d_next (by kernel_rfl) (d_cons ?_))
                  have hl1597 : LdOk [(IntKind.i64.wrap (x1081 + x1524)).toNat] (eA64u8 x1525) [(IntKind.i64.wrap (x1081 + x1524)).toNat * 1] 1 false (b8 ((rd x1525.1 (IntKind.i64.wrap (x1081 + x1524)).toNat))) := (.arr (vlt x1525 hc1596) rfl (.nil rfl rfl rfl))
                  refine vq (b8 ((rd x1525.1 (IntKind.i64.wrap (x1081 + x1524)).toNat))) (ld_own (i := ⟨.int .u8, 1, 1, (.int .u8 0)⟩) rfl rfl rfl hl1597) hl1597.c (d_next (by kernel_rfl) (d_cons ?_))
                  obtain ⟨x1598, hx1599, h⟩ := letp_some h
                  refine a_val' (v := (i6 (IntKind.i64.wrap ((rd x1525.1 (IntKind.i64.wrap (x1081 + x1524)).toNat))))) (v' := (i6 x1598)) (u := []) (u' := []) rfl (congrArg (fun z => ((i6 z) : AV)) hx1599) rfl trivial rfl (d_next (by kernel_rfl) (dp (i6 x1081) rfl (by kernel_rfl) (d_cons ?_)))
                  obtain ⟨hc1600, h⟩ := ifp_some h
                  refine vq (.own 4 [x1081.toNat] [x1081.toNat * 1]) rfl hc1600 (d_next (by kernel_rfl) (d_cons ?_))
                  have hl1601 : LdOk [x1081.toNat] (eA64u8 a1) [x1081.toNat * 1] 1 false (b8 (rd a1.1 x1081.toNat)) := (.arr (vlt a1 hc1600) rfl (.nil rfl rfl rfl))
                  refine vq (b8 (rd a1.1 x1081.toNat)) (ld_own (i := ⟨.int .u8, 1, 1, (.int .u8 0)⟩) rfl rfl rfl hl1601) hl1601.c (d_next (by kernel_rfl) (dp (i6 (IntKind.i64.wrap (rd a1.1 x1081.toNat))) rfl (by kernel_rfl) (dp (i6 x1524) rfl (by kernel_rfl) (d_cons ?_))))
                  obtain ⟨hc1602, h⟩ := ifp_some h
                  refine vq (.own 5 [x1524.toNat] [x1524.toNat * 1]) rfl hc1602 (d_next (by kernel_rfl) (d_cons ?_))
                  have hl1603 : LdOk [x1524.toNat] (eA64u8 a2) [x1524.toNat * 1] 1 false (b8 (rd a2.1 x1524.toNat)) := (.arr (vlt a2 hc1602) rfl (.nil rfl rfl rfl))
                  refine vq (b8 (rd a2.1 x1524.toNat)) (ld_own (i := ⟨.int .u8, 1, 1, (.int .u8 0)⟩) rfl rfl rfl hl1603) hl1603.c (d_next (by kernel_rfl) (dp (i6 (IntKind.i64.wrap (rd a2.1 x1524.toNat))) rfl (by kernel_rfl) (d_cons ?_)))
                  obtain ⟨x1604, hx1605, h⟩ := letp_some h
                  refine a_val' (v := (i6 (IntKind.i64.wrap ((IntKind.i64.wrap (rd a1.1 x1081.toNat)) * (IntKind.i64.wrap (rd a2.1 x1524.toNat)))))) (v' := (i6 x1604)) (u := []) (u' := []) rfl (congrArg (fun z => ((i6 z) : AV)) hx1605) rfl trivial rfl (d_next (by kernel_rfl) (dp (i6 (IntKind.i64.wrap (x1598 + x1604))) rfl (by kernel_rfl) (dp (i6 a0) rfl (by kernel_rfl) (d_cons ?_))))
                  obtain ⟨hc1606, h⟩ := ifp_some h
                  refine vq (i6 (Int.tmod (IntKind.i64.wrap (x1598 + x1604)) a0)) rfl hc1606 (d_next (by kernel_rfl) (d_cons ?_))
                  obtain ⟨x1607, hx1608, h⟩ := letp_some h
                  refine a_val' (v := (b8 (IntKind.u8.wrap (Int.tmod (IntKind.i64.wrap (x1598 + x1604)) a0)))) (v' := (b8 x1607)) (u := []) (u' := []) rfl (congrArg (fun z => ((b8 z) : AV)) hx1608) rfl trivial rfl (d_next (by kernel_rfl) (d_cons ?_))
                  obtain ⟨hc1609, h⟩ := ifp_some h
                  refine vq (.own 10 [(IntKind.i64.wrap (x1081 + x1524)).toNat] [(IntKind.i64.wrap (x1081 + x1524)).toNat * 1]) rfl hc1609 (d_next (by kernel_rfl) (d_cons ?_))
                  have hs1610 : StOk [(IntKind.i64.wrap (x1081 + x1524)).toNat] (eA64u8 x1525) [(IntKind.i64.wrap (x1081 + x1524)).toNat * 1] 1 (b8 x1607) (eA64u8 ((vset x1525 (IntKind.i64.wrap (x1081 + x1524)).toNat x1607))) := (.arr (y := x1607) (vlt x1525 hc1609) rfl (.nil rfl rfl rfl rfl))
                  refine vu .top [(10, (bk (eA64u8 ((vset x1525 (IntKind.i64.wrap (x1081 + x1524)).toNat x1607)))))] (st_own (i := ⟨.int .u8, 1, 1, (.int .u8 0)⟩) rfl rfl (fun _ => rfl) rfl hs1610) (hs1610.c rfl) rfl (d_next (by kernel_rfl) (d_nil (b_norm (a_next (σ' := ⟨[(0, (i6 a0)), (4, (ow 4)), (5, (ow 5)), (6, (ow 6)), (8, (i6 r9)), (9, (i6 r12)), (10, (ow 10)), (11, (i6 x1081)), (12, (i6 x1524))], [(4, (bk (eA64u8 a1))), (5, (bk (eA64u8 a2))), (6, (bk (eA64u8 ((vrep 64 (0 : Int)))))), (10, (bk (eA64u8 ((vset x1525 (IntKind.i64.wrap (x1081 + x1524)).toNat x1607)))))]⟩) (by kernel_rfl) (a_region (vp (i6 x1524) rfl (vp (i6 (IntKind.i64.wrap (x1524 + 1))) rfl (vp (i6 (IntKind.i64.wrap (x1524 + 1))) rfl (a_nil ?_)))))))))
                  cases h
                  exact a_again (by kernel_rfl) hX1569
              · have h := hy1575
                refine a_region (vp (i6 x1524) rfl (vp (i6 r12) rfl (vp (.bool ((decide (x1524 ≤ r12)))) rfl (vp (.bool ((decide (x1524 ≤ r12)))) rfl ?_))))
                cases hb1577 : (decide (x1524 ≤ r12))
                · have h := ite_f hb1577 h
                  refine a_gskip rfl (a_gskip rfl (a_gskip rfl (a_gskip rfl (vp (.bool false) rfl (a_nil ?_)))))
                  exact j_leaf false (Option.some.inj h) (by kernel_rfl)
                · have h := ite_t hb1577 h
                  refine gp (i6 x1081) rfl rfl ?_
                  obtain ⟨hc1578, h⟩ := ifp_some h
                  refine gq (.own 4 [x1081.toNat] [x1081.toNat * 1]) rfl rfl hc1578 ?_
                  have hl1579 : LdOk [x1081.toNat] (eA64u8 a1) [x1081.toNat * 1] 1 false (b8 (rd a1.1 x1081.toNat)) := (.arr (vlt a1 hc1578) rfl (.nil rfl rfl rfl))
                  refine gq (b8 (rd a1.1 x1081.toNat)) rfl (ld_own (i := ⟨.int .u8, 1, 1, (.int .u8 0)⟩) rfl rfl rfl hl1579) hl1579.c (gp (.bool (((rd a1.1 x1081.toNat) != 0))) rfl rfl (vp (.bool (((rd a1.1 x1081.toNat) != 0))) rfl (a_nil ?_)))
                  exact j_leaf (((rd a1.1 x1081.toNat) != 0)) (Option.some.inj h) (by kernel_rfl)
      · have h := ite_t hb22 h
        refine a_cond_t rfl (sr (vl (eA64u8 ((vrep 64 (0 : Int)))) rfl rfl rfl rfl rfl rfl (vs (eA64u8 ((vrep 64 (0 : Int)))) rfl rfl (fun _ => rfl) rfl rfl rfl rfl rfl rfl (vp (.bool false) rfl (nx _ rfl (a_ret (t_ret ?_)))))))
        have hl1618 : LdOk [] (eA64u8 ((vrep 64 (0 : Int)))) [] 64 true (eA64u8 ((vrep 64 (0 : Int)))) := (.nil rfl rfl rfl)
        refine ⟨.inr rfl, ?_⟩
        rw [Try.results151]
        cases h
        exact ⟨_, _, _, _, _, ld_own (i := ⟨.arr 64 5, 64, 64, (eA64u8 (vrep 64 (0 : Int)))⟩) rfl rfl rfl hl1618, hl1618.c, .inl ⟨rfl, .inl rfl⟩, rfl, ⟨_, _, _, _, _, rfl, trivial, .inl ⟨rfl, .inl rfl⟩, rfl, rfl⟩⟩
    · have h := ite_t hb21 h
      refine a_cond_t rfl (sr (vl (eA64u8 ((vrep 64 (0 : Int)))) rfl rfl rfl rfl rfl rfl (vs (eA64u8 ((vrep 64 (0 : Int)))) rfl rfl (fun _ => rfl) rfl rfl rfl rfl rfl rfl (vp (.bool true) rfl (nx _ rfl (a_ret (t_ret ?_)))))))
      have hl1621 : LdOk [] (eA64u8 ((vrep 64 (0 : Int)))) [] 64 true (eA64u8 ((vrep 64 (0 : Int)))) := (.nil rfl rfl rfl)
      refine ⟨.inr rfl, ?_⟩
      rw [Try.results151]
      cases h
      exact ⟨_, _, _, _, _, ld_own (i := ⟨.arr 64 5, 64, 64, (eA64u8 (vrep 64 (0 : Int)))⟩) rfl rfl rfl hl1621, hl1621.c, .inl ⟨rfl, .inl rfl⟩, rfl, ⟨_, _, _, _, _, rfl, trivial, .inl ⟨rfl, .inl rfl⟩, rfl, rfl⟩⟩
  · have h := hy18
    refine a_region (vp (i6 r9) rfl (vp (.bool ((decide (r9 < 0)))) rfl (vp (.bool ((decide (r9 < 0)))) rfl ?_)))
    cases hb20 : (decide (r9 < 0))
    · have h := ite_f hb20 h
      refine gp (i6 r12) rfl rfl (gp (.bool ((decide (r12 < 0)))) rfl rfl (vp (.bool ((decide (r12 < 0)))) rfl (a_nil ?_)))
      exact j_leaf ((decide (r12 < 0))) (Option.some.inj h) (by kernel_rfl)
    · have h := ite_t hb20 h
      refine a_gskip rfl (a_gskip rfl (vp (.bool true) rfl (a_nil ?_)))
      exact j_leaf true (Option.some.inj h) (by kernel_rfl)
def spec_l01Bezout_c : ACode := (.seq (.region 0 [q 4 (.box 24 (t 1)), q 5 (.box 24 (t 2)), q 6 (.alloc 24), q 7 (.alloc 24), q 8 (.alloc 24)] false) (.seq (.region 1 [q 22 (.call 0 (.func 123) []), q 23 (.build 24 []), q 24 (.build 24 []), q 25 (.call 0 (.func 123) []), q 9 (.alloc 24), q 10 (.alloc 24), q 11 (.alloc 24), q 12 (.alloc 24), ⟨none, .store 24 (t 9) (t 22), none, []⟩, ⟨none, .store 24 (t 10) (t 23), none, []⟩, ⟨none, .store 24 (t 11) (t 24), none, []⟩, ⟨none, .store 24 (t 12) (t 25), none, []⟩] false) (.seq (.block 0 (.loop (.seq (.seq (.region 2 [q 26 (.load 24 (t 5)), q 27 (.call 0 (.func 81) [(t 26)]), q 28 (.bin .geq 2 (t 27) (.const (.int .i64 0)))] false) (.cond (t 28) .skip (.exit 0))) (.block 1 (.seq (.region 3 [q 30 (.mov (t 0)), q 31 (.load 24 (t 4)), q 32 (.load 24 (t 5)), q 33 (.call 0 (.func 103) [(t 30), (t 31), (t 32)]), q 29 (.mov (t 33)), q 34 (.extract (t 29) 0), q 35 (.extract (t 29) 1), q 13 (.alloc 24), q 14 (.alloc 24), ⟨none, .store 24 (t 13) (t 34), none, []⟩, ⟨none, .store 24 (t 14) (t 35), none, []⟩] false) (.seq (.region 4 [q 37 (.mov (t 0)), q 38 (.load 24 (t 13)), q 39 (.load 24 (t 10)), q 40 (.call 0 (.func 151) [(t 37), (t 38), (t 39)]), q 36 (.mov (t 40)), q 41 (.extract (t 36) 0), q 42 (.extract (t 36) 1), q 15 (.alloc 24), ⟨none, .store 24 (t 15) (t 41), none, []⟩, q 16 (.asg 0 (t 42) 4)] false) (.seq (.region 5 [q 44 (.mov (t 0)), q 45 (.load 24 (t 13)), q 46 (.load 24 (t 12)), q 47 (.call 0 (.func 151) [(t 44), (t 45), (t 46)]), q 43 (.mov (t 47)), q 48 (.extract (t 43) 0), q 49 (.extract (t 43) 1), q 17 (.alloc 24), ⟨none, .store 24 (t 17) (t 48), none, []⟩, q 18 (.asg 0 (t 49) 4)] false) (.seq (.region 6 [q 50 (.mov (t 0)), q 51 (.load 24 (t 9)), q 52 (.load 24 (t 15)), ⟨some 53, .call 0 (.func 99) [(t 50), (t 51), (t 52), (.const (.int .i64 (-1)))], none, [0, 1, 2]⟩, q 54 (.mov (t 0)), q 55 (.load 24 (t 11)), q 56 (.load 24 (t 17)), ⟨some 57, .call 0 (.func 99) [(t 54), (t 55), (t 56), (.const (.int .i64 (-1)))], none, [4, 5, 6, 3]⟩, q 19 (.alloc 24), q 20 (.alloc 24), ⟨none, .store 24 (t 19) (t 53), none, [8, 3, 7, 0, 1, 2, 3, 8, 9]⟩, ⟨none, .store 24 (t 20) (t 57), none, [9, 7, 10, 0, 1, 2, 3, 4, 5, 6, 7, 8, 9, 10]⟩] true) (.seq (.region 7 [q 58 (.load 24 (t 5)), ⟨none, .store 24 (t 4) (t 58), none, []⟩] false) (.seq (.region 8 [q 59 (.load 24 (t 14)), ⟨none, .store 24 (t 5) (t 59), none, []⟩] false) (.seq (.region 9 [q 60 (.load 24 (t 10)), ⟨none, .store 24 (t 9) (t 60), none, []⟩] false) (.seq (.region 10 [q 61 (.load 24 (t 12)), ⟨none, .store 24 (t 11) (t 61), none, []⟩] false) (.seq (.region 11 [q 62 (.load 24 (t 19)), ⟨none, .store 24 (t 10) (t 62), none, []⟩] false) (.region 12 [q 63 (.load 24 (t 20)), ⟨none, .store 24 (t 12) (t 63), none, []⟩] false)))))))))))))) (.seq (.region 13 [q 64 (.mov (t 0)), q 65 (.load 24 (t 4)), q 66 (.call 0 (.func 81) [(t 65)]), q 67 (.indexAddr 24 (t 4) (t 66)), q 68 (.load 5 (t 67)), q 69 (.call 0 (.func 104) [(t 64), (t 68)]), q 70 (.conv 5 2 (t 69)), q 21 (.asg 0 (t 70) 2)] false) (.seq (.region 14 [q 71 (.mov (t 0)), q 72 (.build 24 []), q 73 (.load 24 (t 4)), q 74 (.mov (t 21)), ⟨some 75, .call 0 (.func 99) [(t 71), (t 72), (t 73), (t 74)], none, [0, 1, 2, 3]⟩, q 76 (.mov (t 0)), q 77 (.build 24 []), q 78 (.load 24 (t 9)), q 79 (.mov (t 21)), ⟨some 80, .call 0 (.func 99) [(t 76), (t 77), (t 78), (t 79)], none, [5, 6, 7, 8, 4]⟩, q 81 (.mov (t 0)), q 82 (.build 24 []), q 83 (.load 24 (t 11)), q 84 (.mov (t 21)), ⟨some 85, .call 0 (.func 99) [(t 81), (t 82), (t 83), (t 84)], none, [10, 11, 12, 13, 9]⟩, ⟨none, .store 24 (t 6) (t 75), none, [4, 14, 0, 1, 2, 3, 4]⟩, ⟨none, .store 24 (t 7) (t 80), none, [9, 15, 0, 1, 2, 3, 4, 5, 6, 7, 8, 9, 15]⟩, ⟨none, .store 24 (t 8) (t 85), none, [14, 16, 0, 1, 2, 3, 4, 5, 6, 7, 8, 9, 10, 11, 12, 13, 14, 15, 16]⟩] true) .ret)))))
def spec_l01Bezout_L : Live := [(0, [0, 1, 2]), (1, [0, 4, 5, 6, 7, 8]), (2, [0, 4, 5, 6, 7, 8, 9, 10, 11, 12]), (3, [0, 4, 5, 6, 7, 8, 9, 10, 11, 12]), (4, [0, 4, 5, 6, 7, 8, 9, 10, 11, 12, 13, 14]), (5, [0, 4, 5, 6, 7, 8, 9, 10, 11, 12, 13, 14, 15]), (6, [0, 4, 5, 6, 7, 8, 9, 10, 11, 12, 14, 15, 17]), (7, [0, 4, 5, 6, 7, 8, 9, 10, 11, 12, 14, 19, 20]), (8, [0, 4, 5, 6, 7, 8, 9, 10, 11, 12, 14, 19, 20]), (9, [0, 4, 5, 6, 7, 8, 9, 10, 11, 12, 19, 20]), (10, [0, 4, 5, 6, 7, 8, 9, 10, 11, 12, 19, 20]), (11, [0, 4, 5, 6, 7, 8, 9, 10, 11, 12, 19, 20]), (12, [0, 4, 5, 6, 7, 8, 9, 10, 11, 12, 20]), (13, [0, 4, 6, 7, 8, 9, 11]), (14, [0, 4, 6, 7, 8, 9, 11, 21]), (100028, [0, 4, 5, 6, 7, 8, 9, 10, 11, 12, 28])]
noncomputable def spec_l01Bezout_l1 (a0 : Int) (x233 : (Vec Int 64)) (x234 : (Vec Int 64)) (x235 : (Vec Int 64)) (x236 : (Vec Int 64)) (x237 : (Vec Int 64)) (x238 : (Vec Int 64)) : Option (((Vec Int 64) × (Vec Int 64) × (Vec Int 64) × (Vec Int 64) × (Vec Int 64) × (Vec Int 64)) ⊕ ((Vec Int 64) × (Vec Int 64) × (Vec Int 64))) :=
  (Option.bind (spec_l01Deg x234) fun r295 => (if (decide (r295 ≥ 0)) then (Option.bind (spec_l01Divide a0 x233 x234) fun r300 => (Option.bind (spec_l01Times a0 r300.1 x236) fun r306 => (Option.bind (spec_l01Times a0 r300.1 x238) fun r311 => (Option.bind (spec_l01Add a0 x235 r306.1 (-1)) fun r326 => (Option.bind (spec_l01Add a0 x237 r311.1 (-1)) fun r330 => (some (.inl (x234, r300.2, x236, r326, x238, r330)))))))) else (some (.inr (x233, x235, x237)))))
noncomputable def spec_l01Bezout (a0 : Int) (a1 : (Vec Int 64)) (a2 : (Vec Int 64)) : Option ((Vec Int 64) × (Vec Int 64) × (Vec Int 64)) :=
  (Option.bind (spec_l01One) fun r1 => (Option.bind (spec_l01One) fun r3 => (Option.bind (α := ((Vec Int 64) × (Vec Int 64) × (Vec Int 64))) ((loopM (fun s : ((Vec Int 64) × (Vec Int 64) × (Vec Int 64) × (Vec Int 64) × (Vec Int 64) × (Vec Int 64)) => spec_l01Bezout_l1 a0 s.1 s.2.1 s.2.2.1 s.2.2.2.1 s.2.2.2.2.1 s.2.2.2.2.2) (a1, a2, r1, (vrep 64 (0 : Int)), (vrep 64 (0 : Int)), r3))) fun ⟨x175, x176, x177⟩ => (Option.bind (spec_l01Deg x175) fun r348 => (ifp (0 ≤ r348 ∧ r348 < ((64 : Nat) : Int)) ((Option.bind (spec_l01Inverse a0 (rd x175.1 r348.toNat)) fun r352 => (Option.bind (spec_l01Add a0 ((vrep 64 (0 : Int))) x175 (IntKind.i64.wrap r352)) fun r367 => (Option.bind (spec_l01Add a0 ((vrep 64 (0 : Int))) x176 (IntKind.i64.wrap r352)) fun r370 => (Option.bind (spec_l01Add a0 ((vrep 64 (0 : Int))) x177 (IntKind.i64.wrap r352)) fun r373 => (some (r367, r370, r373))))))))))))
theorem spec_l01Bezout_ok (a0 : Int) (a1 : (Vec Int 64)) (a2 : (Vec Int 64)) (r : ((Vec Int 64) × (Vec Int 64) × (Vec Int 64))) (h : spec_l01Bezout a0 a1 a2 = some r) : Den Try.prog 133 [(i6 a0), (eA64u8 a1), (eA64u8 a2)] { r := (.tuple [(eA64u8 r.1), (eA64u8 r.2.1), (eA64u8 r.2.2)]) } := by
  refine den_of (rs := [(eA64u8 r.1), (eA64u8 r.2.1), (eA64u8 r.2.2)]) (ac := spec_l01Bezout_c) (L := spec_l01Bezout_L) (n := 86) (m := []) (c := Try.f133.body.getD .skip) good Try.func133 (by kernel_rfl) (by kernel_rfl) Try.ntmps133 rfl rfl (by kernel_rfl) rfl rfl ?_
  refine a_st (σ' := ⟨[(0, (i6 a0)), (1, (eA64u8 a1)), (2, (eA64u8 a2))], []⟩) (by kernel_rfl) ?_
  unfold spec_l01Bezout_c
  refine sr (vo 1400 (eA64u8 a1) rfl rfl (vo 1500 (eA64u8 a2) rfl rfl (vo 1600 (eA64u8 ((vrep 64 (0 : Int)))) rfl rfl (vo 1700 (eA64u8 ((vrep 64 (0 : Int)))) rfl rfl (vo 1800 (eA64u8 ((vrep 64 (0 : Int)))) rfl rfl (nx ⟨[(0, (i6 a0)), (4, (ow 4)), (5, (ow 5)), (6, (ow 6)), (7, (ow 7)), (8, (ow 8))], [(4, (bk (eA64u8 a1))), (5, (bk (eA64u8 a2))), (6, (bk (eA64u8 ((vrep 64 (0 : Int)))))), (7, (bk (eA64u8 ((vrep 64 (0 : Int)))))), (8, (bk (eA64u8 ((vrep 64 (0 : Int))))))]⟩ (by kernel_rfl) (sr ?_)))))))
  obtain ⟨r1, hr2, h⟩ := bind_some h
  refine a_call (args := []) (u := []) (r := (eA64u8 r1)) rfl rfl (spec_l01One_ok r1 hr2) rfl (vq (eA64u8 ((vrep 64 (0 : Int)))) rfl ⟨⟨_, rfl, rfl⟩, all_nil⟩ (vq (eA64u8 ((vrep 64 (0 : Int)))) rfl ⟨⟨_, rfl, rfl⟩, all_nil⟩ ?_))
  obtain ⟨r3, hr4, h⟩ := bind_some h
  refine a_call (args := []) (u := []) (r := (eA64u8 r3)) rfl rfl (spec_l01One_ok r3 hr4) rfl (vo 1900 (eA64u8 ((vrep 64 (0 : Int)))) rfl rfl (vo 2000 (eA64u8 ((vrep 64 (0 : Int)))) rfl rfl (vo 2100 (eA64u8 ((vrep 64 (0 : Int)))) rfl rfl (vo 2200 (eA64u8 ((vrep 64 (0 : Int)))) rfl rfl (vs (eA64u8 r1) rfl rfl (fun _ => rfl) rfl rfl rfl rfl rfl rfl (vs (eA64u8 ((vrep 64 (0 : Int)))) rfl rfl (fun _ => rfl) rfl rfl rfl rfl rfl rfl (vs (eA64u8 ((vrep 64 (0 : Int)))) rfl rfl (fun _ => rfl) rfl rfl rfl rfl rfl rfl (vs (eA64u8 r3) rfl rfl (fun _ => rfl) rfl rfl rfl rfl rfl rfl (nx ⟨[(0, (i6 a0)), (4, (ow 4)), (5, (ow 5)), (6, (ow 6)), (7, (ow 7)), (8, (ow 8)), (9, (ow 9)), (10, (ow 10)), (11, (ow 11)), (12, (ow 12))], [(4, (bk (eA64u8 a1))), (5, (bk (eA64u8 a2))), (6, (bk (eA64u8 ((vrep 64 (0 : Int)))))), (7, (bk (eA64u8 ((vrep 64 (0 : Int)))))), (8, (bk (eA64u8 ((vrep 64 (0 : Int)))))), (9, (bk (eA64u8 r1))), (10, (bk (eA64u8 ((vrep 64 (0 : Int)))))), (11, (bk (eA64u8 ((vrep 64 (0 : Int)))))), (12, (bk (eA64u8 r3)))]⟩ (by kernel_rfl) ?_)))))))))
  obtain ⟨y178, hy179, hk180⟩ := bind_some h
  clear h
  refine a_join (emb := fun (s : ((Vec Int 64) × (Vec Int 64) × (Vec Int 64))) => ⟨[(0, (i6 a0)), (4, (ow 4)), (6, (ow 6)), (7, (ow 7)), (8, (ow 8)), (9, (ow 9)), (11, (ow 11))], [(4, (bk (eA64u8 s.1))), (6, (bk (eA64u8 ((vrep 64 (0 : Int)))))), (7, (bk (eA64u8 ((vrep 64 (0 : Int)))))), (8, (bk (eA64u8 ((vrep 64 (0 : Int)))))), (9, (bk (eA64u8 s.2.1))), (11, (bk (eA64u8 s.2.2)))]⟩) (pre := fun s => s = y178) ?_ ?_
  · rintro ⟨x175, x176, x177⟩ rfl
    have h := hk180
    refine a_st (σ' := ⟨[(0, (i6 a0)), (4, (ow 4)), (6, (ow 6)), (7, (ow 7)), (8, (ow 8)), (9, (ow 9)), (11, (ow 11))], [(4, (bk (eA64u8 x175))), (6, (bk (eA64u8 ((vrep 64 (0 : Int)))))), (7, (bk (eA64u8 ((vrep 64 (0 : Int)))))), (8, (bk (eA64u8 ((vrep 64 (0 : Int)))))), (9, (bk (eA64u8 x176))), (11, (bk (eA64u8 x177)))]⟩) (by kernel_rfl) (sr (vp (i6 a0) rfl (vl (eA64u8 x175) rfl rfl rfl rfl rfl rfl ?_)))
    obtain ⟨r348, hr349, h⟩ := bind_some h
    refine a_call (args := [(eA64u8 x175)]) (u := []) (r := (i6 r348)) rfl rfl (spec_l01Deg_ok x175 r348 hr349) rfl ?_
    obtain ⟨hc350, h⟩ := ifp_some h
    refine vq (.own 4 [r348.toNat] [r348.toNat * 1]) rfl hc350 ?_
    have hl351 : LdOk [r348.toNat] (eA64u8 x175) [r348.toNat * 1] 1 false (b8 (rd x175.1 r348.toNat)) := (.arr (vlt x175 hc350) rfl (.nil rfl rfl rfl))
    refine vq (b8 (rd x175.1 r348.toNat)) (ld_own (i := ⟨.int .u8, 1, 1, (.int .u8 0)⟩) rfl rfl rfl hl351) hl351.c ?_
    obtain ⟨r352, hr353, h⟩ := bind_some h
    refine a_call (args := [(i6 a0), (b8 (rd x175.1 r348.toNat))]) (u := []) (r := (b8 r352)) rfl rfl (spec_l01Inverse_ok a0 (rd x175.1 r348.toNat) r352 hr353) rfl (vp (i6 (IntKind.i64.wrap r352)) rfl (vp (i6 (IntKind.i64.wrap r352)) rfl (nx ⟨[(0, (i6 a0)), (4, (ow 4)), (6, (ow 6)), (7, (ow 7)), (8, (ow 8)), (9, (ow 9)), (11, (ow 11)), (21, (i6 (IntKind.i64.wrap r352)))], [(4, (bk (eA64u8 x175))), (6, (bk (eA64u8 ((vrep 64 (0 : Int)))))), (7, (bk (eA64u8 ((vrep 64 (0 : Int)))))), (8, (bk (eA64u8 ((vrep 64 (0 : Int)))))), (9, (bk (eA64u8 x176))), (11, (bk (eA64u8 x177)))]⟩ (by kernel_rfl) (a_seq (a_draw [⟨[], [], [], []⟩, ⟨[], [], [], []⟩, ⟨[4], [], [], []⟩, ⟨[], [], [], []⟩, ⟨[], [], [], [0, 1, 2, 3]⟩, ⟨[], [], [], []⟩, ⟨[], [], [], []⟩, ⟨[9], [], [], []⟩, ⟨[], [], [], []⟩, ⟨[], [], [], [0, 1, 2, 3, 4, 5, 6, 7, 8]⟩, ⟨[], [], [], []⟩, ⟨[], [], [], []⟩, ⟨[11], [], [], []⟩, ⟨[], [], [], []⟩, ⟨[], [], [], [0, 1, 2, 3, 4, 5, 6, 7, 8, 9, 10, 11, 12, 13]⟩, ⟨[6], [6], [], [0, 1, 2, 3, 4, 5, 6, 7, 8, 9, 10, 11, 12, 13, 14]⟩, ⟨[7], [7], [], [0, 1, 2, 3, 4, 5, 6, 7, 8, 9, 10, 11, 12, 13, 14, 15]⟩, ⟨[8], [8], [], [0, 1, 2, 3, 4, 5, 6, 7, 8, 9, 10, 11, 12, 13, 14, 15, 16]⟩] (by kernel_rfl) (dp (i6 a0) rfl (by kernel_rfl) (d_cons (vq (eA64u8 ((vrep 64 (0 : Int)))) rfl ⟨⟨_, rfl, rfl⟩, all_nil⟩ (d_next (by kernel_rfl) ?_)))))))))
    refine d_cons (vl (eA64u8 x175) rfl rfl rfl rfl rfl rfl (d_next (by kernel_rfl) (dp (i6 (IntKind.i64.wrap r352)) rfl (by kernel_rfl) (d_cons ?_))))
    obtain ⟨r367, hr368, h⟩ := bind_some h
    refine a_call (args := [(i6 a0), (eA64u8 ((vrep 64 (0 : Int)))), (eA64u8 x175), (i6 (IntKind.i64.wrap r352))]) (u := []) (r := (eA64u8 r367)) rfl rfl (spec_l01Add_ok a0 ((vrep 64 (0 : Int))) x175 (IntKind.i64.wrap r352) r367 hr368) rfl (d_next (by kernel_rfl) (dp (i6 a0) rfl (by kernel_rfl) (d_cons (vq (eA64u8 ((vrep 64 (0 : Int)))) rfl ⟨⟨_, rfl, rfl⟩, all_nil⟩ (d_next (by kernel_rfl) (d_cons (vl (eA64u8 x176) rfl rfl rfl rfl rfl rfl (d_next (by kernel_rfl) (dp (i6 (IntKind.i64.wrap r352)) rfl (by kernel_rfl) ?_)))))))))
    refine d_cons ?_
    obtain ⟨r370, hr371, h⟩ := bind_some h
    refine a_call (args := [(i6 a0), (eA64u8 ((vrep 64 (0 : Int)))), (eA64u8 x176), (i6 (IntKind.i64.wrap r352))]) (u := []) (r := (eA64u8 r370)) rfl rfl (spec_l01Add_ok a0 ((vrep 64 (0 : Int))) x176 (IntKind.i64.wrap r352) r370 hr371) rfl (d_next (by kernel_rfl) (dp (i6 a0) rfl (by kernel_rfl) (d_cons (vq (eA64u8 ((vrep 64 (0 : Int)))) rfl ⟨⟨_, rfl, rfl⟩, all_nil⟩ (d_next (by kernel_rfl) (d_cons (vl (eA64u8 x177) rfl rfl rfl rfl rfl rfl (d_next (by kernel_rfl) (dp (i6 (IntKind.i64.wrap r352)) rfl (by kernel_rfl) ?_)))))))))
    refine d_cons ?_
    obtain ⟨r373, hr374, h⟩ := bind_some h
    refine a_call (args := [(i6 a0), (eA64u8 ((vrep 64 (0 : Int)))), (eA64u8 x177), (i6 (IntKind.i64.wrap r352))]) (u := []) (r := (eA64u8 r373)) rfl rfl (spec_l01Add_ok a0 ((vrep 64 (0 : Int))) x177 (IntKind.i64.wrap r352) r373 hr374) rfl (d_next (by kernel_rfl) (d_cons (vs (eA64u8 r367) rfl rfl (fun _ => rfl) rfl rfl rfl rfl rfl rfl (d_next (by kernel_rfl) (d_cons (vs (eA64u8 r370) rfl rfl (fun _ => rfl) rfl rfl rfl rfl rfl rfl (d_next (by kernel_rfl) (d_cons (vs (eA64u8 r373) rfl rfl (fun _ => rfl) rfl rfl rfl rfl rfl rfl ?_)))))))))
    refine d_next (by kernel_rfl) (d_nil (a_next rfl (a_ret ?_)))
    have hl378 : LdOk [] (eA64u8 r367) [] 64 true (eA64u8 r367) := (.nil rfl rfl rfl)
    have hl379 : LdOk [] (eA64u8 r370) [] 64 true (eA64u8 r370) := (.nil rfl rfl rfl)
    have hl380 : LdOk [] (eA64u8 r373) [] 64 true (eA64u8 r373) := (.nil rfl rfl rfl)
    refine ⟨.inr rfl, ?_⟩
    rw [Try.results133]
    cases h
    exact ⟨_, _, _, _, _, ld_own (i := ⟨.arr 64 5, 64, 64, (eA64u8 (vrep 64 (0 : Int)))⟩) rfl rfl rfl hl378, hl378.c, .inl ⟨rfl, .inl rfl⟩, rfl, ⟨_, _, _, _, _, ld_own (i := ⟨.arr 64 5, 64, 64, (eA64u8 (vrep 64 (0 : Int)))⟩) rfl rfl rfl hl379, hl379.c, .inl ⟨rfl, .inl rfl⟩, rfl, ⟨_, _, _, _, _, ld_own (i := ⟨.arr 64 5, 64, 64, (eA64u8 (vrep 64 (0 : Int)))⟩) rfl rfl rfl hl380, hl380.c, .inl ⟨rfl, .inl rfl⟩, rfl, rfl⟩⟩⟩
  · have h := hy179
    refine a_block ?_
    refine a_loop (emb := fun (s : ((Vec Int 64) × (Vec Int 64) × (Vec Int 64) × (Vec Int 64) × (Vec Int 64) × (Vec Int 64))) => ⟨[(0, (i6 a0)), (4, (ow 4)), (5, (ow 5)), (6, (ow 6)), (7, (ow 7)), (8, (ow 8)), (9, (ow 9)), (10, (ow 10)), (11, (ow 11)), (12, (ow 12))], [(4, (bk (eA64u8 s.1))), (5, (bk (eA64u8 s.2.1))), (6, (bk (eA64u8 ((vrep 64 (0 : Int)))))), (7, (bk (eA64u8 ((vrep 64 (0 : Int)))))), (8, (bk (eA64u8 ((vrep 64 (0 : Int)))))), (9, (bk (eA64u8 s.2.2.1))), (10, (bk (eA64u8 s.2.2.2.1))), (11, (bk (eA64u8 s.2.2.2.2.1))), (12, (bk (eA64u8 s.2.2.2.2.2)))]⟩) (body := (fun s : ((Vec Int 64) × (Vec Int 64) × (Vec Int 64) × (Vec Int 64) × (Vec Int 64) × (Vec Int 64)) => spec_l01Bezout_l1 a0 s.1 s.2.1 s.2.2.1 s.2.2.2.1 s.2.2.2.2.1 s.2.2.2.2.2)) (G := fun q => some q = some y178) h rfl ?_ (by kernel_rfl)
    rintro X291 ⟨x233, x234, x235, x236, x237, x238⟩ x292 h hX293
    have h : spec_l01Bezout_l1 a0 x233 x234 x235 x236 x237 x238 = some x292 := h
    refine a_st (σ' := ⟨[(0, (i6 a0)), (4, (ow 4)), (5, (ow 5)), (6, (ow 6)), (7, (ow 7)), (8, (ow 8)), (9, (ow 9)), (10, (ow 10)), (11, (ow 11)), (12, (ow 12))], [(4, (bk (eA64u8 x233))), (5, (bk (eA64u8 x234))), (6, (bk (eA64u8 ((vrep 64 (0 : Int)))))), (7, (bk (eA64u8 ((vrep 64 (0 : Int)))))), (8, (bk (eA64u8 ((vrep 64 (0 : Int)))))), (9, (bk (eA64u8 x235))), (10, (bk (eA64u8 x236))), (11, (bk (eA64u8 x237))), (12, (bk (eA64u8 x238)))]⟩) (by kernel_rfl) (a_seq (sr (vl (eA64u8 x234) rfl rfl rfl rfl rfl rfl ?_)))
    obtain ⟨r295, hr296, h⟩ := bind_some h
    refine a_call (args := [(eA64u8 x234)]) (u := []) (r := (i6 r295)) rfl rfl (spec_l01Deg_ok x234 r295 hr296) rfl (vp (.bool ((decide (r295 ≥ 0)))) rfl (nx ⟨[(0, (i6 a0)), (4, (ow 4)), (5, (ow 5)), (6, (ow 6)), (7, (ow 7)), (8, (ow 8)), (9, (ow 9)), (10, (ow 10)), (11, (ow 11)), (12, (ow 12)), (28, (.bool ((decide (r295 ≥ 0)))))], [(4, (bk (eA64u8 x233))), (5, (bk (eA64u8 x234))), (6, (bk (eA64u8 ((vrep 64 (0 : Int)))))), (7, (bk (eA64u8 ((vrep 64 (0 : Int)))))), (8, (bk (eA64u8 ((vrep 64 (0 : Int)))))), (9, (bk (eA64u8 x235))), (10, (bk (eA64u8 x236))), (11, (bk (eA64u8 x237))), (12, (bk (eA64u8 x238)))]⟩ (by kernel_rfl) ?_))
    cases hb297 : (decide (r295 ≥ 0))
    · have h := ite_f hb297 h
      refine a_cond_f rfl (a_exit (t_exit ?_))
      cases h
      have h := hX293
      refine t_exit (b_exit ?_)
      exact j_leaf (x233, x235, x237) (Option.some.inj h) (by kernel_rfl)
    · have h := ite_t hb297 h
      refine a_cond_t rfl (a_skip (a_next (σ' := ⟨[(0, (i6 a0)), (4, (ow 4)), (5, (ow 5)), (6, (ow 6)), (7, (ow 7)), (8, (ow 8)), (9, (ow 9)), (10, (ow 10)), (11, (ow 11)), (12, (ow 12))], [(4, (bk (eA64u8 x233))), (5, (bk (eA64u8 x234))), (6, (bk (eA64u8 ((vrep 64 (0 : Int)))))), (7, (bk (eA64u8 ((vrep 64 (0 : Int)))))), (8, (bk (eA64u8 ((vrep 64 (0 : Int)))))), (9, (bk (eA64u8 x235))), (10, (bk (eA64u8 x236))), (11, (bk (eA64u8 x237))), (12, (bk (eA64u8 x238)))]⟩) (by kernel_rfl) (a_block (sr (vp (i6 a0) rfl (vl (eA64u8 x233) rfl rfl rfl rfl rfl rfl (vl (eA64u8 x234) rfl rfl rfl rfl rfl rfl ?_)))))))
      obtain ⟨r300, hr301, h⟩ := bind_some h
      refine a_call (args := [(i6 a0), (eA64u8 x233), (eA64u8 x234)]) (u := []) (r := (.tuple [(eA64u8 r300.1), (eA64u8 r300.2)])) rfl rfl (spec_l01Divide_ok a0 x233 x234 r300 hr301) rfl (vp (.tuple [(eA64u8 r300.1), (eA64u8 r300.2)]) rfl (vb (eA64u8 r300.1) rfl rfl (vb (eA64u8 r300.2) rfl rfl (vo 2300 (eA64u8 ((vrep 64 (0 : Int)))) rfl rfl (vo 2400 (eA64u8 ((vrep 64 (0 : Int)))) rfl rfl (vs (eA64u8 r300.1) rfl rfl (fun _ => rfl) rfl rfl rfl rfl rfl rfl (vs (eA64u8 r300.2) rfl rfl (fun _ => rfl) rfl rfl rfl rfl rfl rfl (nx ⟨[(0, (i6 a0)), (4, (ow 4)), (5, (ow 5)), (6, (ow 6)), (7, (ow 7)), (8, (ow 8)), (9, (ow 9)), (10, (ow 10)), (11, (ow 11)), (12, (ow 12)), (13, (ow 13)), (14, (ow 14))], [(4, (bk (eA64u8 x233))), (5, (bk (eA64u8 x234))), (6, (bk (eA64u8 ((vrep 64 (0 : Int)))))), (7, (bk (eA64u8 ((vrep 64 (0 : Int)))))), (8, (bk (eA64u8 ((vrep 64 (0 : Int)))))), (9, (bk (eA64u8 x235))), (10, (bk (eA64u8 x236))), (11, (bk (eA64u8 x237))), (12, (bk (eA64u8 x238))), (13, (bk (eA64u8 r300.1))), (14, (bk (eA64u8 r300.2)))]⟩ (by kernel_rfl) (sr ?_)))))))))
      refine vp (i6 a0) rfl (vl (eA64u8 r300.1) rfl rfl rfl rfl rfl rfl (vl (eA64u8 x236) rfl rfl rfl rfl rfl rfl ?_))
      obtain ⟨r306, hr307, h⟩ := bind_some h
      refine a_call (args := [(i6 a0), (eA64u8 r300.1), (eA64u8 x236)]) (u := []) (r := (.tuple [(eA64u8 r306.1), (.bool r306.2)])) rfl rfl (spec_l01Times_ok a0 r300.1 x236 r306 hr307) rfl (vp (.tuple [(eA64u8 r306.1), (.bool r306.2)]) rfl (vb (eA64u8 r306.1) rfl rfl (vb (.bool r306.2) rfl rfl (vo 2500 (eA64u8 ((vrep 64 (0 : Int)))) rfl rfl (vs (eA64u8 r306.1) rfl rfl (fun _ => rfl) rfl rfl rfl rfl rfl rfl (vp (.bool r306.2) rfl (nx ⟨[(0, (i6 a0)), (4, (ow 4)), (5, (ow 5)), (6, (ow 6)), (7, (ow 7)), (8, (ow 8)), (9, (ow 9)), (10, (ow 10)), (11, (ow 11)), (12, (ow 12)), (13, (ow 13)), (14, (ow 14)), (15, (ow 15))], [(4, (bk (eA64u8 x233))), (5, (bk (eA64u8 x234))), (6, (bk (eA64u8 ((vrep 64 (0 : Int)))))), (7, (bk (eA64u8 ((vrep 64 (0 : Int)))))), (8, (bk (eA64u8 ((vrep 64 (0 : Int)))))), (9, (bk (eA64u8 x235))), (10, (bk (eA64u8 x236))), (11, (bk (eA64u8 x237))), (12, (bk (eA64u8 x238))), (13, (bk (eA64u8 r300.1))), (14, (bk (eA64u8 r300.2))), (15, (bk (eA64u8 r306.1)))]⟩ (by kernel_rfl) (sr (vp (i6 a0) rfl ?_)))))))))
      refine vl (eA64u8 r300.1) rfl rfl rfl rfl rfl rfl (vl (eA64u8 x238) rfl rfl rfl rfl rfl rfl ?_)
      obtain ⟨r311, hr312, h⟩ := bind_some h
      refine a_call (args := [(i6 a0), (eA64u8 r300.1), (eA64u8 x238)]) (u := []) (r := (.tuple [(eA64u8 r311.1), (.bool r311.2)])) rfl rfl (spec_l01Times_ok a0 r300.1 x238 r311 hr312) rfl (vp (.tuple [(eA64u8 r311.1), (.bool r311.2)]) rfl (vb (eA64u8 r311.1) rfl rfl (vb (.bool r311.2) rfl rfl (vo 2700 (eA64u8 ((vrep 64 (0 : Int)))) rfl rfl (vs (eA64u8 r311.1) rfl rfl (fun _ => rfl) rfl rfl rfl rfl rfl rfl (vp (.bool r311.2) rfl (nx ⟨[(0, (i6 a0)), (4, (ow 4)), (5, (ow 5)), (6, (ow 6)), (7, (ow 7)), (8, (ow 8)), (9, (ow 9)), (10, (ow 10)), (11, (ow 11)), (12, (ow 12)), (14, (ow 14)), (15, (ow 15)), (17, (ow 17))], [(4, (bk (eA64u8 x233))), (5, (bk (eA64u8 x234))), (6, (bk (eA64u8 ((vrep 64 (0 : Int)))))), (7, (bk (eA64u8 ((vrep 64 (0 : Int)))))), (8, (bk (eA64u8 ((vrep 64 (0 : Int)))))), (9, (bk (eA64u8 x235))), (10, (bk (eA64u8 x236))), (11, (bk (eA64u8 x237))), (12, (bk (eA64u8 x238))), (14, (bk (eA64u8 r300.2))), (15, (bk (eA64u8 r306.1))), (17, (bk (eA64u8 r311.1)))]⟩ (by kernel_rfl) (a_seq (a_draw [⟨[], [], [], []⟩, ⟨[9], [], [], []⟩, ⟨[15], [], [], []⟩, ⟨[], [], [], [0, 1, 2]⟩, ⟨[], [], [], []⟩, ⟨[11], [], [], []⟩, ⟨[17], [], [], []⟩, ⟨[], [], [], [0, 1, 2, 3, 4, 5, 6]⟩, ⟨[2900], [2900], [2900], []⟩, ⟨[3000], [3000], [3000], []⟩, ⟨[2900], [2900], [], [0, 1, 2, 3, 4, 5, 6, 7, 8, 9]⟩, ⟨[3000], [3000], [], [0, 1, 2, 3, 4, 5, 6, 7, 8, 9, 10]⟩] (by kernel_rfl) ?_)))))))))
      refine dp (i6 a0) rfl (by kernel_rfl) (d_cons (vl (eA64u8 x235) rfl rfl rfl rfl rfl rfl (d_next (by kernel_rfl) (d_cons (vl (eA64u8 r306.1) rfl rfl rfl rfl rfl rfl (d_next (by kernel_rfl) (d_cons ?_)))))))
      obtain ⟨r326, hr327, h⟩ := bind_some h
      refine a_call (args := [(i6 a0), (eA64u8 x235), (eA64u8 r306.1), (i6 (-1))]) (u := []) (r := (eA64u8 r326)) rfl rfl (spec_l01Add_ok a0 x235 r306.1 (-1) r326 hr327) rfl (d_next (by kernel_rfl) (dp (i6 a0) rfl (by kernel_rfl) (d_cons (vl (eA64u8 x237) rfl rfl rfl rfl rfl rfl (d_next (by kernel_rfl) (d_cons (vl (eA64u8 r311.1) rfl rfl rfl rfl rfl rfl (d_next (by kernel_rfl) (d_cons ?_)))))))))
      obtain ⟨r330, hr331, h⟩ := bind_some h
      refine a_call (args := [(i6 a0), (eA64u8 x237), (eA64u8 r311.1), (i6 (-1))]) (u := []) (r := (eA64u8 r330)) rfl rfl (spec_l01Add_ok a0 x237 r311.1 (-1) r330 hr331) rfl (d_next (by kernel_rfl) (d_cons (vo 2900 (eA64u8 ((vrep 64 (0 : Int)))) rfl rfl (d_next (by kernel_rfl) (d_cons (vo 3000 (eA64u8 ((vrep 64 (0 : Int)))) rfl rfl (d_next (by kernel_rfl) (d_cons (vs (eA64u8 r326) rfl rfl (fun _ => rfl) rfl rfl rfl rfl rfl rfl ?_)))))))))
      refine d_next (by kernel_rfl) (d_cons (vs (eA64u8 r330) rfl rfl (fun _ => rfl) rfl rfl rfl rfl rfl rfl (d_next (by kernel_rfl) (d_nil (a_next (σ' := ⟨[(0, (i6 a0)), (4, (ow 4)), (5, (ow 5)), (6, (ow 6)), (7, (ow 7)), (8, (ow 8)), (9, (ow 9)), (10, (ow 10)), (11, (ow 11)), (12, (ow 12)), (14, (ow 14)), (19, (ow 19)), (20, (ow 20))], [(4, (bk (eA64u8 x233))), (5, (bk (eA64u8 x234))), (6, (bk (eA64u8 ((vrep 64 (0 : Int)))))), (7, (bk (eA64u8 ((vrep 64 (0 : Int)))))), (8, (bk (eA64u8 ((vrep 64 (0 : Int)))))), (9, (bk (eA64u8 x235))), (10, (bk (eA64u8 x236))), (11, (bk (eA64u8 x237))), (12, (bk (eA64u8 x238))), (14, (bk (eA64u8 r300.2))), (19, (bk (eA64u8 r326))), (20, (bk (eA64u8 r330)))]⟩) (by kernel_rfl) (sr (vl (eA64u8 x234) rfl rfl rfl rfl rfl rfl (vs (eA64u8 x234) rfl rfl (fun _ => rfl) rfl rfl rfl rfl rfl rfl (nx ⟨[(0, (i6 a0)), (4, (ow 4)), (5, (ow 5)), (6, (ow 6)), (7, (ow 7)), (8, (ow 8)), (9, (ow 9)), (10, (ow 10)), (11, (ow 11)), (12, (ow 12)), (14, (ow 14)), (19, (ow 19)), (20, (ow 20))], [(4, (bk (eA64u8 x234))), (5, (bk (eA64u8 x234))), (6, (bk (eA64u8 ((vrep 64 (0 : Int)))))), (7, (bk (eA64u8 ((vrep 64 (0 : Int)))))), (8, (bk (eA64u8 ((vrep 64 (0 : Int)))))), (9, (bk (eA64u8 x235))), (10, (bk (eA64u8 x236))), (11, (bk (eA64u8 x237))), (12, (bk (eA64u8 x238))), (14, (bk (eA64u8 r300.2))), (19, (bk (eA64u8 r326))), (20, (bk (eA64u8 r330)))]⟩ (by kernel_rfl) ?_)))))))))
      refine sr (vl (eA64u8 r300.2) rfl rfl rfl rfl rfl rfl (vs (eA64u8 r300.2) rfl rfl (fun _ => rfl) rfl rfl rfl rfl rfl rfl (nx ⟨[(0, (i6 a0)), (4, (ow 4)), (5, (ow 5)), (6, (ow 6)), (7, (ow 7)), (8, (ow 8)), (9, (ow 9)), (10, (ow 10)), (11, (ow 11)), (12, (ow 12)), (19, (ow 19)), (20, (ow 20))], [(4, (bk (eA64u8 x234))), (5, (bk (eA64u8 r300.2))), (6, (bk (eA64u8 ((vrep 64 (0 : Int)))))), (7, (bk (eA64u8 ((vrep 64 (0 : Int)))))), (8, (bk (eA64u8 ((vrep 64 (0 : Int)))))), (9, (bk (eA64u8 x235))), (10, (bk (eA64u8 x236))), (11, (bk (eA64u8 x237))), (12, (bk (eA64u8 x238))), (19, (bk (eA64u8 r326))), (20, (bk (eA64u8 r330)))]⟩ (by kernel_rfl) (sr (vl (eA64u8 x236) rfl rfl rfl rfl rfl rfl (vs (eA64u8 x236) rfl rfl (fun _ => rfl) rfl rfl rfl rfl rfl rfl (nx ⟨[(0, (i6 a0)), (4, (ow 4)), (5, (ow 5)), (6, (ow 6)), (7, (ow 7)), (8, (ow 8)), (9, (ow 9)), (10, (ow 10)), (11, (ow 11)), (12, (ow 12)), (19, (ow 19)), (20, (ow 20))], [(4, (bk (eA64u8 x234))), (5, (bk (eA64u8 r300.2))), (6, (bk (eA64u8 ((vrep 64 (0 : Int)))))), (7, (bk (eA64u8 ((vrep 64 (0 : Int)))))), (8, (bk (eA64u8 ((vrep 64 (0 : Int)))))), (9, (bk (eA64u8 x236))), (10, (bk (eA64u8 x236))), (11, (bk (eA64u8 x237))), (12, (bk (eA64u8 x238))), (19, (bk (eA64u8 r326))), (20, (bk (eA64u8 r330)))]⟩ (by kernel_rfl) (sr (vl (eA64u8 x238) rfl rfl rfl rfl rfl rfl ?_)))))))))
      refine vs (eA64u8 x238) rfl rfl (fun _ => rfl) rfl rfl rfl rfl rfl rfl (nx ⟨[(0, (i6 a0)), (4, (ow 4)), (5, (ow 5)), (6, (ow 6)), (7, (ow 7)), (8, (ow 8)), (9, (ow 9)), (10, (ow 10)), (11, (ow 11)), (12, (ow 12)), (19, (ow 19)), (20, (ow 20))], [(4, (bk (eA64u8 x234))), (5, (bk (eA64u8 r300.2))), (6, (bk (eA64u8 ((vrep 64 (0 : Int)))))), (7, (bk (eA64u8 ((vrep 64 (0 : Int)))))), (8, (bk (eA64u8 ((vrep 64 (0 : Int)))))), (9, (bk (eA64u8 x236))), (10, (bk (eA64u8 x236))), (11, (bk (eA64u8 x238))), (12, (bk (eA64u8 x238))), (19, (bk (eA64u8 r326))), (20, (bk (eA64u8 r330)))]⟩ (by kernel_rfl) (sr (vl (eA64u8 r326) rfl rfl rfl rfl rfl rfl (vs (eA64u8 r326) rfl rfl (fun _ => rfl) rfl rfl rfl rfl rfl rfl (nx ⟨[(0, (i6 a0)), (4, (ow 4)), (5, (ow 5)), (6, (ow 6)), (7, (ow 7)), (8, (ow 8)), (9, (ow 9)), (10, (ow 10)), (11, (ow 11)), (12, (ow 12)), (20, (ow 20))], [(4, (bk (eA64u8 x234))), (5, (bk (eA64u8 r300.2))), (6, (bk (eA64u8 ((vrep 64 (0 : Int)))))), (7, (bk (eA64u8 ((vrep 64 (0 : Int)))))), (8, (bk (eA64u8 ((vrep 64 (0 : Int)))))), (9, (bk (eA64u8 x236))), (10, (bk (eA64u8 r326))), (11, (bk (eA64u8 x238))), (12, (bk (eA64u8 x238))), (20, (bk (eA64u8 r330)))]⟩ (by kernel_rfl) (a_region (vl (eA64u8 r330) rfl rfl rfl rfl rfl rfl (vs (eA64u8 r330) rfl rfl (fun _ => rfl) rfl rfl rfl rfl rfl rfl (a_nil ?_)))))))))
      refine b_norm ?_
      cases h
      exact a_again (by kernel_rfl) hX293
def spec_l01Gcd_c : ACode := (.seq (.region 0 [q 4 (.box 24 (t 1)), q 5 (.box 24 (t 2)), q 6 (.alloc 24)] false) (.seq (.seq (.region 1 [q 10 (.load 24 (t 4)), q 11 (.call 0 (.func 81) [(t 10)]), q 12 (.bin .lss 2 (t 11) (.const (.int .i64 0))), q 13 (.mov (t 12)), ⟨some 14, .load 24 (t 5), some (13, true), []⟩, ⟨some 15, .call 0 (.func 81) [(t 14)], some (13, true), []⟩, ⟨some 16, .bin .lss 2 (t 15) (.const (.int .i64 0)), some (13, true), []⟩, q 17 (.pick (t 13) (t 16) (.const (.bool false)))] false) (.cond (t 17) (.seq (.region 2 [q 18 (.build 24 []), ⟨none, .store 24 (t 6) (t 18), none, []⟩] false) .ret) .skip)) (.seq (.region 3 [q 20 (.mov (t 0)), q 21 (.load 24 (t 4)), q 22 (.load 24 (t 5)), q 23 (.call 0 (.func 133) [(t 20), (t 21), (t 22)]), q 19 (.mov (t 23)), q 24 (.extract (t 19) 0), q 25 (.extract (t 19) 1), q 26 (.extract (t 19) 2), q 7 (.alloc 24), q 8 (.alloc 24), q 9 (.alloc 24), ⟨none, .store 24 (t 7) (t 24), none, []⟩, ⟨none, .store 24 (t 8) (t 25), none, []⟩, ⟨none, .store 24 (t 9) (t 26), none, []⟩] false) (.seq (.region 4 [q 27 (.load 24 (t 7)), ⟨none, .store 24 (t 6) (t 27), none, []⟩] false) .ret))))
def spec_l01Gcd_L : Live := [(0, [0, 1, 2]), (1, [0, 4, 5, 6]), (2, [6]), (3, [0, 4, 5, 6]), (4, [6, 7]), (100017, [0, 4, 5, 6, 17])]
noncomputable def spec_l01Gcd (a0 : Int) (a1 : (Vec Int 64)) (a2 : (Vec Int 64)) : Option (Vec Int 64) :=
  (Option.bind (α := Bool) ((Option.bind (spec_l01Deg a1) fun r13 => (if (decide (r13 < 0)) then (Option.bind (spec_l01Deg a2) fun r17 => (some ((decide (r17 < 0))))) else (some false)))) fun x8 => (if x8 then (some ((vrep 64 (0 : Int)))) else (Option.bind (spec_l01Bezout a0 a1 a2) fun r22 => (some r22.1))))
theorem spec_l01Gcd_ok (a0 : Int) (a1 : (Vec Int 64)) (a2 : (Vec Int 64)) (r : (Vec Int 64)) (h : spec_l01Gcd a0 a1 a2 = some r) : Den Try.prog 98 [(i6 a0), (eA64u8 a1), (eA64u8 a2)] { r := (eA64u8 r) } := by
  refine den_of (rs := [(eA64u8 r)]) (ac := spec_l01Gcd_c) (L := spec_l01Gcd_L) (n := 28) (m := []) (c := Try.f98.body.getD .skip) good Try.func98 (by kernel_rfl) (by kernel_rfl) Try.ntmps98 rfl rfl (by kernel_rfl) rfl rfl ?_
  refine a_st (σ' := ⟨[(0, (i6 a0)), (1, (eA64u8 a1)), (2, (eA64u8 a2))], []⟩) (by kernel_rfl) ?_
  unfold spec_l01Gcd_c
  refine sr (vo 1400 (eA64u8 a1) rfl rfl (vo 1500 (eA64u8 a2) rfl rfl (vo 1600 (eA64u8 ((vrep 64 (0 : Int)))) rfl rfl (nx ⟨[(0, (i6 a0)), (4, (ow 4)), (5, (ow 5)), (6, (ow 6))], [(4, (bk (eA64u8 a1))), (5, (bk (eA64u8 a2))), (6, (bk (eA64u8 ((vrep 64 (0 : Int))))))]⟩ (by kernel_rfl) (a_seq ?_)))))
  obtain ⟨y9, hy10, hk11⟩ := bind_some h
  clear h
  refine a_join (emb := fun (s : Bool) => ⟨[(0, (i6 a0)), (4, (ow 4)), (5, (ow 5)), (6, (ow 6)), (17, (.bool s))], [(4, (bk (eA64u8 a1))), (5, (bk (eA64u8 a2))), (6, (bk (eA64u8 ((vrep 64 (0 : Int))))))]⟩) (pre := fun s => s = y9) ?_ ?_
  · rintro x8 rfl
    have h := hk11
    refine a_st (σ' := ⟨[(0, (i6 a0)), (4, (ow 4)), (5, (ow 5)), (6, (ow 6)), (17, (.bool x8))], [(4, (bk (eA64u8 a1))), (5, (bk (eA64u8 a2))), (6, (bk (eA64u8 ((vrep 64 (0 : Int))))))]⟩) (by kernel_rfl) ?_
    cases hb19 : x8
    · have h := ite_f hb19 h
      refine a_cond_f rfl (a_skip (a_next (σ' := ⟨[(0, (i6 a0)), (4, (ow 4)), (5, (ow 5)), (6, (ow 6))], [(4, (bk (eA64u8 a1))), (5, (bk (eA64u8 a2))), (6, (bk (eA64u8 ((vrep 64 (0 : Int))))))]⟩) (by kernel_rfl) (sr (vp (i6 a0) rfl (vl (eA64u8 a1) rfl rfl rfl rfl rfl rfl (vl (eA64u8 a2) rfl rfl rfl rfl rfl rfl ?_))))))
      obtain ⟨r22, hr23, h⟩ := bind_some h
      refine a_call (args := [(i6 a0), (eA64u8 a1), (eA64u8 a2)]) (u := []) (r := (.tuple [(eA64u8 r22.1), (eA64u8 r22.2.1), (eA64u8 r22.2.2)])) rfl rfl (spec_l01Bezout_ok a0 a1 a2 r22 hr23) rfl (vp (.tuple [(eA64u8 r22.1), (eA64u8 r22.2.1), (eA64u8 r22.2.2)]) rfl (vb (eA64u8 r22.1) rfl rfl (vb (eA64u8 r22.2.1) rfl rfl (vb (eA64u8 r22.2.2) rfl rfl (vo 1700 (eA64u8 ((vrep 64 (0 : Int)))) rfl rfl (vo 1800 (eA64u8 ((vrep 64 (0 : Int)))) rfl rfl (vo 1900 (eA64u8 ((vrep 64 (0 : Int)))) rfl rfl (vs (eA64u8 r22.1) rfl rfl (fun _ => rfl) rfl rfl rfl rfl rfl rfl (vs (eA64u8 r22.2.1) rfl rfl (fun _ => rfl) rfl rfl rfl rfl rfl rfl ?_)))))))))
      refine vs (eA64u8 r22.2.2) rfl rfl (fun _ => rfl) rfl rfl rfl rfl rfl rfl (nx ⟨[(6, (ow 6)), (7, (ow 7))], [(6, (bk (eA64u8 ((vrep 64 (0 : Int)))))), (7, (bk (eA64u8 r22.1)))]⟩ (by kernel_rfl) (sr (vl (eA64u8 r22.1) rfl rfl rfl rfl rfl rfl (vs (eA64u8 r22.1) rfl rfl (fun _ => rfl) rfl rfl rfl rfl rfl rfl (nx _ rfl (a_ret ?_))))))
      have hl29 : LdOk [] (eA64u8 r22.1) [] 64 true (eA64u8 r22.1) := (.nil rfl rfl rfl)
      refine ⟨.inr rfl, ?_⟩
      rw [Try.results98]
      cases h
      exact ⟨_, _, _, _, _, ld_own (i := ⟨.arr 64 5, 64, 64, (eA64u8 (vrep 64 (0 : Int)))⟩) rfl rfl rfl hl29, hl29.c, .inl ⟨rfl, .inl rfl⟩, rfl, rfl⟩
    · have h := ite_t hb19 h
      refine a_cond_t rfl (sr (vq (eA64u8 ((vrep 64 (0 : Int)))) rfl ⟨⟨_, rfl, rfl⟩, all_nil⟩ (vs (eA64u8 ((vrep 64 (0 : Int)))) rfl rfl (fun _ => rfl) rfl rfl rfl rfl rfl rfl (nx _ rfl (a_ret (t_ret ?_))))))
      have hl31 : LdOk [] (eA64u8 ((vrep 64 (0 : Int)))) [] 64 true (eA64u8 ((vrep 64 (0 : Int)))) := (.nil rfl rfl rfl)
      refine ⟨.inr rfl, ?_⟩
      rw [Try.results98]
      cases h
      exact ⟨_, _, _, _, _, ld_own (i := ⟨.arr 64 5, 64, 64, (eA64u8 (vrep 64 (0 : Int)))⟩) rfl rfl rfl hl31, hl31.c, .inl ⟨rfl, .inl rfl⟩, rfl, rfl⟩
  · have h := hy10
    refine a_region (vl (eA64u8 a1) rfl rfl rfl rfl rfl rfl ?_)
    obtain ⟨r13, hr14, h⟩ := bind_some h
    refine a_call (args := [(eA64u8 a1)]) (u := []) (r := (i6 r13)) rfl rfl (spec_l01Deg_ok a1 r13 hr14) rfl (vp (.bool ((decide (r13 < 0)))) rfl (vp (.bool ((decide (r13 < 0)))) rfl ?_))
    cases hb15 : (decide (r13 < 0))
    · have h := ite_f hb15 h
      refine a_gskip rfl (a_gskip rfl (a_gskip rfl (vp (.bool false) rfl (a_nil ?_))))
      exact j_leaf false (Option.some.inj h) (by kernel_rfl)
    · have h := ite_t hb15 h
      have hl16 : LdOk [] (eA64u8 a2) [] 64 true (eA64u8 a2) := (.nil rfl rfl rfl)
      refine gq (eA64u8 a2) rfl (ld_own (i := ⟨.arr 64 5, 64, 64, (eA64u8 (vrep 64 (0 : Int)))⟩) rfl rfl rfl hl16) hl16.c ?_
      obtain ⟨r17, hr18, h⟩ := bind_some h
      refine a_gcall rfl (args := [(eA64u8 a2)]) (u := []) (r := (i6 r17)) rfl rfl (spec_l01Deg_ok a2 r17 hr18) rfl (gp (.bool ((decide (r17 < 0)))) rfl rfl (vp (.bool ((decide (r17 < 0)))) rfl (a_nil ?_)))
      exact j_leaf ((decide (r17 < 0))) (Option.some.inj h) (by kernel_rfl)
def spec_l01Mod_c : ACode := (.seq (.region 0 [q 4 (.box 24 (t 1)), q 5 (.box 24 (t 2)), q 6 (.alloc 24)] false) (.seq (.region 1 [q 10 (.mov (t 0)), q 11 (.load 24 (t 4)), q 12 (.load 24 (t 5)), q 13 (.call 0 (.func 103) [(t 10), (t 11), (t 12)]), q 9 (.mov (t 13)), q 14 (.extract (t 9) 0), q 15 (.extract (t 9) 1), q 7 (.alloc 24), q 8 (.alloc 24), ⟨none, .store 24 (t 7) (t 14), none, []⟩, ⟨none, .store 24 (t 8) (t 15), none, []⟩] false) (.seq (.region 2 [q 16 (.load 24 (t 8)), ⟨none, .store 24 (t 6) (t 16), none, []⟩] false) .ret)))
def spec_l01Mod_L : Live := [(0, [0, 1, 2]), (1, [0, 4, 5, 6]), (2, [6, 8])]
noncomputable def spec_l01Mod (a0 : Int) (a1 : (Vec Int 64)) (a2 : (Vec Int 64)) : Option (Vec Int 64) :=
  (Option.bind (spec_l01Divide a0 a1 a2) fun r3 => (some r3.2))
theorem spec_l01Mod_ok (a0 : Int) (a1 : (Vec Int 64)) (a2 : (Vec Int 64)) (r : (Vec Int 64)) (h : spec_l01Mod a0 a1 a2 = some r) : Den Try.prog 95 [(i6 a0), (eA64u8 a1), (eA64u8 a2)] { r := (eA64u8 r) } := by
  refine den_of (rs := [(eA64u8 r)]) (ac := spec_l01Mod_c) (L := spec_l01Mod_L) (n := 17) (m := []) (c := Try.f95.body.getD .skip) good Try.func95 (by kernel_rfl) (by kernel_rfl) Try.ntmps95 rfl rfl (by kernel_rfl) rfl rfl ?_
  refine a_st (σ' := ⟨[(0, (i6 a0)), (1, (eA64u8 a1)), (2, (eA64u8 a2))], []⟩) (by kernel_rfl) ?_
  unfold spec_l01Mod_c
  refine sr (vo 1400 (eA64u8 a1) rfl rfl (vo 1500 (eA64u8 a2) rfl rfl (vo 1600 (eA64u8 ((vrep 64 (0 : Int)))) rfl rfl (nx ⟨[(0, (i6 a0)), (4, (ow 4)), (5, (ow 5)), (6, (ow 6))], [(4, (bk (eA64u8 a1))), (5, (bk (eA64u8 a2))), (6, (bk (eA64u8 ((vrep 64 (0 : Int))))))]⟩ (by kernel_rfl) (sr (vp (i6 a0) rfl (vl (eA64u8 a1) rfl rfl rfl rfl rfl rfl (vl (eA64u8 a2) rfl rfl rfl rfl rfl rfl ?_))))))))
  obtain ⟨r3, hr4, h⟩ := bind_some h
  refine a_call (args := [(i6 a0), (eA64u8 a1), (eA64u8 a2)]) (u := []) (r := (.tuple [(eA64u8 r3.1), (eA64u8 r3.2)])) rfl rfl (spec_l01Divide_ok a0 a1 a2 r3 hr4) rfl (vp (.tuple [(eA64u8 r3.1), (eA64u8 r3.2)]) rfl (vb (eA64u8 r3.1) rfl rfl (vb (eA64u8 r3.2) rfl rfl (vo 1700 (eA64u8 ((vrep 64 (0 : Int)))) rfl rfl (vo 1800 (eA64u8 ((vrep 64 (0 : Int)))) rfl rfl (vs (eA64u8 r3.1) rfl rfl (fun _ => rfl) rfl rfl rfl rfl rfl rfl (vs (eA64u8 r3.2) rfl rfl (fun _ => rfl) rfl rfl rfl rfl rfl rfl (nx ⟨[(6, (ow 6)), (8, (ow 8))], [(6, (bk (eA64u8 ((vrep 64 (0 : Int)))))), (8, (bk (eA64u8 r3.2)))]⟩ (by kernel_rfl) (sr ?_)))))))))
  refine vl (eA64u8 r3.2) rfl rfl rfl rfl rfl rfl (vs (eA64u8 r3.2) rfl rfl (fun _ => rfl) rfl rfl rfl rfl rfl rfl (nx _ rfl (a_ret ?_)))
  have hl9 : LdOk [] (eA64u8 r3.2) [] 64 true (eA64u8 r3.2) := (.nil rfl rfl rfl)
  refine ⟨.inr rfl, ?_⟩
  rw [Try.results95]
  cases h
  exact ⟨_, _, _, _, _, ld_own (i := ⟨.arr 64 5, 64, 64, (eA64u8 (vrep 64 (0 : Int)))⟩) rfl rfl rfl hl9, hl9.c, .inl ⟨rfl, .inl rfl⟩, rfl, rfl⟩
end Go.Proofs.Ytcgohoclbjgmkaa
