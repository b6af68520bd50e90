/- Functions of the program: plain Lean functions, and that the program computes them. Printed by gen.py. -/
import Derived.Test.YtpjdjfhbfcekaaaFnT
import Derived.Test.YtpjdjfhbfcekaaaFn2
import Derived.Test.YtpjdjfhbfcekaaaFn3
import Derived.Test.YtpjdjfhbfcekaaaFn4
namespace Go.Proofs.Ytpjdjfhbfcekaaa
open Go.Abs Go.Proofs
set_option linter.unusedSimpArgs false
set_option linter.unusedVariables false
set_option maxHeartbeats 16000000
attribute [local irreducible] Abs.acode Abs.aops Abs.aopsT Abs.thenK Abs.blockK

def impl_prime_factors_c : ACode := (.seq (.region 0 [q 4 (.asg 1 (.const (.slice none 0 0)) 52)] false) (.seq (.region 1 [q 5 (.asg 2 (.const (.slice none 0 0)) 52)] false) (.seq (.seq (.region 2 [q 6 (.asg 0 (.const (.int .i64 1)) 2)] false) (.block 0 (.loop (.seq (.seq (.region 3 [q 12 (.mov (t 1)), q 13 (.call 0 (.func 31) [(t 12)]), q 14 (.bin .gtr 2 (t 13) (.const (.int .i64 0)))] false) (.cond (t 14) .skip (.exit 0))) (.seq (.block 1 (.seq (.seq (.region 5 [q 17 (.mov (t 6)), q 18 (.bin .mul 2 (.const (.int .i64 2)) (t 17)), q 19 (.mov (t 1)), q 20 (.call 0 (.func 31) [(t 19)]), q 21 (.bin .gtr 2 (t 18) (t 20))] false) (.cond (t 21) (.seq (.region 6 [q 22 (.mov (t 5)), q 23 (.mov (t 0)), q 24 (.mov (t 1)), q 25 (.mov (t 0)), q 26 (.mov (t 1)), q 27 (.call 0 (.func 30) [(t 26)]), q 28 (.call 0 (.func 39) [(t 25), (t 27)]), q 29 (.call 0 (.func 38) [(t 23), (t 24), (t 28)]), q 30 (.build 55 [(0, (t 29)), (1, (.const (.int .i64 1)))]), q 31 (.bslice 0 52 1 [(0, (t 30))]), q 32 (.blt 0 .append [(t 22), (t 31)] [52, 52]), q 5 (.asg 2 (t 32) 52)] false) (.exit 0)) .skip)) (.seq (.region 7 [q 33 (.call 0 (.func 40) []), q 7 (.asg 1 (t 33) 39)] false) (.seq (.seq (.region 8 [q 34 (.mov (t 6)), q 35 (.mov (.const (.int .i64 0)))] false) (.block 2 (.loop (.seq (.region 9 [q 36 (.bin .lss 2 (t 35) (t 34))] false) (.seq (.cond (t 36) .skip (.exit 2)) (.seq (.block 3 (.region 10 [q 37 (.mov (t 0)), q 38 (.mov (t 7)), q 39 (.mov (t 0)), q 40 (.mov (t 1)), q 41 (.call 0 (.func 41) [(t 37), (t 38), (t 39), (t 40)]), q 7 (.asg 1 (t 41) 39)] false)) (.region 11 [q 42 (.bin .add 2 (t 35) (.const (.int .i64 1))), q 35 (.mov (t 42))] false))))))) (.seq (.region 12 [q 43 (.mov (t 0)), q 44 (.mov (t 0)), q 45 (.mov (t 7)), q 46 (.call 0 (.func 40) []), q 47 (.call 0 (.func 43) [(t 44), (t 45), (t 46), (.const (.int .i64 (-1)))]), q 48 (.mov (t 1)), q 49 (.call 0 (.func 42) [(t 43), (t 47), (t 48)]), q 8 (.asg 1 (t 49) 39)] false) (.block 4 (.loop (.seq (.seq (.region 13 [q 50 (.mov (t 8)), q 51 (.call 0 (.func 31) [(t 50)]), q 52 (.bin .gtr 2 (t 51) (.const (.int .i64 0)))] false) (.cond (t 52) .skip (.exit 4))) (.block 5 (.seq (.region 14 [q 53 (.mov (t 0)), q 54 (.mov (t 8)), q 55 (.mov (t 6)), q 56 (.call 0 (.func 44) [(t 53), (t 54), (t 55)]), q 9 (.asg 1 (t 56) 39)] false) (.seq (.region 15 [q 58 (.mov (t 0)), q 59 (.mov (t 1)), q 60 (.mov (t 9)), q 61 (.call 0 (.func 45) [(t 58), (t 59), (t 60)]), q 57 (.mov (t 61)), q 62 (.extract (t 57) 0), q 63 (.extract (t 57) 1), q 10 (.asg 1 (t 62) 39), q 11 (.asg 0 (t 63) 2)] false) (.seq (.region 16 [q 64 (.mov (t 10)), q 1 (.asg 1 (t 64) 39)] false) (.seq (.region 17 [q 66 (.mov (t 0)), q 67 (.mov (t 8)), q 68 (.mov (t 9)), q 69 (.call 0 (.func 45) [(t 66), (t 67), (t 68)]), q 65 (.mov (t 69)), q 70 (.extract (t 65) 0), q 71 (.extract (t 65) 1), q 8 (.asg 1 (t 70) 39)] false) (.region 18 [q 72 (.mov (t 5)), q 73 (.mov (t 9)), q 74 (.mov (t 11)), q 75 (.build 55 [(0, (t 73)), (1, (t 74))]), q 76 (.bslice 0 52 1 [(0, (t 75))]), q 77 (.blt 0 .append [(t 72), (t 76)] [52, 52]), q 5 (.asg 2 (t 77) 52)] false)))))))))))))) (.region 4 [q 15 (.mov (t 6)), q 16 (.bin .add 2 (t 15) (.const (.int .i64 1))), q 6 (.asg 0 (t 16) 2)] false)))))) (.seq (.region 19 [q 78 (.mov (t 5)), q 79 (.call 1 (.func 46) [(t 78), (.func 47)])] false) (.seq (.region 20 [q 80 (.mov (t 5)), q 4 (.asg 1 (t 80) 52)] false) .ret)))))
def impl_prime_factors_L : Live := [(0, [0, 1]), (1, [0, 1]), (2, [0, 1, 5]), (3, [0, 1, 5, 6]), (4, [0, 1, 5, 6]), (5, [0, 1, 5, 6]), (6, [0, 1, 5]), (7, [0, 1, 5, 6]), (8, [0, 1, 5, 6, 7]), (9, [0, 1, 5, 6, 7, 34, 35]), (10, [0, 1, 5, 6, 7, 34, 35]), (11, [0, 1, 5, 6, 7, 34, 35]), (12, [0, 1, 5, 6, 7]), (13, [0, 1, 5, 6, 8]), (14, [0, 1, 5, 6, 8]), (15, [0, 1, 5, 6, 8, 9]), (16, [0, 5, 6, 8, 9, 10, 11]), (17, [0, 1, 5, 6, 8, 9, 11]), (18, [0, 1, 5, 6, 8, 9, 11]), (19, [5]), (20, [5]), (100014, [0, 1, 5, 6, 14]), (100021, [0, 1, 5, 6, 21]), (100036, [0, 1, 5, 6, 7, 34, 35, 36]), (100052, [0, 1, 5, 6, 8, 52])]
noncomputable def impl_prime_factors_l2 (x761 : Int) (a0 : Int) (x760 : (List Int)) (x1077 : (List Int)) (x1078 : Int) : Option (((List Int) × Int) ⊕ (List Int)) :=
  (if (decide (x1078 < x761)) then (Option.bind (impl_prime_power a0 x1077 a0 x760) fun r1086 => (some (.inl ((r1086, IntKind.i64.wrap (x1078 + 1)))))) else (some (.inr x1077)))
noncomputable def impl_prime_factors_l3 (a0 : Int) (x761 : Int) (x1105 : (List Int)) (x1106 : (List Int)) (x1107 : (List ((List Int) × Int))) : Option (((List Int) × (List Int) × (List ((List Int) × Int))) ⊕ (((List Int) × (List ((List Int) × Int))) ⊕ (((List Int) × Int × (List ((List Int) × Int))) ⊕ (List ((List Int) × Int))))) :=
  (Option.bind (impl_row_degree x1106) fun r1121 => (if (decide (r1121 > 0)) then (Option.bind (impl_prime_withDegree a0 x1106 x761) fun r1124 => (Option.bind (impl_prime_strip a0 x1105 r1124) fun r1126 => (Option.bind (impl_prime_strip a0 x1106 r1124) fun r1128 => (ifp ((x1107.length + ([(r1124, r1126.2)] : List ((List Int) × Int)).length) * 32 ≤ 140737488355328) ((some (.inl ((r1126.1, r1128.1, (x1107 ++ ([(r1124, r1126.2)]))))))))))) else (some (.inr (((.inl (x1105, x1107))))))))
noncomputable def impl_prime_factors_l1 (a0 : Int) (x760 : (List Int)) (x761 : Int) (x762 : (List ((List Int) × Int))) : Option (((List Int) × Int × (List ((List Int) × Int))) ⊕ (List ((List Int) × Int))) :=
  (Option.bind (impl_row_degree x760) fun r953 => (if (decide (r953 > 0)) then (Option.bind (α := (((List Int) × (List ((List Int) × Int))) ⊕ (((List Int) × Int × (List ((List Int) × Int))) ⊕ (List ((List Int) × Int))))) ((Option.bind (impl_row_degree x760) fun r1050 => (if (decide ((IntKind.i64.wrap (2 * x761)) > r1050)) then (Option.bind (impl_row_lead x760) fun r1132 => (Option.bind (impl_prime_inverse a0 r1132) fun r1134 => (Option.bind (impl_prime_scale a0 x760 r1134) fun r1136 => (ifp ((x762.length + ([(r1136, 1)] : List ((List Int) × Int)).length) * 32 ≤ 140737488355328) ((some (.inr ((.inr (((x762 ++ ([(r1136, 1)]))))))))))))) else (Option.bind (impl_letter) fun r1053 => (Option.bind (α := (List Int)) ((loopM (fun s : ((List Int) × Int) => impl_prime_factors_l2 x761 a0 x760 s.1 s.2) (r1053, 0))) fun x1070 => (Option.bind (impl_letter) fun r1089 => (Option.bind (impl_prime_combine a0 x1070 r1089 (-1)) fun r1091 => (Option.bind (impl_prime_gcd a0 r1091 x760) fun r1093 => (loopM (fun s : ((List Int) × (List Int) × (List ((List Int) × Int))) => impl_prime_factors_l3 a0 x761 s.1 s.2.1 s.2.2) (x760, r1093, x762)))))))))) fun z => match z with | .inl ⟨x1045, x1046⟩ => (some (.inl ((x1045, IntKind.i64.wrap (x761 + 1), x1046)))) | .inr r1139 => (some r1139)) else (some (.inr x762))))
noncomputable def impl_prime_factors (a0 : Int) (a1 : (List Int)) : Option (List ((List Int) × Int)) :=
  (Option.bind (α := (List ((List Int) × Int))) ((loopM (fun s : ((List Int) × Int × (List ((List Int) × Int))) => impl_prime_factors_l1 a0 s.1 s.2.1 s.2.2) (a1, 1, []))) fun x569 => (Option.bind (slices_SortFunc_impl_factor_impl_factor_of_mut_impl_prime_factors_c1 x569) fun r1141 => (ifp (r1141.length = x569.length) (some r1141))))
theorem impl_prime_factors_ok (a0 : Int) (a1 : (List Int)) (r : (List ((List Int) × Int))) (h : impl_prime_factors a0 a1 = some r) : Den Try.prog 32 [(i6 a0), (eSi64 a1)] { r := (eST_Si64_i64_Z r) } := by
  refine den_of (rs := [(eST_Si64_i64_Z r)]) (ac := impl_prime_factors_c) (L := impl_prime_factors_L) (n := 81) (m := [(1, 1), (4, 1), (5, 2), (7, 1), (8, 1), (9, 1), (10, 1), (79, 1)]) (c := Try.f32.body.getD .skip) good Try.func32 (by kernel_rfl) (by kernel_rfl) Try.ntmps32 rfl rfl (by kernel_rfl) rfl rfl ?_
  refine a_st (σ' := ⟨[(0, (i6 a0)), (1, (eSi64 a1))], []⟩) (by kernel_rfl) ?_
  unfold impl_prime_factors_c
  refine sr (vp (eST_Si64_i64_Z ([])) rfl (nx ⟨[(0, (i6 a0)), (1, (eSi64 a1))], []⟩ (by kernel_rfl) (sr (vu (.osl 1500) [(1500, (bk (.row 2 (([]).map eT_Si64_i64_Z))))] rfl trivial rfl (nx ⟨[(0, (i6 a0)), (1, (eSi64 a1)), (5, (.osl 5))], [(5, (bk (.row 2 (([]).map eT_Si64_i64_Z))))]⟩ (by kernel_rfl) ?_)))))
  obtain ⟨y570, hy571, hk572⟩ := bind_some h
  clear h
  refine a_join (emb := fun (s : (List ((List Int) × Int))) => ⟨[(5, (.osl 5))], [(5, (bk (.row 2 (s.map eT_Si64_i64_Z))))]⟩) (pre := fun s => s = y570) ?_ ?_
  · rintro x569 rfl
    have h := hk572
    refine a_st (σ' := ⟨[(5, (.osl 5))], [(5, (bk (.row 2 (x569.map eT_Si64_i64_Z))))]⟩) (by kernel_rfl) (sr (vp (.osl 5) rfl ?_))
    obtain ⟨r1141, hr1142, h⟩ := bind_some h
    obtain ⟨hl1143, h⟩ := ifp_some h
    refine a_callM (args := [(.mutsl 2 (x569.map eT_Si64_i64_Z)), (.clo 47 [] [])]) (i := 0) (id := 5) (r := (.tuple [])) (c := (.row 2 (r1141.map eT_Si64_i64_Z))) rfl rfl (slices_SortFunc_impl_factor_impl_factor_of_mut_impl_prime_factors_c1_ok x569 r1141 hr1142) rfl (shape_map hl1143) (nx ⟨[(5, (.osl 5))], [(5, (bk (.row 2 (r1141.map eT_Si64_i64_Z))))]⟩ (by kernel_rfl) (sr (vp (.osl 5) rfl (vu (eST_Si64_i64_Z r1141) [(5, (bf (.row 2 (r1141.map eT_Si64_i64_Z))))] rfl trivial rfl (nx _ rfl (a_ret ?_))))))
    refine ⟨.inr rfl, ?_⟩
    rw [Try.results32]
    cases h
    exact ⟨_, _, _, _, _, rfl, trivial, .inl ⟨rfl, .inl rfl⟩, rfl, rfl⟩
  · have h := hy571
    refine sr (vp (i6 1) rfl (nx ⟨[(0, (i6 a0)), (1, (eSi64 a1)), (5, (.osl 5)), (6, (i6 1))], [(5, (bk (.row 2 (([]).map eT_Si64_i64_Z))))]⟩ (by kernel_rfl) (a_block ?_)))
    refine a_loop (emb := fun (s : ((List Int) × Int × (List ((List Int) × Int)))) => ⟨[(0, (i6 a0)), (1, (eSi64 s.1)), (5, (.osl 5)), (6, (i6 s.2.1))], [(5, (bk (.row 2 (s.2.2.map eT_Si64_i64_Z))))]⟩) (body := (fun s : ((List Int) × Int × (List ((List Int) × Int))) => impl_prime_factors_l1 a0 s.1 s.2.1 s.2.2)) (G := fun q => some q = some y570) h rfl ?_ (by kernel_rfl)
    rintro X950 ⟨x760, x761, x762⟩ x951 h hX952
    have h : impl_prime_factors_l1 a0 x760 x761 x762 = some x951 := h
    refine a_st (σ' := ⟨[(0, (i6 a0)), (1, (eSi64 x760)), (5, (.osl 5)), (6, (i6 x761))], [(5, (bk (.row 2 (x762.map eT_Si64_i64_Z))))]⟩) (by kernel_rfl) (a_seq (sr (vp (eSi64 x760) rfl ?_)))
    obtain ⟨r953, hr954, h⟩ := bind_some h
    refine a_call (args := [(eSi64 x760)]) (u := []) (r := (i6 r953)) rfl rfl (impl_row_degree_ok x760 r953 hr954) rfl (vp (.bool ((decide (r953 > 0)))) rfl (nx ⟨[(0, (i6 a0)), (1, (eSi64 x760)), (5, (.osl 5)), (6, (i6 x761)), (14, (.bool ((decide (r953 > 0)))))], [(5, (bk (.row 2 (x762.map eT_Si64_i64_Z))))]⟩ (by kernel_rfl) ?_))
    cases hb955 : (decide (r953 > 0))
    · have h := ite_f hb955 h
      refine a_cond_f rfl (a_exit (t_exit ?_))
      cases h
      have h := hX952
      refine t_exit (b_exit ?_)
      exact j_leaf x762 (Option.some.inj h) (by kernel_rfl)
    · have h := ite_t hb955 h
      refine a_cond_t rfl (a_skip (a_next (σ' := ⟨[(0, (i6 a0)), (1, (eSi64 x760)), (5, (.osl 5)), (6, (i6 x761))], [(5, (bk (.row 2 (x762.map eT_Si64_i64_Z))))]⟩) (by kernel_rfl) ?_))
      obtain ⟨y1047, hy1048, hk1049⟩ := bind_some h
      clear h
      refine a_join (emb := fun (s : ((List Int) × (List ((List Int) × Int)))) => ⟨[(0, (i6 a0)), (1, (eSi64 s.1)), (5, (.osl 5)), (6, (i6 x761))], [(5, (bk (.row 2 (s.2.map eT_Si64_i64_Z))))]⟩) (pre := fun s => (.inl s) = y1047) ?_ ?_
      · rintro ⟨x1045, x1046⟩ rfl
        have h := hk1049
        refine a_st (σ' := ⟨[(0, (i6 a0)), (1, (eSi64 x1045)), (5, (.osl 5)), (6, (i6 x761))], [(5, (bk (.row 2 (x1046.map eT_Si64_i64_Z))))]⟩) (by kernel_rfl) (a_region (vp (i6 x761) rfl (vp (i6 (IntKind.i64.wrap (x761 + 1))) rfl (vp (i6 (IntKind.i64.wrap (x761 + 1))) rfl (a_nil ?_)))))
        cases h
        exact a_again (by kernel_rfl) hX952
      · have h := hy1048
        refine a_block (a_seq (sr (vp (i6 x761) rfl (vp (i6 (IntKind.i64.wrap (2 * x761))) rfl (vp (eSi64 x760) rfl ?_)))))
        obtain ⟨r1050, hr1051, h⟩ := bind_some h
        refine a_call (args := [(eSi64 x760)]) (u := []) (r := (i6 r1050)) rfl rfl (impl_row_degree_ok x760 r1050 hr1051) rfl (vp (.bool ((decide ((IntKind.i64.wrap (2 * x761)) > r1050)))) rfl (nx ⟨[(0, (i6 a0)), (1, (eSi64 x760)), (5, (.osl 5)), (6, (i6 x761)), (21, (.bool ((decide ((IntKind.i64.wrap (2 * x761)) > r1050)))))], [(5, (bk (.row 2 (x762.map eT_Si64_i64_Z))))]⟩ (by kernel_rfl) ?_))
        cases hb1052 : (decide ((IntKind.i64.wrap (2 * x761)) > r1050))
        · have h := ite_f hb1052 h
          refine a_cond_f rfl (a_skip (a_next (σ' := ⟨[(0, (i6 a0)), (1, (eSi64 x760)), (5, (.osl 5)), (6, (i6 x761))], [(5, (bk (.row 2 (x762.map eT_Si64_i64_Z))))]⟩) (by kernel_rfl) (sr ?_)))
          obtain ⟨r1053, hr1054, h⟩ := bind_some h
          refine a_call (args := []) (u := []) (r := (eSi64 r1053)) rfl rfl (impl_letter_ok r1053 hr1054) rfl (vp (eSi64 r1053) rfl (nx ⟨[(0, (i6 a0)), (1, (eSi64 x760)), (5, (.osl 5)), (6, (i6 x761)), (7, (eSi64 r1053))], [(5, (bk (.row 2 (x762.map eT_Si64_i64_Z))))]⟩ (by kernel_rfl) ?_))
          obtain ⟨y1071, hy1072, hk1073⟩ := bind_some h
          clear h
          refine a_join (emb := fun (s : (List Int)) => ⟨[(0, (i6 a0)), (1, (eSi64 x760)), (5, (.osl 5)), (6, (i6 x761)), (7, (eSi64 s))], [(5, (bk (.row 2 (x762.map eT_Si64_i64_Z))))]⟩) (pre := fun s => s = y1071) ?_ ?_
          · rintro x1070 rfl
            have h := hk1073
            refine a_st (σ' := ⟨[(0, (i6 a0)), (1, (eSi64 x760)), (5, (.osl 5)), (6, (i6 x761)), (7, (eSi64 x1070))], [(5, (bk (.row 2 (x762.map eT_Si64_i64_Z))))]⟩) (by kernel_rfl) (sr (vp (i6 a0) rfl (vp (i6 a0) rfl (vp (eSi64 x1070) rfl ?_))))
            obtain ⟨r1089, hr1090, h⟩ := bind_some h
            refine a_call (args := []) (u := []) (r := (eSi64 r1089)) rfl rfl (impl_letter_ok r1089 hr1090) rfl ?_
            obtain ⟨r1091, hr1092, h⟩ := bind_some h
            refine a_call (args := [(i6 a0), (eSi64 x1070), (eSi64 r1089), (i6 (-1))]) (u := []) (r := (eSi64 r1091)) rfl rfl (impl_prime_combine_ok a0 x1070 r1089 (-1) r1091 hr1092) rfl (vp (eSi64 x760) rfl ?_)
            obtain ⟨r1093, hr1094, h⟩ := bind_some h
            refine a_call (args := [(i6 a0), (eSi64 r1091), (eSi64 x760)]) (u := []) (r := (eSi64 r1093)) rfl rfl (impl_prime_gcd_ok a0 r1091 x760 r1093 hr1094) rfl (vp (eSi64 r1093) rfl (nx ⟨[(0, (i6 a0)), (1, (eSi64 x760)), (5, (.osl 5)), (6, (i6 x761)), (8, (eSi64 r1093))], [(5, (bk (.row 2 (x762.map eT_Si64_i64_Z))))]⟩ (by kernel_rfl) (a_block ?_)))
            refine a_loop (emb := fun (s : ((List Int) × (List Int) × (List ((List Int) × Int)))) => ⟨[(0, (i6 a0)), (1, (eSi64 s.1)), (5, (.osl 5)), (6, (i6 x761)), (8, (eSi64 s.2.1))], [(5, (bk (.row 2 (s.2.2.map eT_Si64_i64_Z))))]⟩) (body := (fun s : ((List Int) × (List Int) × (List ((List Int) × Int))) => impl_prime_factors_l3 a0 x761 s.1 s.2.1 s.2.2)) (G := fun q => some q = some y1047) h rfl ?_ (by kernel_rfl)
            rintro X1118 ⟨x1105, x1106, x1107⟩ x1119 h hX1120
            have h : impl_prime_factors_l3 a0 x761 x1105 x1106 x1107 = some x1119 := h
            refine a_st (σ' := ⟨[(0, (i6 a0)), (1, (eSi64 x1105)), (5, (.osl 5)), (6, (i6 x761)), (8, (eSi64 x1106))], [(5, (bk (.row 2 (x1107.map eT_Si64_i64_Z))))]⟩) (by kernel_rfl) (a_seq (sr (vp (eSi64 x1106) rfl ?_)))
            obtain ⟨r1121, hr1122, h⟩ := bind_some h
            refine a_call (args := [(eSi64 x1106)]) (u := []) (r := (i6 r1121)) rfl rfl (impl_row_degree_ok x1106 r1121 hr1122) rfl (vp (.bool ((decide (r1121 > 0)))) rfl (nx ⟨[(0, (i6 a0)), (1, (eSi64 x1105)), (5, (.osl 5)), (6, (i6 x761)), (8, (eSi64 x1106)), (52, (.bool ((decide (r1121 > 0)))))], [(5, (bk (.row 2 (x1107.map eT_Si64_i64_Z))))]⟩ (by kernel_rfl) ?_))
            cases hb1123 : (decide (r1121 > 0))
            · have h := ite_f hb1123 h
              refine a_cond_f rfl (a_exit (t_exit ?_))
              cases h
              have h := hX1120
              refine t_exit (b_exit (b_norm ?_))
              exact j_leaf (x1105, x1107) (Option.some.inj h) (by kernel_rfl)
            · have h := ite_t hb1123 h
              refine a_cond_t rfl (a_skip (a_next (σ' := ⟨[(0, (i6 a0)), (1, (eSi64 x1105)), (5, (.osl 5)), (6, (i6 x761)), (8, (eSi64 x1106))], [(5, (bk (.row 2 (x1107.map eT_Si64_i64_Z))))]⟩) (by kernel_rfl) (a_block (sr (vp (i6 a0) rfl (vp (eSi64 x1106) rfl (vp (i6 x761) rfl ?_)))))))
              obtain ⟨r1124, hr1125, h⟩ := bind_some h
              refine a_call (args := [(i6 a0), (eSi64 x1106), (i6 x761)]) (u := []) (r := (eSi64 r1124)) rfl rfl (impl_prime_withDegree_ok a0 x1106 x761 r1124 hr1125) rfl (vp (eSi64 r1124) rfl (nx ⟨[(0, (i6 a0)), (1, (eSi64 x1105)), (5, (.osl 5)), (6, (i6 x761)), (8, (eSi64 x1106)), (9, (eSi64 r1124))], [(5, (bk (.row 2 (x1107.map eT_Si64_i64_Z))))]⟩ (by kernel_rfl) (sr (vp (i6 a0) rfl (vp (eSi64 x1105) rfl (vp (eSi64 r1124) rfl ?_))))))
              obtain ⟨r1126, hr1127, h⟩ := bind_some h
              refine a_call (args := [(i6 a0), (eSi64 x1105), (eSi64 r1124)]) (u := []) (r := (.tuple [(eSi64 r1126.1), (i6 r1126.2)])) rfl rfl (impl_prime_strip_ok a0 x1105 r1124 r1126 hr1127) rfl (vp (.tuple [(eSi64 r1126.1), (i6 r1126.2)]) rfl (vb (eSi64 r1126.1) rfl rfl (vb (i6 r1126.2) rfl rfl (vp (eSi64 r1126.1) rfl (vp (i6 r1126.2) rfl (nx ⟨[(0, (i6 a0)), (5, (.osl 5)), (6, (i6 x761)), (8, (eSi64 x1106)), (9, (eSi64 r1124)), (10, (eSi64 r1126.1)), (11, (i6 r1126.2))], [(5, (bk (.row 2 (x1107.map eT_Si64_i64_Z))))]⟩ (by kernel_rfl) (sr (vp (eSi64 r1126.1) rfl (vp (eSi64 r1126.1) rfl ?_)))))))))
              refine nx ⟨[(0, (i6 a0)), (1, (eSi64 r1126.1)), (5, (.osl 5)), (6, (i6 x761)), (8, (eSi64 x1106)), (9, (eSi64 r1124)), (11, (i6 r1126.2))], [(5, (bk (.row 2 (x1107.map eT_Si64_i64_Z))))]⟩ (by kernel_rfl) (sr (vp (i6 a0) rfl (vp (eSi64 x1106) rfl (vp (eSi64 r1124) rfl ?_))))
              obtain ⟨r1128, hr1129, h⟩ := bind_some h
              refine a_call (args := [(i6 a0), (eSi64 x1106), (eSi64 r1124)]) (u := []) (r := (.tuple [(eSi64 r1128.1), (i6 r1128.2)])) rfl rfl (impl_prime_strip_ok a0 x1106 r1124 r1128 hr1129) rfl (vp (.tuple [(eSi64 r1128.1), (i6 r1128.2)]) rfl (vb (eSi64 r1128.1) rfl rfl (vb (i6 r1128.2) rfl rfl (vp (eSi64 r1128.1) rfl (nx ⟨[(0, (i6 a0)), (1, (eSi64 r1126.1)), (5, (.osl 5)), (6, (i6 x761)), (8, (eSi64 r1128.1)), (9, (eSi64 r1124)), (11, (i6 r1126.2))], [(5, (bk (.row 2 (x1107.map eT_Si64_i64_Z))))]⟩ (by kernel_rfl) (a_region (vp (.osl 5) rfl (vp (eSi64 r1124) rfl (vp (i6 r1126.2) rfl ?_)))))))))
              refine vq (eT_Si64_i64_Z (r1124, r1126.2)) rfl ⟨rfl, (all_cons ⟨(Nat.le_of_ble_eq_true rfl), rfl⟩ (all_cons ⟨(Nat.le_of_ble_eq_true rfl), rfl⟩ all_nil))⟩ (vq (.sl 2 true (([(r1124, r1126.2)]).map eT_Si64_i64_Z)) rfl ⟨(Nat.le_of_ble_eq_true rfl), (Nat.le_of_ble_eq_true rfl), (all_cons ⟨(Nat.le_of_ble_eq_true rfl), rfl⟩ all_nil)⟩ ?_)
              obtain ⟨hc1130, h⟩ := ifp_some h
              refine vu (.osl 8700) [(8700, (bk (.row 2 (((x1107 ++ ([(r1124, r1126.2)]))).map eT_Si64_i64_Z)))), (5, none)] (app_run (i := ⟨.struct [(0, 39), (1, 2)], 2, 32, (eT_Si64_i64_Z ([], (0 : Int)))⟩) (f := eT_Si64_i64_Z) (l := x1107) (l2 := [(r1124, r1126.2)]) rfl rfl rfl rfl (fun _ => rfl) rfl rfl) (app_c (f := eT_Si64_i64_Z) (s := 2) (sz := 2) (by' := 32) (u := []) (id := 5) hc1130 (.inr rfl) rfl rfl rfl) rfl (vp (.osl 8700) rfl (a_nil (b_norm ?_)))
              cases h
              exact a_again (by kernel_rfl) hX1120
          · have h := hy1072
            refine sr (vp (i6 x761) rfl (vp (i6 0) rfl (nx ⟨[(0, (i6 a0)), (1, (eSi64 x760)), (5, (.osl 5)), (6, (i6 x761)), (7, (eSi64 r1053)), (34, (i6 x761)), (35, (i6 0))], [(5, (bk (.row 2 (x762.map eT_Si64_i64_Z))))]⟩ (by kernel_rfl) (a_block ?_))))
            refine a_loop (emb := fun (s : ((List Int) × Int)) => ⟨[(0, (i6 a0)), (1, (eSi64 x760)), (5, (.osl 5)), (6, (i6 x761)), (7, (eSi64 s.1)), (34, (i6 x761)), (35, (i6 s.2))], [(5, (bk (.row 2 (x762.map eT_Si64_i64_Z))))]⟩) (body := (fun s : ((List Int) × Int) => impl_prime_factors_l2 x761 a0 x760 s.1 s.2)) (G := fun q => some q = some y1071) h rfl ?_ (by kernel_rfl)
            rintro X1082 ⟨x1077, x1078⟩ x1083 h hX1084
            have h : impl_prime_factors_l2 x761 a0 x760 x1077 x1078 = some x1083 := h
            refine a_st (σ' := ⟨[(0, (i6 a0)), (1, (eSi64 x760)), (5, (.osl 5)), (6, (i6 x761)), (7, (eSi64 x1077)), (34, (i6 x761)), (35, (i6 x1078))], [(5, (bk (.row 2 (x762.map eT_Si64_i64_Z))))]⟩) (by kernel_rfl) (sr (vp (.bool ((decide (x1078 < x761)))) rfl (nx ⟨[(0, (i6 a0)), (1, (eSi64 x760)), (5, (.osl 5)), (6, (i6 x761)), (7, (eSi64 x1077)), (34, (i6 x761)), (35, (i6 x1078)), (36, (.bool ((decide (x1078 < x761)))))], [(5, (bk (.row 2 (x762.map eT_Si64_i64_Z))))]⟩ (by kernel_rfl) (a_seq ?_))))
            cases hb1085 : (decide (x1078 < x761))
            · have h := ite_f hb1085 h
              refine a_cond_f rfl (a_exit (t_exit ?_))
              cases h
              have h := hX1084
              refine t_exit (b_exit ?_)
              exact j_leaf x1077 (Option.some.inj h) (by kernel_rfl)
            · have h := ite_t hb1085 h
              refine a_cond_t rfl (a_skip (a_next (σ' := ⟨[(0, (i6 a0)), (1, (eSi64 x760)), (5, (.osl 5)), (6, (i6 x761)), (7, (eSi64 x1077)), (34, (i6 x761)), (35, (i6 x1078))], [(5, (bk (.row 2 (x762.map eT_Si64_i64_Z))))]⟩) (by kernel_rfl) (a_seq (a_block (a_region (vp (i6 a0) rfl (vp (eSi64 x1077) rfl (vp (i6 a0) rfl (vp (eSi64 x760) rfl ?_)))))))))
              obtain ⟨r1086, hr1087, h⟩ := bind_some h
              refine a_call (args := [(i6 a0), (eSi64 x1077), (i6 a0), (eSi64 x760)]) (u := []) (r := (eSi64 r1086)) rfl rfl (impl_prime_power_ok a0 x1077 a0 x760 r1086 hr1087) rfl (vp (eSi64 r1086) rfl (a_nil (b_norm (a_next (σ' := ⟨[(0, (i6 a0)), (1, (eSi64 x760)), (5, (.osl 5)), (6, (i6 x761)), (7, (eSi64 r1086)), (34, (i6 x761)), (35, (i6 x1078))], [(5, (bk (.row 2 (x762.map eT_Si64_i64_Z))))]⟩) (by kernel_rfl) (a_region (vp (i6 (IntKind.i64.wrap (x1078 + 1))) rfl (vp (i6 (IntKind.i64.wrap (x1078 + 1))) rfl (a_nil ?_))))))))
              cases h
              exact a_again (by kernel_rfl) hX1084
        · have h := ite_t hb1052 h
          refine a_cond_t rfl (sr (vp (.osl 5) rfl (vp (i6 a0) rfl (vp (eSi64 x760) rfl (vp (i6 a0) rfl (vp (eSi64 x760) rfl ?_))))))
          obtain ⟨r1132, hr1133, h⟩ := bind_some h
          refine a_call (args := [(eSi64 x760)]) (u := []) (r := (i6 r1132)) rfl rfl (impl_row_lead_ok x760 r1132 hr1133) rfl ?_
          obtain ⟨r1134, hr1135, h⟩ := bind_some h
          refine a_call (args := [(i6 a0), (i6 r1132)]) (u := []) (r := (i6 r1134)) rfl rfl (impl_prime_inverse_ok a0 r1132 r1134 hr1135) rfl ?_
          obtain ⟨r1136, hr1137, h⟩ := bind_some h
          refine a_call (args := [(i6 a0), (eSi64 x760), (i6 r1134)]) (u := []) (r := (eSi64 r1136)) rfl rfl (impl_prime_scale_ok a0 x760 r1134 r1136 hr1137) rfl (vq (eT_Si64_i64_Z (r1136, 1)) rfl ⟨rfl, (all_cons ⟨(Nat.le_of_ble_eq_true rfl), rfl⟩ (all_cons ⟨(Nat.le_of_ble_eq_true rfl), rfl⟩ all_nil))⟩ (vq (.sl 2 true (([(r1136, 1)]).map eT_Si64_i64_Z)) rfl ⟨(Nat.le_of_ble_eq_true rfl), (Nat.le_of_ble_eq_true rfl), (all_cons ⟨(Nat.le_of_ble_eq_true rfl), rfl⟩ all_nil)⟩ ?_))
          obtain ⟨hc1138, h⟩ := ifp_some h
          refine vu (.osl 4200) [(4200, (bk (.row 2 (((x762 ++ ([(r1136, 1)]))).map eT_Si64_i64_Z)))), (5, none)] (app_run (i := ⟨.struct [(0, 39), (1, 2)], 2, 32, (eT_Si64_i64_Z ([], (0 : Int)))⟩) (f := eT_Si64_i64_Z) (l := x762) (l2 := [(r1136, 1)]) rfl rfl rfl rfl (fun _ => rfl) rfl rfl) (app_c (f := eT_Si64_i64_Z) (s := 2) (sz := 2) (by' := 32) (u := []) (id := 5) hc1138 (.inr rfl) rfl rfl rfl) rfl (vp (.osl 4200) rfl (nx _ rfl (a_exit (t_exit (b_other rfl (t_exit ?_))))))
          cases h
          have h := hk1049
          cases h
          have h := hX952
          refine t_exit (b_exit ?_)
          exact j_leaf ((x762 ++ ([(r1136, 1)]))) (Option.some.inj h) (by kernel_rfl)
def impl_prime_isIrreducible_c : ACode := (.seq (.region 0 [q 4 (.asg 0 (.const (.bool false)) 4)] false) (.seq (.seq (.region 1 [q 6 (.mov (t 1)), q 7 (.call 0 (.func 30) [(t 6)]), q 8 (.bin .neq 2 (t 7) (.const (.int .i64 1))), q 9 (.mov (t 8)), ⟨some 10, .mov (t 1), some (9, false), []⟩, ⟨some 11, .call 0 (.func 31) [(t 10)], some (9, false), []⟩, ⟨some 12, .bin .lss 2 (t 11) (.const (.int .i64 1)), some (9, false), []⟩, q 13 (.pick (t 9) (.const (.bool true)) (t 12))] false) (.cond (t 13) (.seq (.region 2 [q 4 (.asg 0 (.const (.bool false)) 4)] false) .ret) .skip)) (.seq (.region 3 [q 14 (.mov (t 0)), q 15 (.mov (t 1)), q 16 (.call 0 (.func 32) [(t 14), (t 15)]), q 5 (.asg 1 (t 16) 52)] false) (.seq (.region 4 [q 17 (.mov (t 5)), q 18 (.blt 0 .len [(t 17)] [52]), q 19 (.bin .eql 3 (t 18) (.const (.int .i64 1))), q 20 (.mov (t 19)), ⟨some 21, .mov (t 5), some (20, true), []⟩, ⟨some 22, .indexAddr 52 (t 21) (.const (.int .i64 0)), some (20, true), []⟩, ⟨some 23, .fieldAddr 55 (t 22) 1, some (20, true), []⟩, ⟨some 24, .load 2 (t 23), some (20, true), []⟩, ⟨some 25, .bin .eql 2 (t 24) (.const (.int .i64 1)), some (20, true), []⟩, q 26 (.pick (t 20) (t 25) (.const (.bool false))), q 4 (.asg 0 (t 26) 4)] false) .ret))))
def impl_prime_isIrreducible_L : Live := [(0, [0, 1]), (1, [0, 1]), (2, []), (3, [0, 1]), (4, [5]), (100013, [0, 1, 13])]
noncomputable def impl_prime_isIrreducible (a0 : Int) (a1 : (List Int)) : Option Bool :=
  (Option.bind (α := Bool) ((Option.bind (impl_row_lead a1) fun r10 => (if (r10 != 1) then (some true) else (Option.bind (impl_row_degree a1) fun r13 => (some ((decide (r13 < 1)))))))) fun x6 => (if x6 then (some false) else (Option.bind (impl_prime_factors a0 a1) fun r16 => (if ((r16.length : Int) == 1) then (ifp (0 ≤ (0 : Int) ∧ (0 : Int) < ((r16.length : Nat) : Int)) ((some (((((rd r16 (0 : Int).toNat)).2) == 1))))) else (some false)))))
theorem impl_prime_isIrreducible_ok (a0 : Int) (a1 : (List Int)) (r : Bool) (h : impl_prime_isIrreducible a0 a1 = some r) : Den Try.prog 19 [(i6 a0), (eSi64 a1)] { r := (.bool r) } := by
  refine den_of (rs := [(.bool r)]) (ac := impl_prime_isIrreducible_c) (L := impl_prime_isIrreducible_L) (n := 27) (m := [(5, 1)]) (c := Try.f19.body.getD .skip) good Try.func19 (by kernel_rfl) (by kernel_rfl) Try.ntmps19 rfl rfl (by kernel_rfl) rfl rfl ?_
  refine a_st (σ' := ⟨[(0, (i6 a0)), (1, (eSi64 a1))], []⟩) (by kernel_rfl) ?_
  unfold impl_prime_isIrreducible_c
  refine sr (vp (.bool false) rfl (nx ⟨[(0, (i6 a0)), (1, (eSi64 a1))], []⟩ (by kernel_rfl) (a_seq ?_)))
  obtain ⟨y7, hy8, hk9⟩ := bind_some h
  clear h
  refine a_join (emb := fun (s : Bool) => ⟨[(0, (i6 a0)), (1, (eSi64 a1)), (13, (.bool s))], []⟩) (pre := fun s => s = y7) ?_ ?_
  · rintro x6 rfl
    have h := hk9
    refine a_st (σ' := ⟨[(0, (i6 a0)), (1, (eSi64 a1)), (13, (.bool x6))], []⟩) (by kernel_rfl) ?_
    cases hb15 : x6
    · have h := ite_f hb15 h
      refine a_cond_f rfl (a_skip (a_next (σ' := ⟨[(0, (i6 a0)), (1, (eSi64 a1))], []⟩) (by kernel_rfl) (sr (vp (i6 a0) rfl (vp (eSi64 a1) rfl ?_)))))
      obtain ⟨r16, hr17, h⟩ := bind_some h
      refine a_call (args := [(i6 a0), (eSi64 a1)]) (u := []) (r := (eST_Si64_i64_Z r16)) rfl rfl (impl_prime_factors_ok a0 a1 r16 hr17) rfl (vp (eST_Si64_i64_Z r16) rfl (nx ⟨[(5, (eST_Si64_i64_Z r16))], []⟩ (by kernel_rfl) (sr (vp (eST_Si64_i64_Z r16) rfl (vq (i6 (r16.length : Int)) (len_run rfl rfl) trivial (vp (.bool (((r16.length : Int) == 1))) rfl (vp (.bool (((r16.length : Int) == 1))) rfl ?_)))))))
      cases hb18 : ((r16.length : Int) == 1)
      · have h := ite_f hb18 h
        refine a_gskip rfl (a_gskip rfl (a_gskip rfl (a_gskip rfl (a_gskip rfl (vp (.bool false) rfl (vp (.bool false) rfl (nx _ rfl (a_ret ?_))))))))
        refine ⟨.inr rfl, ?_⟩
        rw [Try.results19]
        cases h
        exact ⟨_, _, _, _, _, rfl, trivial, .inl ⟨rfl, .inl rfl⟩, rfl, rfl⟩
      · have h := ite_t hb18 h
        refine gp (eST_Si64_i64_Z r16) rfl rfl ?_
        obtain ⟨hc19, h⟩ := ifp_some h
        refine gq (.ref (.row 2 (r16.map eT_Si64_i64_Z)) [(0 : Int).toNat] [(0 : Int).toNat * 2]) rfl rfl (lmap hc19) (gq (.ref (.row 2 (r16.map eT_Si64_i64_Z)) [(0 : Int).toNat, 1] [(0 : Int).toNat * 2, 1]) rfl rfl (Nat.le_of_ble_eq_true rfl) ?_)
        have hl20 : LdOk [(0 : Int).toNat, 1] (.row 2 (r16.map eT_Si64_i64_Z)) [(0 : Int).toNat * 2, 1] 1 false (i6 (((rd r16 (0 : Int).toNat)).2)) := (.row (llt hc19) rfl (.fld rfl rfl rfl rfl (.nil rfl rfl rfl)))
        refine gq (i6 (((rd r16 (0 : Int).toNat)).2)) rfl (ld_ref (i := ⟨.int .i64, 1, 8, (.int .i64 0)⟩) rfl rfl hl20) hl20.c (gp (.bool (((((rd r16 (0 : Int).toNat)).2) == 1))) rfl rfl (vp (.bool (((((rd r16 (0 : Int).toNat)).2) == 1))) rfl (vp (.bool (((((rd r16 (0 : Int).toNat)).2) == 1))) rfl (nx _ rfl (a_ret ?_)))))
        refine ⟨.inr rfl, ?_⟩
        rw [Try.results19]
        cases h
        exact ⟨_, _, _, _, _, rfl, trivial, .inl ⟨rfl, .inl rfl⟩, rfl, rfl⟩
    · have h := ite_t hb15 h
      refine a_cond_t rfl (sr (vp (.bool false) rfl (nx _ rfl (a_ret (t_ret ?_)))))
      refine ⟨.inr rfl, ?_⟩
      rw [Try.results19]
      cases h
      exact ⟨_, _, _, _, _, rfl, trivial, .inl ⟨rfl, .inl rfl⟩, rfl, rfl⟩
  · have h := hy8
    refine a_region (vp (eSi64 a1) rfl ?_)
    obtain ⟨r10, hr11, h⟩ := bind_some h
    refine a_call (args := [(eSi64 a1)]) (u := []) (r := (i6 r10)) rfl rfl (impl_row_lead_ok a1 r10 hr11) rfl (vp (.bool (r10 != 1)) rfl (vp (.bool (r10 != 1)) rfl ?_))
    cases hb12 : (r10 != 1)
    · have h := ite_f hb12 h
      refine gp (eSi64 a1) rfl rfl ?_
      obtain ⟨r13, hr14, h⟩ := bind_some h
      refine a_gcall rfl (args := [(eSi64 a1)]) (u := []) (r := (i6 r13)) rfl rfl (impl_row_degree_ok a1 r13 hr14) rfl (gp (.bool ((decide (r13 < 1)))) rfl rfl (vp (.bool ((decide (r13 < 1)))) rfl (a_nil ?_)))
      exact j_leaf ((decide (r13 < 1))) (Option.some.inj h) (by kernel_rfl)
    · have h := ite_t hb12 h
      refine a_gskip rfl (a_gskip rfl (a_gskip rfl (vp (.bool true) rfl (a_nil ?_))))
      exact j_leaf true (Option.some.inj h) (by kernel_rfl)
def impl_IrreduciblesOf_c1_of_p_c : ACode := (.seq (.region 0 [q 3 (.asg 0 (.const (.bool false)) 4)] false) (.seq (.region 1 [q 4 (.load 2 (t 1)), q 5 (.mov (t 0)), q 6 (.call 0 (.func 19) [(t 4), (t 5)]), q 7 (.un .not (t 6)), q 3 (.asg 0 (t 7) 4)] false) .ret))
def impl_IrreduciblesOf_c1_of_p_L : Live := [(0, [0, 1]), (1, [0, 1])]
noncomputable def impl_IrreduciblesOf_c1_of_p (a0 : (List Int)) (a1 : Int) : Option Bool :=
  (Option.bind (impl_prime_isIrreducible a1 a0) fun r2 => (some (!r2)))
theorem impl_IrreduciblesOf_c1_of_p_ok (a0 : (List Int)) (a1 : Int) (r : Bool) (h : impl_IrreduciblesOf_c1_of_p a0 a1 = some r) : Den Try.prog 18 [(eSi64 a0), (.ref (i6 a1) [] [])] { r := (.bool r) } := by
  refine den_of (rs := [(.bool r)]) (ac := impl_IrreduciblesOf_c1_of_p_c) (L := impl_IrreduciblesOf_c1_of_p_L) (n := 8) (m := []) (c := Try.f18.body.getD .skip) good Try.func18 (by kernel_rfl) (by kernel_rfl) Try.ntmps18 rfl rfl (by kernel_rfl) rfl rfl ?_
  refine a_st (σ' := ⟨[(0, (eSi64 a0)), (1, (.ref (i6 a1) [] []))], []⟩) (by kernel_rfl) ?_
  unfold impl_IrreduciblesOf_c1_of_p_c
  refine sr (vp (.bool false) rfl (nx ⟨[(0, (eSi64 a0)), (1, (.ref (i6 a1) [] []))], []⟩ (by kernel_rfl) (sr ?_)))
  have hl1 : LdOk [] (i6 a1) [] 1 false (i6 a1) := (.nil rfl rfl rfl)
  refine vq (i6 a1) (ld_ref (i := ⟨.int .i64, 1, 8, (.int .i64 0)⟩) rfl rfl hl1) hl1.c (vp (eSi64 a0) rfl ?_)
  obtain ⟨r2, hr3, h⟩ := bind_some h
  refine a_call (args := [(i6 a1), (eSi64 a0)]) (u := []) (r := (.bool r2)) rfl rfl (impl_prime_isIrreducible_ok a1 a0 r2 hr3) rfl (vp (.bool (!r2)) rfl (vp (.bool (!r2)) rfl (nx _ rfl (a_ret ?_))))
  refine ⟨.inr rfl, ?_⟩
  rw [Try.results18]
  cases h
  exact ⟨_, _, _, _, _, rfl, trivial, .inl ⟨rfl, .inl rfl⟩, rfl, rfl⟩
def slices_IndexFunc_impl_row_impl_row_of_impl_IrreduciblesOf_c1_p_c : ACode := (.seq (.region 0 [q 4 (.asg 0 (.const (.int .i64 0)) 3)] false) (.seq (.seq (.region 1 [q 6 (.mov (t 0)), q 7 (.blt 0 .len [(t 6)] [36]), q 8 (.mov (.const (.int .i64 0)))] false) (.block 0 (.loop (.seq (.region 2 [q 9 (.bin .lss 3 (t 8) (t 7))] false) (.seq (.cond (t 9) .skip (.exit 0)) (.seq (.block 1 (.seq (.region 3 [q 10 (.mov (t 8)), q 5 (.asg 0 (t 10) 3)] false) (.seq (.region 4 [q 11 (.mov (t 1)), q 12 (.mov (t 0)), q 13 (.mov (t 5)), q 14 (.indexAddr 36 (t 12) (t 13)), q 15 (.load 39 (t 14)), q 16 (.call 0 (t 11) [(t 15)])] false) (.cond (t 16) (.seq (.region 5 [q 17 (.mov (t 5)), q 4 (.asg 0 (t 17) 3)] false) .ret) .skip)))) (.region 6 [q 18 (.bin .add 3 (t 8) (.const (.int .i64 1))), q 8 (.mov (t 18))] false))))))) (.seq (.region 7 [q 4 (.asg 0 (.const (.int .i64 (-1))) 3)] false) .ret)))
def slices_IndexFunc_impl_row_impl_row_of_impl_IrreduciblesOf_c1_p_L : Live := [(0, [0, 1]), (1, [0, 1]), (2, [0, 1, 7, 8]), (3, [0, 1, 7, 8]), (4, [0, 1, 5, 7, 8]), (5, [5]), (6, [0, 1, 7, 8]), (7, []), (100009, [0, 1, 7, 8, 9]), (100016, [0, 1, 5, 7, 8, 16])]
noncomputable def slices_IndexFunc_impl_row_impl_row_of_impl_IrreduciblesOf_c1_p_l1 (a0 : (List (List Int))) (a1c0 : Int) (x33 : Int) : Option (Int ⊕ (Unit ⊕ Int)) :=
  (if (decide (x33 < (a0.length : Int))) then (ifp (0 ≤ x33 ∧ x33 < ((a0.length : Nat) : Int)) ((Option.bind (impl_IrreduciblesOf_c1_of_p (rd a0 x33.toNat) a1c0) fun r46 => (if r46 then (some (.inr (.inr x33))) else (some (.inl (IntKind.i64.wrap (x33 + 1)))))))) else (some (.inr (((.inl ()))))))
noncomputable def slices_IndexFunc_impl_row_impl_row_of_impl_IrreduciblesOf_c1_p (a0 : (List (List Int))) (a1c0 : Int) : Option Int :=
  (Option.bind (α := (Unit ⊕ Int)) ((loopM (fun s : Int => slices_IndexFunc_impl_row_impl_row_of_impl_IrreduciblesOf_c1_p_l1 a0 a1c0 s) 0)) fun z => match z with | .inl _ => (some (-1)) | .inr r50 => (some r50))
theorem slices_IndexFunc_impl_row_impl_row_of_impl_IrreduciblesOf_c1_p_ok (a0 : (List (List Int))) (a1c0 : Int) (r : Int) (h : slices_IndexFunc_impl_row_impl_row_of_impl_IrreduciblesOf_c1_p a0 a1c0 = some r) : Den Try.prog 28 [(eSSi64 a0), (.clo 18 [] [(.ref (i6 a1c0) [] [])])] { r := (i6 r) } := by
  refine den_of (rs := [(i6 r)]) (ac := slices_IndexFunc_impl_row_impl_row_of_impl_IrreduciblesOf_c1_p_c) (L := slices_IndexFunc_impl_row_impl_row_of_impl_IrreduciblesOf_c1_p_L) (n := 19) (m := []) (c := Try.f28.body.getD .skip) good Try.func28 (by kernel_rfl) (by kernel_rfl) Try.ntmps28 rfl rfl (by kernel_rfl) rfl rfl ?_
  refine a_st (σ' := ⟨[(0, (eSSi64 a0)), (1, (.clo 18 [] [(.ref (i6 a1c0) [] [])]))], []⟩) (by kernel_rfl) ?_
  unfold slices_IndexFunc_impl_row_impl_row_of_impl_IrreduciblesOf_c1_p_c
  refine sr (vp (i6 0) rfl (nx ⟨[(0, (eSSi64 a0)), (1, (.clo 18 [] [(.ref (i6 a1c0) [] [])]))], []⟩ (by kernel_rfl) ?_))
  obtain ⟨y24, hy25, hk26⟩ := bind_some h
  clear h
  refine a_join (emb := fun (s : Unit) => ⟨[], []⟩) (pre := fun s => (.inl s) = y24) ?_ ?_
  · rintro _ rfl
    have h := hk26
    refine a_st (σ' := ⟨[], []⟩) (by kernel_rfl) (sr (vp (i6 (-1)) rfl (nx _ rfl (a_ret ?_))))
    refine ⟨.inr rfl, ?_⟩
    rw [Try.results28]
    cases h
    exact ⟨_, _, _, _, _, rfl, trivial, .inl ⟨rfl, .inl rfl⟩, rfl, rfl⟩
  · have h := hy25
    refine sr (vp (eSSi64 a0) rfl (vq (i6 (a0.length : Int)) (len_run rfl rfl) trivial (vp (i6 0) rfl (nx ⟨[(0, (eSSi64 a0)), (1, (.clo 18 [] [(.ref (i6 a1c0) [] [])])), (7, (i6 (a0.length : Int))), (8, (i6 0))], []⟩ (by kernel_rfl) (a_block ?_)))))
    refine a_loop (emb := fun (s : Int) => ⟨[(0, (eSSi64 a0)), (1, (.clo 18 [] [(.ref (i6 a1c0) [] [])])), (7, (i6 (a0.length : Int))), (8, (i6 s))], []⟩) (body := (fun s : Int => slices_IndexFunc_impl_row_impl_row_of_impl_IrreduciblesOf_c1_p_l1 a0 a1c0 s)) (G := fun q => some q = some y24) h rfl ?_ (by kernel_rfl)
    rintro X40 x33 x41 h hX42
    have h : slices_IndexFunc_impl_row_impl_row_of_impl_IrreduciblesOf_c1_p_l1 a0 a1c0 x33 = some x41 := h
    refine a_st (σ' := ⟨[(0, (eSSi64 a0)), (1, (.clo 18 [] [(.ref (i6 a1c0) [] [])])), (7, (i6 (a0.length : Int))), (8, (i6 x33))], []⟩) (by kernel_rfl) (sr (vp (.bool ((decide (x33 < (a0.length : Int))))) rfl (nx ⟨[(0, (eSSi64 a0)), (1, (.clo 18 [] [(.ref (i6 a1c0) [] [])])), (7, (i6 (a0.length : Int))), (8, (i6 x33)), (9, (.bool ((decide (x33 < (a0.length : Int))))))], []⟩ (by kernel_rfl) (a_seq ?_))))
    cases hb43 : (decide (x33 < (a0.length : Int)))
    · have h := ite_f hb43 h
      refine a_cond_f rfl (a_exit (t_exit ?_))
      cases h
      have h := hX42
      refine t_exit (b_exit ?_)
      exact j_leaf () (Option.some.inj h) (by kernel_rfl)
    · have h := ite_t hb43 h
      refine a_cond_t rfl (a_skip (a_next (σ' := ⟨[(0, (eSSi64 a0)), (1, (.clo 18 [] [(.ref (i6 a1c0) [] [])])), (7, (i6 (a0.length : Int))), (8, (i6 x33))], []⟩) (by kernel_rfl) (a_seq (a_block (sr (vp (i6 x33) rfl (vp (i6 x33) rfl (nx ⟨[(0, (eSSi64 a0)), (1, (.clo 18 [] [(.ref (i6 a1c0) [] [])])), (5, (i6 x33)), (7, (i6 (a0.length : Int))), (8, (i6 x33))], []⟩ (by kernel_rfl) (sr ?_)))))))))
      refine vp (.clo 18 [] [(.ref (i6 a1c0) [] [])]) rfl (vp (eSSi64 a0) rfl (vp (i6 x33) rfl ?_))
      obtain ⟨hc44, h⟩ := ifp_some h
      refine vq (.ref (.row 1 (a0.map eSi64)) [x33.toNat] [x33.toNat * 1]) rfl (lmap hc44) ?_
      have hl45 : LdOk [x33.toNat] (.row 1 (a0.map eSi64)) [x33.toNat * 1] 1 false (eSi64 (rd a0 x33.toNat)) := (.row (llt hc44) rfl (.nil rfl rfl rfl))
      refine vq (eSi64 (rd a0 x33.toNat)) (ld_ref (i := ⟨.slice 2, 1, 24, (eSi64 [])⟩) rfl rfl hl45) hl45.c ?_
      obtain ⟨r46, hr47, h⟩ := bind_some h
      refine a_call (args := [(eSi64 (rd a0 x33.toNat)), (.ref (i6 a1c0) [] [])]) (u := []) (r := (.bool r46)) rfl rfl (impl_IrreduciblesOf_c1_of_p_ok (rd a0 x33.toNat) a1c0 r46 hr47) rfl (nx ⟨[(0, (eSSi64 a0)), (1, (.clo 18 [] [(.ref (i6 a1c0) [] [])])), (5, (i6 x33)), (7, (i6 (a0.length : Int))), (8, (i6 x33)), (16, (.bool r46))], []⟩ (by kernel_rfl) ?_)
      cases hb48 : r46
      · have h := ite_f hb48 h
        refine a_cond_f rfl (a_skip (b_norm (a_next (σ' := ⟨[(0, (eSSi64 a0)), (1, (.clo 18 [] [(.ref (i6 a1c0) [] [])])), (7, (i6 (a0.length : Int))), (8, (i6 x33))], []⟩) (by kernel_rfl) (a_region (vp (i6 (IntKind.i64.wrap (x33 + 1))) rfl (vp (i6 (IntKind.i64.wrap (x33 + 1))) rfl (a_nil ?_)))))))
        cases h
        exact a_again (by kernel_rfl) hX42
      · have h := ite_t hb48 h
        refine a_cond_t rfl (sr (vp (i6 x33) rfl (vp (i6 x33) rfl (nx _ rfl (a_ret (b_ret (t_ret ?_)))))))
        cases h
        have h := hX42
        refine t_ret (b_ret (t_ret ?_))
        cases h
        have h := hk26
        refine ⟨.inr rfl, ?_⟩
        rw [Try.results28]
        cases h
        exact ⟨_, _, _, _, _, rfl, trivial, .inl ⟨rfl, .inl rfl⟩, rfl, rfl⟩
def slices_DeleteFunc_impl_row_impl_row_of_giv_impl_IrreduciblesOf_c1_p_c : ACode := (.seq (.region 0 [q 4 (.asg 1 (.const (.slice none 0 0)) 36)] false) (.seq (.region 1 [q 8 (.mov (t 0)), q 9 (.mov (t 1)), q 10 (.call 0 (.func 28) [(t 8), (t 9)]), q 5 (.asg 0 (t 10) 3)] false) (.seq (.seq (.region 2 [q 11 (.mov (t 5)), q 12 (.bin .eql 3 (t 11) (.const (.int .i64 (-1))))] false) (.cond (t 12) (.seq (.region 3 [q 13 (.mov (t 0)), q 4 (.asg 1 (t 13) 36)] false) .ret) .skip)) (.seq (.seq (.region 4 [q 14 (.mov (t 5)), q 15 (.bin .add 3 (t 14) (.const (.int .i64 1))), q 6 (.asg 0 (t 15) 3)] false) (.block 0 (.loop (.seq (.seq (.region 5 [q 16 (.mov (t 6)), q 17 (.mov (t 0)), q 18 (.blt 0 .len [(t 17)] [36]), q 19 (.bin .lss 3 (t 16) (t 18))] false) (.cond (t 19) .skip (.exit 0))) (.seq (.block 1 (.seq (.region 7 [q 22 (.mov (t 0)), q 23 (.mov (t 6)), q 24 (.indexAddr 36 (t 22) (t 23)), q 25 (.load 39 (t 24)), q 7 (.asg 1 (t 25) 39)] false) (.seq (.region 8 [q 26 (.mov (t 1)), q 27 (.mov (t 7)), q 28 (.call 0 (t 26) [(t 27)]), q 29 (.un .not (t 28))] false) (.cond (t 29) (.seq (.region 9 [q 30 (.mov (t 0)), q 31 (.mov (t 5)), q 32 (.mov (t 7)), q 33 (.indexAddr 36 (t 30) (t 31)), ⟨none, .store 39 (t 33) (t 32), none, []⟩] false) (.region 10 [q 34 (.mov (t 5)), q 35 (.bin .add 3 (t 34) (.const (.int .i64 1))), q 5 (.asg 0 (t 35) 3)] false)) .skip)))) (.region 6 [q 20 (.mov (t 6)), q 21 (.bin .add 3 (t 20) (.const (.int .i64 1))), q 6 (.asg 0 (t 21) 3)] false)))))) (.seq (.region 11 [q 36 (.mov (t 0)), q 37 (.mov (t 5)), q 38 (.vw 36 (t 36) (t 37)), ⟨none, .blt 0 .clear [(t 38)] [36], none, []⟩] false) (.seq (.region 12 [q 39 (.mov (t 0)), q 40 (.mov (t 5)), q 41 (.slice 36 (t 39) none (some (t 40)) none), q 4 (.asg 1 (t 41) 36)] false) .ret))))))
def slices_DeleteFunc_impl_row_impl_row_of_giv_impl_IrreduciblesOf_c1_p_L : Live := [(0, [0, 1]), (1, [0, 1]), (2, [0, 1, 5]), (3, [0]), (4, [0, 1, 5]), (5, [0, 1, 5, 6]), (6, [0, 1, 5, 6]), (7, [0, 1, 5, 6]), (8, [0, 1, 5, 6, 7]), (9, [0, 1, 5, 6, 7]), (10, [0, 1, 5, 6]), (11, [0, 5]), (12, [0, 5]), (100012, [0, 1, 5, 12]), (100019, [0, 1, 5, 6, 19]), (100029, [0, 1, 5, 6, 7, 29])]
noncomputable def slices_DeleteFunc_impl_row_impl_row_of_giv_impl_IrreduciblesOf_c1_p_l1 (a1c0 : Int) (x96 : Int) (x97 : Int) (x98 : (List (List Int))) : Option ((Int × Int × (List (List Int))) ⊕ (Int × (List (List Int)))) :=
  (if (decide (x97 < (x98.length : Int))) then (Option.bind (α := (Int × (List (List Int)))) ((ifp (0 ≤ x97 ∧ x97 < ((x98.length : Nat) : Int)) ((Option.bind (impl_IrreduciblesOf_c1_of_p (rd x98 x97.toNat) a1c0) fun r137 => (if (!r137) then (ifp (0 ≤ x96 ∧ x96 < ((x98.length : Nat) : Int)) ((some ((IntKind.i64.wrap (x96 + 1), (x98.set x96.toNat (rd x98 x97.toNat))))))) else (some (x96, x98))))))) fun ⟨x130, x131⟩ => (some (.inl ((x130, IntKind.i64.wrap (x97 + 1), x131))))) else (some (.inr (x96, x98))))
noncomputable def slices_DeleteFunc_impl_row_impl_row_of_giv_impl_IrreduciblesOf_c1_p (a0 : (List (List Int))) (a1c0 : Int) : Option (List (List Int)) :=
  (Option.bind (slices_IndexFunc_impl_row_impl_row_of_impl_IrreduciblesOf_c1_p a0 a1c0) fun r1 => (if (r1 == (-1)) then (some a0) else (Option.bind (α := (Int × (List (List Int)))) ((loopM (fun s : (Int × Int × (List (List Int))) => slices_DeleteFunc_impl_row_impl_row_of_giv_impl_IrreduciblesOf_c1_p_l1 a1c0 s.1 s.2.1 s.2.2) (r1, IntKind.i64.wrap (r1 + 1), a0))) fun ⟨x71, x72⟩ => (ifp (0 ≤ x71 ∧ x71 < (x72.length : Int)) ((some (x72.take x71.toNat)))))))
theorem slices_DeleteFunc_impl_row_impl_row_of_giv_impl_IrreduciblesOf_c1_p_ok (a0 : (List (List Int))) (a1c0 : Int) (r : (List (List Int))) (h : slices_DeleteFunc_impl_row_impl_row_of_giv_impl_IrreduciblesOf_c1_p a0 a1c0 = some r) : Den Try.prog 16 [(.mutsl 1 (a0.map eSi64)), (.clo 18 [] [(.ref (i6 a1c0) [] [])])] { r := (eSSi64 r) } := by
  refine den_ofG (rs := [(eSSi64 r)]) (ac := slices_DeleteFunc_impl_row_impl_row_of_giv_impl_IrreduciblesOf_c1_p_c) (L := slices_DeleteFunc_impl_row_impl_row_of_giv_impl_IrreduciblesOf_c1_p_L) (n := 42) (m := [(4, 1), (7, 1), (38, 1)]) (c := Try.f16.body.getD .skip) good Try.func16 (by kernel_rfl) (by kernel_rfl) Try.ntmps16 rfl rfl (by kernel_rfl) rfl ?_
  refine a_st (σ' := ⟨[(0, (.osl 1000000)), (1, (.clo 18 [] [(.ref (i6 a1c0) [] [])]))], [(1000000, (bk (.row 1 (a0.map eSi64))))]⟩) (by kernel_rfl) ?_
  unfold slices_DeleteFunc_impl_row_impl_row_of_giv_impl_IrreduciblesOf_c1_p_c
  refine sr (vp (eSSi64 ([])) rfl (nx ⟨[(0, (.osl 1000000)), (1, (.clo 18 [] [(.ref (i6 a1c0) [] [])]))], [(1000000, (bk (.row 1 (a0.map eSi64))))]⟩ (by kernel_rfl) (sr (vp (.osl 1000000) rfl (vp (.clo 18 [] [(.ref (i6 a1c0) [] [])]) rfl ?_)))))
  obtain ⟨r1, hr2, h⟩ := bind_some h
  refine a_callB (args := [(eSSi64 a0), (.clo 18 [] [(.ref (i6 a1c0) [] [])])]) (u := [(1000000, (bf (.row 1 (a0.map eSi64))))]) (r := (i6 r1)) rfl rfl (slices_IndexFunc_impl_row_impl_row_of_impl_IrreduciblesOf_c1_p_ok a0 a1c0 r1 hr2) rfl trivial (vp (i6 r1) rfl (nx ⟨[(0, (.osl 1000000)), (1, (.clo 18 [] [(.ref (i6 a1c0) [] [])])), (5, (i6 r1))], [(1000000, (bk (.row 1 (a0.map eSi64))))]⟩ (by kernel_rfl) (a_seq (sr (vp (i6 r1) rfl (vp (.bool ((r1 == (-1)))) rfl (nx ⟨[(0, (.osl 1000000)), (1, (.clo 18 [] [(.ref (i6 a1c0) [] [])])), (5, (i6 r1)), (12, (.bool ((r1 == (-1)))))], [(1000000, (bk (.row 1 (a0.map eSi64))))]⟩ (by kernel_rfl) ?_)))))))
  cases hb3 : (r1 == (-1))
  · have h := ite_f hb3 h
    refine a_cond_f rfl (a_skip (a_next (σ' := ⟨[(0, (.osl 1000000)), (1, (.clo 18 [] [(.ref (i6 a1c0) [] [])])), (5, (i6 r1))], [(1000000, (bk (.row 1 (a0.map eSi64))))]⟩) (by kernel_rfl) ?_))
    obtain ⟨y73, hy74, hk75⟩ := bind_some h
    clear h
    refine a_join (emb := fun (s : (Int × (List (List Int)))) => ⟨[(0, (.osl 1000000)), (5, (i6 s.1))], [(1000000, (bk (.row 1 (s.2.map eSi64))))]⟩) (pre := fun s => s = y73) ?_ ?_
    · rintro ⟨x71, x72⟩ rfl
      have h := hk75
      refine a_st (σ' := ⟨[(0, (.osl 1000000)), (5, (i6 x71))], [(1000000, (bk (.row 1 (x72.map eSi64))))]⟩) (by kernel_rfl) (sr (vp (.osl 1000000) rfl (vp (i6 x71) rfl ?_)))
      obtain ⟨hc143, h⟩ := ifp_some h
      refine vq (.fr 1000000 (List.replicate x71.toNat .top)) (vw_run (f := eSi64) (l := x72) (i := ⟨.slice 2, 1, 24, (eSi64 [])⟩) rfl rfl rfl rfl rfl) ⟨hc143.1, (lmap (f := eSi64) hc143).2, rfl⟩ (vu (.tuple []) [(1000000, (bk (cutRow 1 (x72.map eSi64) x71.toNat (eSi64 []))))] (clear_run (i := ⟨.slice 2, 1, 24, (eSi64 [])⟩) rfl rfl rfl rfl) ⟨rfl, Nat.le_of_ble_eq_true rfl, llm hc143⟩ rfl (nx ⟨[(0, (.osl 1000000)), (5, (i6 x71))], [(1000000, (bk (cutRow 1 (x72.map eSi64) x71.toNat (eSi64 []))))]⟩ (by kernel_rfl) (sr (vp (.osl 1000000) rfl (vp (i6 x71) rfl (vu (eSSi64 (x72.take x71.toNat)) [(1000000, (bf (cutRow 1 (x72.map eSi64) x71.toNat (eSi64 []))))] (cutt_run (f := eSi64) (l := x72) (i := ⟨.slice 2, 1, 24, (eSi64 [])⟩) hc143 rfl rfl rfl rfl rfl) ⟨hc143.1, Int.le_of_lt hc143.2⟩ rfl (vp (eSSi64 (x72.take x71.toNat)) rfl (nx _ rfl (a_ret ?_)))))))))
      refine ⟨.inr rfl, ?_⟩
      rw [Try.results16]
      cases h
      exact ⟨_, _, _, _, _, rfl, trivial, .inl ⟨rfl, .inl rfl⟩, rfl, rfl⟩
    · have h := hy74
      refine sr (vp (i6 r1) rfl (vp (i6 (IntKind.i64.wrap (r1 + 1))) rfl (vp (i6 (IntKind.i64.wrap (r1 + 1))) rfl (nx ⟨[(0, (.osl 1000000)), (1, (.clo 18 [] [(.ref (i6 a1c0) [] [])])), (5, (i6 r1)), (6, (i6 (IntKind.i64.wrap (r1 + 1))))], [(1000000, (bk (.row 1 (a0.map eSi64))))]⟩ (by kernel_rfl) (a_block ?_)))))
      refine a_loop (emb := fun (s : (Int × Int × (List (List Int)))) => ⟨[(0, (.osl 1000000)), (1, (.clo 18 [] [(.ref (i6 a1c0) [] [])])), (5, (i6 s.1)), (6, (i6 s.2.1))], [(1000000, (bk (.row 1 (s.2.2.map eSi64))))]⟩) (body := (fun s : (Int × Int × (List (List Int))) => slices_DeleteFunc_impl_row_impl_row_of_giv_impl_IrreduciblesOf_c1_p_l1 a1c0 s.1 s.2.1 s.2.2)) (G := fun q => some q = some y73) h rfl ?_ (by kernel_rfl)
      rintro X119 ⟨x96, x97, x98⟩ x120 h hX121
      have h : slices_DeleteFunc_impl_row_impl_row_of_giv_impl_IrreduciblesOf_c1_p_l1 a1c0 x96 x97 x98 = some x120 := h
      refine a_st (σ' := ⟨[(0, (.osl 1000000)), (1, (.clo 18 [] [(.ref (i6 a1c0) [] [])])), (5, (i6 x96)), (6, (i6 x97))], [(1000000, (bk (.row 1 (x98.map eSi64))))]⟩) (by kernel_rfl) (a_seq (sr (vp (i6 x97) rfl (vp (.osl 1000000) rfl (vq (i6 (x98.length : Int)) (leno_run rfl rfl rfl) trivial (vp (.bool ((decide (x97 < (x98.length : Int))))) rfl (nx ⟨[(0, (.osl 1000000)), (1, (.clo 18 [] [(.ref (i6 a1c0) [] [])])), (5, (i6 x96)), (6, (i6 x97)), (19, (.bool ((decide (x97 < (x98.length : Int))))))], [(1000000, (bk (.row 1 (x98.map eSi64))))]⟩ (by kernel_rfl) ?_)))))))
      cases hb122 : (decide (x97 < (x98.length : Int)))
      · have h := ite_f hb122 h
        refine a_cond_f rfl (a_exit (t_exit ?_))
        cases h
        have h := hX121
        refine t_exit (b_exit ?_)
        exact j_leaf (x96, x98) (Option.some.inj h) (by kernel_rfl)
      · have h := ite_t hb122 h
        refine a_cond_t rfl (a_skip (a_next (σ' := ⟨[(0, (.osl 1000000)), (1, (.clo 18 [] [(.ref (i6 a1c0) [] [])])), (5, (i6 x96)), (6, (i6 x97))], [(1000000, (bk (.row 1 (x98.map eSi64))))]⟩) (by kernel_rfl) ?_))
        obtain ⟨y132, hy133, hk134⟩ := bind_some h
        clear h
        refine a_join (emb := fun (s : (Int × (List (List Int)))) => ⟨[(0, (.osl 1000000)), (1, (.clo 18 [] [(.ref (i6 a1c0) [] [])])), (5, (i6 s.1)), (6, (i6 x97))], [(1000000, (bk (.row 1 (s.2.map eSi64))))]⟩) (pre := fun s => s = y132) ?_ ?_
        · rintro ⟨x130, x131⟩ rfl
          have h := hk134
          refine a_st (σ' := ⟨[(0, (.osl 1000000)), (1, (.clo 18 [] [(.ref (i6 a1c0) [] [])])), (5, (i6 x130)), (6, (i6 x97))], [(1000000, (bk (.row 1 (x131.map eSi64))))]⟩) (by kernel_rfl) (a_region (vp (i6 x97) rfl (vp (i6 (IntKind.i64.wrap (x97 + 1))) rfl (vp (i6 (IntKind.i64.wrap (x97 + 1))) rfl (a_nil ?_)))))
          cases h
          exact a_again (by kernel_rfl) hX121
        · have h := hy133
          refine a_block (sr (vp (.osl 1000000) rfl (vp (i6 x97) rfl ?_)))
          obtain ⟨hc135, h⟩ := ifp_some h
          refine vq (.own 1000000 [x97.toNat] [x97.toNat * 1]) rfl (lmap hc135) ?_
          have hl136 : LdOk [x97.toNat] (.row 1 (x98.map eSi64)) [x97.toNat * 1] 1 false (eSi64 (rd x98 x97.toNat)) := (.row (llt hc135) rfl (.nil rfl rfl rfl))
          refine vq (eSi64 (rd x98 x97.toNat)) (ld_own (i := ⟨.slice 2, 1, 24, (eSi64 [])⟩) rfl rfl rfl hl136) hl136.c (vp (eSi64 (rd x98 x97.toNat)) rfl (nx ⟨[(0, (.osl 1000000)), (1, (.clo 18 [] [(.ref (i6 a1c0) [] [])])), (5, (i6 x96)), (6, (i6 x97)), (7, (eSi64 (rd x98 x97.toNat)))], [(1000000, (bk (.row 1 (x98.map eSi64))))]⟩ (by kernel_rfl) (sr (vp (.clo 18 [] [(.ref (i6 a1c0) [] [])]) rfl (vp (eSi64 (rd x98 x97.toNat)) rfl ?_)))))
          obtain ⟨r137, hr138, h⟩ := bind_some h
          refine a_call (args := [(eSi64 (rd x98 x97.toNat)), (.ref (i6 a1c0) [] [])]) (u := []) (r := (.bool r137)) rfl rfl (impl_IrreduciblesOf_c1_of_p_ok (rd x98 x97.toNat) a1c0 r137 hr138) rfl (vp (.bool (!r137)) rfl (nx ⟨[(0, (.osl 1000000)), (1, (.clo 18 [] [(.ref (i6 a1c0) [] [])])), (5, (i6 x96)), (6, (i6 x97)), (7, (eSi64 (rd x98 x97.toNat))), (29, (.bool (!r137)))], [(1000000, (bk (.row 1 (x98.map eSi64))))]⟩ (by kernel_rfl) ?_))
          cases hb139 : (!r137)
          · have h := ite_f hb139 h
            refine a_cond_f rfl (a_skip (b_norm ?_))
            exact j_leaf (x96, x98) (Option.some.inj h) (by kernel_rfl)
          · have h := ite_t hb139 h
            refine a_cond_t rfl (sr (vp (.osl 1000000) rfl (vp (i6 x96) rfl (vp (eSi64 (rd x98 x97.toNat)) rfl ?_))))
            obtain ⟨hc140, h⟩ := ifp_some h
            refine vq (.own 1000000 [x96.toNat] [x96.toNat * 1]) rfl (lmap hc140) ?_
            have hs141 : StOk [x96.toNat] (.row 1 (x98.map eSi64)) [x96.toNat * 1] 1 (eSi64 (rd x98 x97.toNat)) (.row 1 (((x98.set x96.toNat (rd x98 x97.toNat))).map eSi64)) := (.row (y := (rd x98 x97.toNat)) (llt hc140) rfl (.nil rfl rfl rfl rfl))
            refine vu .top [(1000000, (bk (.row 1 (((x98.set x96.toNat (rd x98 x97.toNat))).map eSi64))))] (st_own (i := ⟨.slice 2, 1, 24, (eSi64 [])⟩) rfl rfl (fun _ => rfl) rfl hs141) (hs141.c rfl) rfl (nx ⟨[(0, (.osl 1000000)), (1, (.clo 18 [] [(.ref (i6 a1c0) [] [])])), (5, (i6 x96)), (6, (i6 x97))], [(1000000, (bk (.row 1 (((x98.set x96.toNat (rd x98 x97.toNat))).map eSi64))))]⟩ (by kernel_rfl) (a_region (vp (i6 x96) rfl (vp (i6 (IntKind.i64.wrap (x96 + 1))) rfl (vp (i6 (IntKind.i64.wrap (x96 + 1))) rfl (a_nil (b_norm ?_)))))))
            exact j_leaf ((IntKind.i64.wrap (x96 + 1), (x98.set x96.toNat (rd x98 x97.toNat)))) (Option.some.inj h) (by kernel_rfl)
  · have h := ite_t hb3 h
    refine a_cond_t rfl (sr (vp (.osl 1000000) rfl (vu (eSSi64 a0) [(1000000, (bf (.row 1 (a0.map eSi64))))] rfl trivial rfl (nx _ rfl (a_ret (t_ret ?_))))))
    refine ⟨.inr rfl, ?_⟩
    rw [Try.results16]
    cases h
    exact ⟨_, _, _, _, _, rfl, trivial, .inl ⟨rfl, .inl rfl⟩, rfl, rfl⟩
def impl_row_poly_c : ACode := (.seq (.region 0 [q 2 (.alloc 32)] false) (.seq (.region 1 [q 3 (.alloc 32)] false) (.seq (.seq (.region 2 [q 6 (.mov (t 0)), q 7 (.blt 0 .len [(t 6)] [39]), q 8 (.mov (.const (.int .i64 0)))] false) (.block 0 (.loop (.seq (.region 3 [q 9 (.bin .lss 3 (t 8) (t 7))] false) (.seq (.cond (t 9) .skip (.exit 0)) (.seq (.block 1 (.seq (.region 4 [q 10 (.mov (t 8)), q 11 (.indexAddr 39 (t 6) (t 8)), q 12 (.load 2 (t 11)), q 4 (.asg 0 (t 10) 3), q 5 (.asg 0 (t 12) 2)] false) (.region 5 [q 13 (.mov (t 4)), q 14 (.mov (t 5)), q 15 (.conv 2 5 (t 14)), q 16 (.indexAddr 32 (t 3) (t 13)), ⟨none, .store 5 (t 16) (t 15), none, []⟩] false))) (.region 6 [q 17 (.bin .add 3 (t 8) (.const (.int .i64 1))), q 8 (.mov (t 17))] false))))))) (.seq (.region 7 [q 18 (.load 32 (t 3)), ⟨none, .store 32 (t 2) (t 18), none, []⟩] false) .ret))))
def impl_row_poly_L : Live := [(0, [0]), (1, [0, 2]), (2, [0, 2, 3]), (3, [2, 3, 6, 7, 8]), (4, [2, 3, 6, 7, 8]), (5, [2, 3, 4, 5, 6, 7, 8]), (6, [2, 3, 6, 7, 8]), (7, [2, 3]), (100009, [2, 3, 6, 7, 8, 9])]
noncomputable def impl_row_poly_l1 (a0 : (List Int)) (x31 : Int) (x32 : (Vec Int 64)) : Option ((Int × (Vec Int 64)) ⊕ (Vec Int 64)) :=
  (if (decide (x31 < (a0.length : Int))) then (ifp (0 ≤ x31 ∧ x31 < ((a0.length : Nat) : Int)) ((ifp (0 ≤ x31 ∧ x31 < ((64 : Nat) : Int)) ((some (.inl ((IntKind.i64.wrap (x31 + 1), (vset x32 x31.toNat (IntKind.u8.wrap (rd a0 x31.toNat))))))))))) else (some (.inr x32)))
noncomputable def impl_row_poly (a0 : (List Int)) : Option (Vec Int 64) :=
  (Option.bind (α := (Vec Int 64)) ((loopM (fun s : (Int × (Vec Int 64)) => impl_row_poly_l1 a0 s.1 s.2) (0, (vrep 64 (0 : Int))))) fun x22 => (some x22))
theorem impl_row_poly_ok (a0 : (List Int)) (r : (Vec Int 64)) (h : impl_row_poly a0 = some r) : Den Try.prog 33 [(eSi64 a0)] { r := (eA64u8 r) } := by
  refine den_of (rs := [(eA64u8 r)]) (ac := impl_row_poly_c) (L := impl_row_poly_L) (n := 19) (m := []) (c := Try.f33.body.getD .skip) good Try.func33 (by kernel_rfl) (by kernel_rfl) Try.ntmps33 rfl rfl (by kernel_rfl) rfl rfl ?_
  refine a_st (σ' := ⟨[(0, (eSi64 a0))], []⟩) (by kernel_rfl) ?_
  unfold impl_row_poly_c
  refine sr (vo 1200 (eA64u8 ((vrep 64 (0 : Int)))) rfl rfl (nx ⟨[(0, (eSi64 a0)), (2, (ow 2))], [(2, (bk (eA64u8 ((vrep 64 (0 : Int))))))]⟩ (by kernel_rfl) (sr (vo 1300 (eA64u8 ((vrep 64 (0 : Int)))) rfl rfl (nx ⟨[(0, (eSi64 a0)), (2, (ow 2)), (3, (ow 3))], [(2, (bk (eA64u8 ((vrep 64 (0 : Int)))))), (3, (bk (eA64u8 ((vrep 64 (0 : Int))))))]⟩ (by kernel_rfl) ?_)))))
  obtain ⟨y23, hy24, hk25⟩ := bind_some h
  clear h
  refine a_join (emb := fun (s : (Vec Int 64)) => ⟨[(2, (ow 2)), (3, (ow 3))], [(2, (bk (eA64u8 ((vrep 64 (0 : Int)))))), (3, (bk (eA64u8 s)))]⟩) (pre := fun s => s = y23) ?_ ?_
  · rintro x22 rfl
    have h := hk25
    refine a_st (σ' := ⟨[(2, (ow 2)), (3, (ow 3))], [(2, (bk (eA64u8 ((vrep 64 (0 : Int)))))), (3, (bk (eA64u8 x22)))]⟩) (by kernel_rfl) (sr (vl (eA64u8 x22) rfl rfl rfl rfl rfl rfl (vs (eA64u8 x22) rfl rfl (fun _ => rfl) rfl rfl rfl rfl rfl rfl (nx _ rfl (a_ret ?_)))))
    have hl49 : LdOk [] (eA64u8 x22) [] 64 true (eA64u8 x22) := (.nil rfl rfl rfl)
    refine ⟨.inr rfl, ?_⟩
    rw [Try.results33]
    cases h
    exact ⟨_, _, _, _, _, ld_own (i := ⟨.arr 64 5, 64, 64, (eA64u8 (vrep 64 (0 : Int)))⟩) rfl rfl rfl hl49, hl49.c, .inl ⟨rfl, .inl rfl⟩, rfl, rfl⟩
  · have h := hy24
    refine sr (vp (eSi64 a0) rfl (vq (i6 (a0.length : Int)) (len_run rfl rfl) trivial (vp (i6 0) rfl (nx ⟨[(2, (ow 2)), (3, (ow 3)), (6, (eSi64 a0)), (7, (i6 (a0.length : Int))), (8, (i6 0))], [(2, (bk (eA64u8 ((vrep 64 (0 : Int)))))), (3, (bk (eA64u8 ((vrep 64 (0 : Int))))))]⟩ (by kernel_rfl) (a_block ?_)))))
    refine a_loop (emb := fun (s : (Int × (Vec Int 64))) => ⟨[(2, (ow 2)), (3, (ow 3)), (6, (eSi64 a0)), (7, (i6 (a0.length : Int))), (8, (i6 s.1))], [(2, (bk (eA64u8 ((vrep 64 (0 : Int)))))), (3, (bk (eA64u8 s.2)))]⟩) (body := (fun s : (Int × (Vec Int 64)) => impl_row_poly_l1 a0 s.1 s.2)) (G := fun q => some q = some y23) h rfl ?_ (by kernel_rfl)
    rintro X38 ⟨x31, x32⟩ x39 h hX40
    have h : impl_row_poly_l1 a0 x31 x32 = some x39 := h
    refine a_st (σ' := ⟨[(2, (ow 2)), (3, (ow 3)), (6, (eSi64 a0)), (7, (i6 (a0.length : Int))), (8, (i6 x31))], [(2, (bk (eA64u8 ((vrep 64 (0 : Int)))))), (3, (bk (eA64u8 x32)))]⟩) (by kernel_rfl) (sr (vp (.bool ((decide (x31 < (a0.length : Int))))) rfl (nx ⟨[(2, (ow 2)), (3, (ow 3)), (6, (eSi64 a0)), (7, (i6 (a0.length : Int))), (8, (i6 x31)), (9, (.bool ((decide (x31 < (a0.length : Int))))))], [(2, (bk (eA64u8 ((vrep 64 (0 : Int)))))), (3, (bk (eA64u8 x32)))]⟩ (by kernel_rfl) (a_seq ?_))))
    cases hb41 : (decide (x31 < (a0.length : Int)))
    · have h := ite_f hb41 h
      refine a_cond_f rfl (a_exit (t_exit ?_))
      cases h
      have h := hX40
      refine t_exit (b_exit ?_)
      exact j_leaf x32 (Option.some.inj h) (by kernel_rfl)
    · have h := ite_t hb41 h
      refine a_cond_t rfl (a_skip (a_next (σ' := ⟨[(2, (ow 2)), (3, (ow 3)), (6, (eSi64 a0)), (7, (i6 (a0.length : Int))), (8, (i6 x31))], [(2, (bk (eA64u8 ((vrep 64 (0 : Int)))))), (3, (bk (eA64u8 x32)))]⟩) (by kernel_rfl) (a_seq (a_block (sr (vp (i6 x31) rfl ?_))))))
      obtain ⟨hc42, h⟩ := ifp_some h
      refine vq (.ref (.row 1 (a0.map (AV.int .i64))) [x31.toNat] [x31.toNat * 1]) rfl (lmap hc42) ?_
      have hl43 : LdOk [x31.toNat] (.row 1 (a0.map (AV.int .i64))) [x31.toNat * 1] 1 false (i6 (rd a0 x31.toNat)) := (.row (llt hc42) rfl (.nil rfl rfl rfl))
      refine vq (i6 (rd a0 x31.toNat)) (ld_ref (i := ⟨.int .i64, 1, 8, (.int .i64 0)⟩) rfl rfl hl43) hl43.c (vp (i6 x31) rfl (vp (i6 (rd a0 x31.toNat)) rfl (nx ⟨[(2, (ow 2)), (3, (ow 3)), (4, (i6 x31)), (5, (i6 (rd a0 x31.toNat))), (6, (eSi64 a0)), (7, (i6 (a0.length : Int))), (8, (i6 x31))], [(2, (bk (eA64u8 ((vrep 64 (0 : Int)))))), (3, (bk (eA64u8 x32)))]⟩ (by kernel_rfl) (a_region (vp (i6 x31) rfl (vp (i6 (rd a0 x31.toNat)) rfl (vp (b8 (IntKind.u8.wrap (rd a0 x31.toNat))) rfl ?_)))))))
      obtain ⟨hc44, h⟩ := ifp_some h
      refine vq (.own 3 [x31.toNat] [x31.toNat * 1]) rfl hc44 ?_
      have hs45 : StOk [x31.toNat] (eA64u8 x32) [x31.toNat * 1] 1 (b8 (IntKind.u8.wrap (rd a0 x31.toNat))) (eA64u8 ((vset x32 x31.toNat (IntKind.u8.wrap (rd a0 x31.toNat))))) := (.arr (y := IntKind.u8.wrap (rd a0 x31.toNat)) (vlt x32 hc44) rfl (.nil rfl rfl rfl rfl))
      refine vu .top [(3, (bk (eA64u8 ((vset x32 x31.toNat (IntKind.u8.wrap (rd a0 x31.toNat)))))))] (st_own (i := ⟨.int .u8, 1, 1, (.int .u8 0)⟩) rfl rfl (fun _ => rfl) rfl hs45) (hs45.c rfl) rfl (a_nil (b_norm (a_next (σ' := ⟨[(2, (ow 2)), (3, (ow 3)), (6, (eSi64 a0)), (7, (i6 (a0.length : Int))), (8, (i6 x31))], [(2, (bk (eA64u8 ((vrep 64 (0 : Int)))))), (3, (bk (eA64u8 ((vset x32 x31.toNat (IntKind.u8.wrap (rd a0 x31.toNat)))))))]⟩) (by kernel_rfl) (a_region (vp (i6 (IntKind.i64.wrap (x31 + 1))) rfl (vp (i6 (IntKind.i64.wrap (x31 + 1))) rfl (a_nil ?_)))))))
      cases h
      exact a_again (by kernel_rfl) hX40
def impl_polys_fresh_c : ACode := (.seq (.region 0 [q 2 (.asg 2 (.const (.slice none 0 0)) 22)] false) (.seq (.region 1 [q 3 (.asg 2 (.const (.slice none 0 0)) 22)] false) (.seq (.seq (.region 2 [q 6 (.mov (t 0)), q 7 (.blt 0 .len [(t 6)] [36]), q 8 (.mov (.const (.int .i64 0)))] false) (.block 0 (.loop (.seq (.region 3 [q 9 (.bin .lss 3 (t 8) (t 7))] false) (.seq (.cond (t 9) .skip (.exit 0)) (.seq (.block 1 (.seq (.region 4 [q 10 (.indexAddr 36 (t 6) (t 8)), q 11 (.load 39 (t 10)), q 5 (.asg 1 (t 11) 39)] false) (.region 5 [q 12 (.mov (t 3)), q 13 (.mov (t 5)), q 14 (.call 0 (.func 33) [(t 13)]), q 15 (.bslice 0 22 1 [(0, (t 14))]), q 16 (.blt 0 .append [(t 12), (t 15)] [22, 22]), q 3 (.asg 2 (t 16) 22)] false))) (.region 6 [q 17 (.bin .add 3 (t 8) (.const (.int .i64 1))), q 8 (.mov (t 17))] false))))))) (.seq (.region 7 [q 18 (.mov (t 3)), q 2 (.asg 2 (t 18) 22)] false) .ret))))
def impl_polys_fresh_L : Live := [(0, [0]), (1, [0]), (2, [0, 3]), (3, [3, 6, 7, 8]), (4, [3, 6, 7, 8]), (5, [3, 5, 6, 7, 8]), (6, [3, 6, 7, 8]), (7, [3]), (100009, [3, 6, 7, 8, 9])]
noncomputable def impl_polys_fresh_l1 (a0 : (List (List Int))) (x35 : Int) (x36 : (List (Vec Int 64))) : Option ((Int × (List (Vec Int 64))) ⊕ (List (Vec Int 64))) :=
  (if (decide (x35 < (a0.length : Int))) then (ifp (0 ≤ x35 ∧ x35 < ((a0.length : Nat) : Int)) ((Option.bind (impl_row_poly (rd a0 x35.toNat)) fun r49 => (ifp ((x36.length + ([r49] : List (Vec Int 64)).length) * 64 ≤ 140737488355328) ((some (.inl ((IntKind.i64.wrap (x35 + 1), (x36 ++ ([r49]))))))))))) else (some (.inr x36)))
noncomputable def impl_polys_fresh (a0 : (List (List Int))) : Option (List (Vec Int 64)) :=
  (Option.bind (α := (List (Vec Int 64))) ((loopM (fun s : (Int × (List (Vec Int 64))) => impl_polys_fresh_l1 a0 s.1 s.2) (0, []))) fun x25 => (some x25))
theorem impl_polys_fresh_ok (a0 : (List (List Int))) (r : (List (Vec Int 64))) (h : impl_polys_fresh a0 = some r) : Den Try.prog 20 [(eSSi64 a0)] { r := (.osl 2000000), ms := [], fs := [(64, r.map eA64u8)] } := by
  refine den_ofX (rs := [(.osl 2000000)]) (ac := impl_polys_fresh_c) (L := impl_polys_fresh_L) (n := 19) (m := [(2, 2), (3, 2), (5, 1)]) (c := Try.f20.body.getD .skip) good Try.func20 (by kernel_rfl) (by kernel_rfl) Try.ntmps20 rfl rfl (by kernel_rfl) rfl ?_
  refine a_st (σ' := ⟨[(0, (eSSi64 a0))], []⟩) (by kernel_rfl) ?_
  unfold impl_polys_fresh_c
  refine sr (vu (.osl 1200) [(1200, (bk (.row 64 (([]).map eA64u8))))] rfl trivial rfl (nx ⟨[(0, (eSSi64 a0))], []⟩ (by kernel_rfl) (sr (vu (.osl 1300) [(1300, (bk (.row 64 (([]).map eA64u8))))] rfl trivial rfl (nx ⟨[(0, (eSSi64 a0)), (3, (.osl 3))], [(3, (bk (.row 64 (([]).map eA64u8))))]⟩ (by kernel_rfl) ?_)))))
  obtain ⟨y26, hy27, hk28⟩ := bind_some h
  clear h
  refine a_join (emb := fun (s : (List (Vec Int 64))) => ⟨[(3, (.osl 3))], [(3, (bk (.row 64 (s.map eA64u8))))]⟩) (pre := fun s => s = y26) ?_ ?_
  · rintro x25 rfl
    have h := hk28
    refine a_st (σ' := ⟨[(3, (.osl 3))], [(3, (bk (.row 64 (x25.map eA64u8))))]⟩) (by kernel_rfl) (sr (vp (.osl 3) rfl (vp (.osl 3) rfl (nx _ rfl (a_ret ?_)))))
    refine ⟨.inr rfl, ?_⟩
    rw [Try.results20]
    cases h
    exact ⟨[some 3], ⟨_, _, _, _, _, rfl, trivial, rfl, .inr (.inl ⟨_, _, _, _, _, rfl, rfl, rfl, rfl, rfl, rfl, ⟨rfl, rfl, rfl⟩⟩)⟩, rfl, rfl⟩
  · have h := hy27
    refine sr (vp (eSSi64 a0) rfl (vq (i6 (a0.length : Int)) (len_run rfl rfl) trivial (vp (i6 0) rfl (nx ⟨[(3, (.osl 3)), (6, (eSSi64 a0)), (7, (i6 (a0.length : Int))), (8, (i6 0))], [(3, (bk (.row 64 (([]).map eA64u8))))]⟩ (by kernel_rfl) (a_block ?_)))))
    refine a_loop (emb := fun (s : (Int × (List (Vec Int 64)))) => ⟨[(3, (.osl 3)), (6, (eSSi64 a0)), (7, (i6 (a0.length : Int))), (8, (i6 s.1))], [(3, (bk (.row 64 (s.2.map eA64u8))))]⟩) (body := (fun s : (Int × (List (Vec Int 64))) => impl_polys_fresh_l1 a0 s.1 s.2)) (G := fun q => some q = some y26) h rfl ?_ (by kernel_rfl)
    rintro X43 ⟨x35, x36⟩ x44 h hX45
    have h : impl_polys_fresh_l1 a0 x35 x36 = some x44 := h
    refine a_st (σ' := ⟨[(3, (.osl 3)), (6, (eSSi64 a0)), (7, (i6 (a0.length : Int))), (8, (i6 x35))], [(3, (bk (.row 64 (x36.map eA64u8))))]⟩) (by kernel_rfl) (sr (vp (.bool ((decide (x35 < (a0.length : Int))))) rfl (nx ⟨[(3, (.osl 3)), (6, (eSSi64 a0)), (7, (i6 (a0.length : Int))), (8, (i6 x35)), (9, (.bool ((decide (x35 < (a0.length : Int))))))], [(3, (bk (.row 64 (x36.map eA64u8))))]⟩ (by kernel_rfl) (a_seq ?_))))
    cases hb46 : (decide (x35 < (a0.length : Int)))
    · have h := ite_f hb46 h
      refine a_cond_f rfl (a_exit (t_exit ?_))
      cases h
      have h := hX45
      refine t_exit (b_exit ?_)
      exact j_leaf x36 (Option.some.inj h) (by kernel_rfl)
    · have h := ite_t hb46 h
      refine a_cond_t rfl (a_skip (a_next (σ' := ⟨[(3, (.osl 3)), (6, (eSSi64 a0)), (7, (i6 (a0.length : Int))), (8, (i6 x35))], [(3, (bk (.row 64 (x36.map eA64u8))))]⟩) (by kernel_rfl) (a_seq (a_block (sr ?_)))))
      obtain ⟨hc47, h⟩ := ifp_some h
      refine vq (.ref (.row 1 (a0.map eSi64)) [x35.toNat] [x35.toNat * 1]) rfl (lmap hc47) ?_
      have hl48 : LdOk [x35.toNat] (.row 1 (a0.map eSi64)) [x35.toNat * 1] 1 false (eSi64 (rd a0 x35.toNat)) := (.row (llt hc47) rfl (.nil rfl rfl rfl))
      refine vq (eSi64 (rd a0 x35.toNat)) (ld_ref (i := ⟨.slice 2, 1, 24, (eSi64 [])⟩) rfl rfl hl48) hl48.c (vp (eSi64 (rd a0 x35.toNat)) rfl (nx ⟨[(3, (.osl 3)), (5, (eSi64 (rd a0 x35.toNat))), (6, (eSSi64 a0)), (7, (i6 (a0.length : Int))), (8, (i6 x35))], [(3, (bk (.row 64 (x36.map eA64u8))))]⟩ (by kernel_rfl) (a_region (vp (.osl 3) rfl (vp (eSi64 (rd a0 x35.toNat)) rfl ?_)))))
      obtain ⟨r49, hr50, h⟩ := bind_some h
      refine a_call (args := [(eSi64 (rd a0 x35.toNat))]) (u := []) (r := (eA64u8 r49)) rfl rfl (impl_row_poly_ok (rd a0 x35.toNat) r49 hr50) rfl (vq (.sl 64 true (([r49]).map eA64u8)) rfl ⟨(Nat.le_of_ble_eq_true rfl), (Nat.le_of_ble_eq_true rfl), (all_cons ⟨(Nat.le_of_ble_eq_true rfl), rfl⟩ all_nil)⟩ ?_)
      obtain ⟨hc51, h⟩ := ifp_some h
      refine vu (.osl 2600) [(2600, (bk (.row 64 (((x36 ++ ([r49]))).map eA64u8)))), (3, none)] (app_run (i := ⟨.arr 64 5, 64, 64, (eA64u8 (vrep 64 (0 : Int)))⟩) (f := eA64u8) (l := x36) (l2 := [r49]) rfl rfl rfl rfl (fun _ => rfl) rfl rfl) (app_c (f := eA64u8) (s := 64) (sz := 64) (by' := 64) (u := []) (id := 3) hc51 (.inr rfl) rfl rfl rfl) rfl (vp (.osl 2600) rfl (a_nil (b_norm (a_next (σ' := ⟨[(3, (.osl 3)), (6, (eSSi64 a0)), (7, (i6 (a0.length : Int))), (8, (i6 x35))], [(3, (bk (.row 64 (((x36 ++ ([r49]))).map eA64u8))))]⟩) (by kernel_rfl) (a_region (vp (i6 (IntKind.i64.wrap (x35 + 1))) rfl (vp (i6 (IntKind.i64.wrap (x35 + 1))) rfl (a_nil ?_))))))))
      cases h
      exact a_again (by kernel_rfl) hX45
def impl_IrreduciblesOf_fresh_c : ACode := (.seq (.region 0 [q 2 (.box 2 (t 0)), q 4 (.asg 2 (.const (.slice none 0 0)) 22), q 5 (.asg 0 (.const (.int .i64 0)) 2)] false) (.seq (.block 0 (.seq (.region 1 [q 8 (.load 2 (t 2)), q 9 (.call 0 (.func 14) [(t 8)]), q 10 (.un .not (t 9)), q 7 (.asg 0 (t 10) 4)] false) (.cond (t 7) (.seq (.region 2 [q 4 (.asg 2 (.const (.slice none 0 0)) 22), q 5 (.asg 0 (.const (.int .i64 1)) 2)] false) .ret) (.seq (.region 3 [q 12 (.mov (t 1)), q 13 (.bin .lss 2 (t 12) (.const (.int .i64 1))), q 14 (.mov (t 13)), ⟨some 15, .load 2 (t 2), some (14, false), []⟩, ⟨some 16, .mov (t 1), some (14, false), []⟩, ⟨some 17, .call 0 (.func 15) [(t 15), (t 16), (.const (.int .i64 343))], some (14, false), []⟩, ⟨some 18, .bin .gtr 2 (t 17) (.const (.int .i64 343)), some (14, false), []⟩, q 19 (.pick (t 14) (.const (.bool true)) (t 18)), q 11 (.asg 0 (t 19) 4)] false) (.cond (t 11) (.seq (.region 4 [q 4 (.asg 2 (.const (.slice none 0 0)) 22), q 5 (.asg 0 (.const (.int .i64 2)) 2)] false) .ret) .skip))))) (.seq (.region 5 [q 20 (.load 2 (t 2)), q 21 (.mov (t 1)), q 22 (.call 0 (.func 17) [(t 20), (t 21)]), q 23 (.mkfn 18 [] [(t 2)]), q 24 (.call 1 (.func 16) [(t 22), (t 23)]), q 6 (.asg 1 (t 24) 36)] false) (.seq (.region 6 [q 25 (.mov (t 6)), q 26 (.call 0 (.func 20) [(t 25)]), q 4 (.asg 2 (t 26) 22), q 5 (.asg 0 (.const (.int .i64 0)) 2)] false) .ret))))
def impl_IrreduciblesOf_fresh_L : Live := [(0, [0, 1]), (1, [1, 2]), (2, []), (3, [1, 2]), (4, []), (5, [1, 2]), (6, [6]), (100007, [1, 2, 7]), (100011, [1, 2, 11])]
noncomputable def impl_IrreduciblesOf_fresh (a0 : Int) (a1 : Int) : Option ((List (Vec Int 64)) × Int) :=
  (Option.bind (impl_isPrime a0) fun r2 => (if (!r2) then (some ([], 1)) else (Option.bind (α := Bool) ((if (decide (a1 < 1)) then (some true) else (Option.bind (impl_prime_norm a0 a1 343) fun r15 => (some ((decide (r15 > 343))))))) fun x9 => (if x9 then (some ([], 2)) else (Option.bind (impl_prime_monics_fresh a0 a1) fun r19 => (Option.bind (slices_DeleteFunc_impl_row_impl_row_of_giv_impl_IrreduciblesOf_c1_p r19 a0) fun r21 => (Option.bind (impl_polys_fresh r21) fun r23 => (some (r23, 0)))))))))
theorem impl_IrreduciblesOf_fresh_ok (a0 : Int) (a1 : Int) (r : ((List (Vec Int 64)) × Int)) (h : impl_IrreduciblesOf_fresh a0 a1 = some r) : Den Try.prog 5 [(i6 a0), (i6 a1)] { r := (.tuple [(.osl 2000000), (i6 r.2)]), ms := [], fs := [(64, r.1.map eA64u8)] } := by
  refine den_ofX (rs := [(.osl 2000000), (i6 r.2)]) (ac := impl_IrreduciblesOf_fresh_c) (L := impl_IrreduciblesOf_fresh_L) (n := 27) (m := [(4, 2), (6, 1), (24, 1)]) (c := Try.f5.body.getD .skip) good Try.func5 (by kernel_rfl) (by kernel_rfl) Try.ntmps5 rfl rfl (by kernel_rfl) rfl ?_
  refine a_st (σ' := ⟨[(0, (i6 a0)), (1, (i6 a1))], []⟩) (by kernel_rfl) ?_
  unfold impl_IrreduciblesOf_fresh_c
  refine sr (vo 1200 (i6 a0) rfl rfl (vu (.osl 1400) [(1400, (bk (.row 64 (([]).map eA64u8))))] rfl trivial rfl (vp (i6 0) rfl (nx ⟨[(1, (i6 a1)), (2, (ow 2))], [(2, (bk (i6 a0)))]⟩ (by kernel_rfl) (a_seq (a_block (sr (vl (i6 a0) rfl rfl rfl rfl rfl rfl ?_))))))))
  obtain ⟨r2, hr3, h⟩ := bind_some h
  refine a_call (args := [(i6 a0)]) (u := []) (r := (.bool r2)) rfl rfl (impl_isPrime_ok a0 r2 hr3) rfl (vp (.bool (!r2)) rfl (vp (.bool (!r2)) rfl (nx ⟨[(1, (i6 a1)), (2, (ow 2)), (7, (.bool (!r2)))], [(2, (bk (i6 a0)))]⟩ (by kernel_rfl) ?_)))
  cases hb4 : (!r2)
  · have h := ite_f hb4 h
    refine a_cond_f rfl ?_
    obtain ⟨y10, hy11, hk12⟩ := bind_some h
    clear h
    refine a_join (emb := fun (s : Bool) => ⟨[(1, (i6 a1)), (2, (ow 2)), (11, (.bool s))], [(2, (bk (i6 a0)))]⟩) (pre := fun s => s = y10) ?_ ?_
    · rintro x9 rfl
      have h := hk12
      refine a_st (σ' := ⟨[(1, (i6 a1)), (2, (ow 2)), (11, (.bool x9))], [(2, (bk (i6 a0)))]⟩) (by kernel_rfl) ?_
      cases hb17 : x9
      · have h := ite_f hb17 h
        refine a_cond_f rfl (a_skip (b_norm (a_next (σ' := ⟨[(1, (i6 a1)), (2, (ow 2))], [(2, (bk (i6 a0)))]⟩) (by kernel_rfl) (sr (vl (i6 a0) rfl rfl rfl rfl rfl rfl (vp (i6 a1) rfl ?_))))))
        obtain ⟨r19, hr20, h⟩ := bind_some h
        refine a_callF (args := [(i6 a0), (i6 a1)]) (u := []) (u2 := []) (r := (.osl 2000000)) (fs := [(1, r19.map eSi64)]) rfl rfl (impl_prime_monics_fresh_ok a0 a1 r19 hr20) rfl rfl rfl (.inl rfl) rfl (vu (.clo 18 [] [(.ref (i6 a0) [] [])]) [(2, (bf (i6 a0)))] rfl trivial rfl ?_)
        obtain ⟨r21, hr22, h⟩ := bind_some h
        refine a_callG (args := [(.mutsl 1 (r19.map eSi64)), (.clo 18 [] [(.ref (i6 a0) [] [])])]) (i := 0) (id := 3200) (r := (eSSi64 r21)) rfl rfl (slices_DeleteFunc_impl_row_impl_row_of_giv_impl_IrreduciblesOf_c1_p_ok r19 a0 r21 hr22) rfl (vp (eSSi64 r21) rfl (nx ⟨[(6, (eSSi64 r21))], []⟩ (by kernel_rfl) (sr (vp (eSSi64 r21) rfl ?_))))
        obtain ⟨r23, hr24, h⟩ := bind_some h
        refine a_callF (args := [(eSSi64 r21)]) (u := []) (u2 := []) (r := (.osl 2000000)) (fs := [(64, r23.map eA64u8)]) rfl rfl (impl_polys_fresh_ok r21 r23 hr24) rfl rfl rfl (.inl rfl) rfl (vp (.osl 3600) rfl (vp (i6 0) rfl (nx _ rfl (a_ret ?_))))
        refine ⟨.inr rfl, ?_⟩
        rw [Try.results5]
        cases h
        exact ⟨[some 3600], ⟨_, _, _, _, _, rfl, trivial, rfl, .inr (.inl ⟨_, _, _, _, _, rfl, rfl, rfl, rfl, rfl, rfl, ⟨_, _, _, _, _, rfl, trivial, rfl, .inl ⟨rfl, .inl rfl, ⟨rfl, rfl, rfl⟩⟩⟩⟩)⟩, rfl, rfl⟩
      · have h := ite_t hb17 h
        refine a_cond_t rfl (sr (vu (.osl 1400) [(1400, (bk (.row 64 (([]).map eA64u8))))] rfl trivial rfl (vp (i6 2) rfl (nx _ rfl (a_ret (b_ret (t_ret ?_)))))))
        refine ⟨.inr rfl, ?_⟩
        rw [Try.results5]
        cases h
        exact ⟨[some 1400], ⟨_, _, _, _, _, rfl, trivial, rfl, .inr (.inl ⟨_, _, _, _, _, rfl, rfl, rfl, rfl, rfl, rfl, ⟨_, _, _, _, _, rfl, trivial, rfl, .inl ⟨rfl, .inl rfl, ⟨rfl, rfl, rfl⟩⟩⟩⟩)⟩, rfl, rfl⟩
    · have h := hy11
      refine a_region (vp (i6 a1) rfl (vp (.bool ((decide (a1 < 1)))) rfl (vp (.bool ((decide (a1 < 1)))) rfl ?_)))
      cases hb13 : (decide (a1 < 1))
      · have h := ite_f hb13 h
        have hl14 : LdOk [] (i6 a0) [] 1 false (i6 a0) := (.nil rfl rfl rfl)
        refine gq (i6 a0) rfl (ld_own (i := ⟨.int .i64, 1, 8, (.int .i64 0)⟩) rfl rfl rfl hl14) hl14.c (gp (i6 a1) rfl rfl ?_)
        obtain ⟨r15, hr16, h⟩ := bind_some h
        refine a_gcall rfl (args := [(i6 a0), (i6 a1), (i6 343)]) (u := []) (r := (i6 r15)) rfl rfl (impl_prime_norm_ok a0 a1 343 r15 hr16) rfl (gp (.bool ((decide (r15 > 343)))) rfl rfl (vp (.bool ((decide (r15 > 343)))) rfl (vp (.bool ((decide (r15 > 343)))) rfl (a_nil ?_))))
        exact j_leaf ((decide (r15 > 343))) (Option.some.inj h) (by kernel_rfl)
      · have h := ite_t hb13 h
        refine a_gskip rfl (a_gskip rfl (a_gskip rfl (a_gskip rfl (vp (.bool true) rfl (vp (.bool true) rfl (a_nil ?_))))))
        exact j_leaf true (Option.some.inj h) (by kernel_rfl)
  · have h := ite_t hb4 h
    refine a_cond_t rfl (sr (vu (.osl 1400) [(1400, (bk (.row 64 (([]).map eA64u8))))] rfl trivial rfl (vp (i6 1) rfl (nx _ rfl (a_ret (b_ret (t_ret ?_)))))))
    refine ⟨.inr rfl, ?_⟩
    rw [Try.results5]
    cases h
    exact ⟨[some 1400], ⟨_, _, _, _, _, rfl, trivial, rfl, .inr (.inl ⟨_, _, _, _, _, rfl, rfl, rfl, rfl, rfl, rfl, ⟨_, _, _, _, _, rfl, trivial, rfl, .inl ⟨rfl, .inl rfl, ⟨rfl, rfl, rfl⟩⟩⟩⟩)⟩, rfl, rfl⟩
def laws_eqPoly_c : ACode := (.seq (.region 0 [q 2 (.box 32 (t 0)), q 3 (.box 32 (t 1)), q 4 (.asg 0 (.const (.bool false)) 4)] false) (.seq (.seq (.region 1 [q 5 (.asg 0 (.const (.int .i64 0)) 3)] false) (.block 0 (.loop (.seq (.seq (.region 2 [q 6 (.mov (t 5)), q 7 (.bin .lss 3 (t 6) (.const (.int .i64 64)))] false) (.cond (t 7) .skip (.exit 0))) (.seq (.block 1 (.seq (.region 4 [q 10 (.mov (t 5)), ⟨some 11, .indexAddr 32 (t 2) (t 10), none, [0]⟩, ⟨some 12, .load 5 (t 11), none, [1]⟩, q 13 (.mov (t 5)), ⟨some 14, .indexAddr 32 (t 3) (t 13), none, [3]⟩, ⟨some 15, .load 5 (t 14), none, [4]⟩, ⟨some 16, .bin .neq 5 (t 12) (t 15), none, [2, 5]⟩] true) (.cond (t 16) (.seq (.region 5 [q 4 (.asg 0 (.const (.bool false)) 4)] false) .ret) .skip))) (.region 3 [q 8 (.mov (t 5)), q 9 (.bin .add 3 (t 8) (.const (.int .i64 1))), q 5 (.asg 0 (t 9) 3)] false)))))) (.seq (.region 6 [q 4 (.asg 0 (.const (.bool true)) 4)] false) .ret)))
def laws_eqPoly_L : Live := [(0, [0, 1]), (1, [2, 3]), (2, [2, 3, 5]), (3, [2, 3, 5]), (4, [2, 3, 5]), (5, []), (6, []), (100007, [2, 3, 5, 7]), (100016, [2, 3, 5, 16])]
noncomputable def laws_eqPoly_l1 (a0 : (Vec Int 64)) (a1 : (Vec Int 64)) (x49 : Int) : Option (Int ⊕ (Unit ⊕ Bool)) :=
  (if (decide (x49 < 64)) then (ifp (0 ≤ x49 ∧ x49 < ((64 : Nat) : Int)) ((ifp (0 ≤ x49 ∧ x49 < ((64 : Nat) : Int)) ((if ((rd a0.1 x49.toNat) != (rd a1.1 x49.toNat)) then (some (.inr (.inr false))) else (some (.inl (IntKind.i64.wrap (x49 + 1))))))))) else (some (.inr (((.inl ()))))))
noncomputable def laws_eqPoly (a0 : (Vec Int 64)) (a1 : (Vec Int 64)) : Option Bool :=
  (Option.bind (α := (Unit ⊕ Bool)) ((loopM (fun s : Int => laws_eqPoly_l1 a0 a1 s) 0)) fun z => match z with | .inl _ => (some true) | .inr r74 => (some r74))
theorem laws_eqPoly_ok (a0 : (Vec Int 64)) (a1 : (Vec Int 64)) (r : Bool) (h : laws_eqPoly a0 a1 = some r) : Den Try.prog 21 [(eA64u8 a0), (eA64u8 a1)] { r := (.bool r) } := by
  refine den_of (rs := [(.bool r)]) (ac := laws_eqPoly_c) (L := laws_eqPoly_L) (n := 17) (m := []) (c := Try.f21.body.getD .skip) good Try.func21 (by kernel_rfl) (by kernel_rfl) Try.ntmps21 rfl rfl (by kernel_rfl) rfl rfl ?_
  refine a_st (σ' := ⟨[(0, (eA64u8 a0)), (1, (eA64u8 a1))], []⟩) (by kernel_rfl) ?_
  unfold laws_eqPoly_c
  refine sr (vo 1200 (eA64u8 a0) rfl rfl (vo 1300 (eA64u8 a1) rfl rfl (vp (.bool false) rfl (nx ⟨[(2, (ow 2)), (3, (ow 3))], [(2, (bk (eA64u8 a0))), (3, (bk (eA64u8 a1)))]⟩ (by kernel_rfl) ?_))))
  obtain ⟨y36, hy37, hk38⟩ := bind_some h
  clear h
  refine a_join (emb := fun (s : Unit) => ⟨[], []⟩) (pre := fun s => (.inl s) = y36) ?_ ?_
  · rintro _ rfl
    have h := hk38
    refine a_st (σ' := ⟨[], []⟩) (by kernel_rfl) (sr (vp (.bool true) rfl (nx _ rfl (a_ret ?_))))
    refine ⟨.inr rfl, ?_⟩
    rw [Try.results21]
    cases h
    exact ⟨_, _, _, _, _, rfl, trivial, .inl ⟨rfl, .inl rfl⟩, rfl, rfl⟩
  · have h := hy37
    refine sr (vp (i6 0) rfl (nx ⟨[(2, (ow 2)), (3, (ow 3)), (5, (i6 0))], [(2, (bk (eA64u8 a0))), (3, (bk (eA64u8 a1)))]⟩ (by kernel_rfl) (a_block ?_)))
    refine a_loop (emb := fun (s : Int) => ⟨[(2, (ow 2)), (3, (ow 3)), (5, (i6 s))], [(2, (bk (eA64u8 a0))), (3, (bk (eA64u8 a1)))]⟩) (body := (fun s : Int => laws_eqPoly_l1 a0 a1 s)) (G := fun q => some q = some y36) h rfl ?_ (by kernel_rfl)
    rintro X60 x49 x61 h hX62
    have h : laws_eqPoly_l1 a0 a1 x49 = some x61 := h
    refine a_st (σ' := ⟨[(2, (ow 2)), (3, (ow 3)), (5, (i6 x49))], [(2, (bk (eA64u8 a0))), (3, (bk (eA64u8 a1)))]⟩) (by kernel_rfl) (a_seq (sr (vp (i6 x49) rfl (vp (.bool ((decide (x49 < 64)))) rfl (nx ⟨[(2, (ow 2)), (3, (ow 3)), (5, (i6 x49)), (7, (.bool ((decide (x49 < 64)))))], [(2, (bk (eA64u8 a0))), (3, (bk (eA64u8 a1)))]⟩ (by kernel_rfl) ?_)))))
    cases hb63 : (decide (x49 < 64))
    · have h := ite_f hb63 h
      refine a_cond_f rfl (a_exit (t_exit ?_))
      cases h
      have h := hX62
      refine t_exit (b_exit ?_)
      exact j_leaf () (Option.some.inj h) (by kernel_rfl)
    · have h := ite_t hb63 h
      refine a_cond_t rfl (a_skip (a_next (σ' := ⟨[(2, (ow 2)), (3, (ow 3)), (5, (i6 x49))], [(2, (bk (eA64u8 a0))), (3, (bk (eA64u8 a1)))]⟩) (by kernel_rfl) (a_seq (a_block (a_seq (a_draw [⟨[], [], [], []⟩, ⟨[2], [], [2], [0]⟩, ⟨[2], [], [], [0, 1]⟩, ⟨[], [], [], []⟩, ⟨[3], [], [3], [3]⟩, ⟨[3], [], [], [3, 4]⟩, ⟨[], [], [], [0, 1, 2, 3, 4, 5]⟩] (by kernel_rfl) (dp (i6 x49) rfl (by kernel_rfl) (d_cons ?_))))))))
      obtain ⟨hc68, h⟩ := ifp_some h
      refine vq (.own 2 [x49.toNat] [x49.toNat * 1]) rfl hc68 (d_next (by kernel_rfl) (d_cons ?_))
      have hl69 : LdOk [x49.toNat] (eA64u8 a0) [x49.toNat * 1] 1 false (b8 (rd a0.1 x49.toNat)) := (.arr (vlt a0 hc68) rfl (.nil rfl rfl rfl))
      refine vq (b8 (rd a0.1 x49.toNat)) (ld_own (i := ⟨.int .u8, 1, 1, (.int .u8 0)⟩) rfl rfl rfl hl69) hl69.c (d_next (by kernel_rfl) (dp (i6 x49) rfl (by kernel_rfl) (d_cons ?_)))
      obtain ⟨hc70, h⟩ := ifp_some h
      refine vq (.own 3 [x49.toNat] [x49.toNat * 1]) rfl hc70 (d_next (by kernel_rfl) (d_cons ?_))
      have hl71 : LdOk [x49.toNat] (eA64u8 a1) [x49.toNat * 1] 1 false (b8 (rd a1.1 x49.toNat)) := (.arr (vlt a1 hc70) rfl (.nil rfl rfl rfl))
      refine vq (b8 (rd a1.1 x49.toNat)) (ld_own (i := ⟨.int .u8, 1, 1, (.int .u8 0)⟩) rfl rfl rfl hl71) hl71.c (d_next (by kernel_rfl) (dp (.bool (((rd a0.1 x49.toNat) != (rd a1.1 x49.toNat)))) rfl (by kernel_rfl) (d_nil (a_next (σ' := ⟨[(2, (ow 2)), (3, (ow 3)), (5, (i6 x49)), (16, (.bool (((rd a0.1 x49.toNat) != (rd a1.1 x49.toNat)))))], [(2, (bk (eA64u8 a0))), (3, (bk (eA64u8 a1)))]⟩) (by kernel_rfl) ?_))))
      cases hb72 : ((rd a0.1 x49.toNat) != (rd a1.1 x49.toNat))
      · have h := ite_f hb72 h
        refine a_cond_f rfl (a_skip (b_norm (a_next (σ' := ⟨[(2, (ow 2)), (3, (ow 3)), (5, (i6 x49))], [(2, (bk (eA64u8 a0))), (3, (bk (eA64u8 a1)))]⟩) (by kernel_rfl) (a_region (vp (i6 x49) rfl (vp (i6 (IntKind.i64.wrap (x49 + 1))) rfl (vp (i6 (IntKind.i64.wrap (x49 + 1))) rfl (a_nil ?_))))))))
        cases h
        exact a_again (by kernel_rfl) hX62
      · have h := ite_t hb72 h
        refine a_cond_t rfl (sr (vp (.bool false) rfl (nx _ rfl (a_ret (b_ret (t_ret ?_))))))
        cases h
        have h := hX62
        refine t_ret (b_ret (t_ret ?_))
        cases h
        have h := hk38
        refine ⟨.inr rfl, ?_⟩
        rw [Try.results21]
        cases h
        exact ⟨_, _, _, _, _, rfl, trivial, .inl ⟨rfl, .inl rfl⟩, rfl, rfl⟩
def laws_eqPolyS_c : ACode := (.seq (.region 0 [q 4 (.asg 0 (.const (.bool false)) 4)] false) (.seq (.seq (.region 1 [q 6 (.mov (t 0)), q 7 (.blt 0 .len [(t 6)] [22]), q 8 (.mov (t 1)), q 9 (.blt 0 .len [(t 8)] [22]), q 10 (.bin .neq 3 (t 7) (t 9))] false) (.cond (t 10) (.seq (.region 2 [q 4 (.asg 0 (.const (.bool false)) 4)] false) .ret) .skip)) (.seq (.seq (.region 3 [q 5 (.asg 0 (.const (.int .i64 0)) 3)] false) (.block 0 (.loop (.seq (.seq (.region 4 [q 11 (.mov (t 5)), q 12 (.mov (t 0)), q 13 (.blt 0 .len [(t 12)] [22]), q 14 (.bin .lss 3 (t 11) (t 13))] false) (.cond (t 14) .skip (.exit 0))) (.seq (.block 1 (.seq (.region 6 [q 17 (.mov (t 0)), q 18 (.mov (t 5)), ⟨some 19, .indexAddr 22 (t 17) (t 18), none, [0, 1]⟩, ⟨some 20, .load 32 (t 19), none, [2]⟩, q 21 (.mov (t 1)), q 22 (.mov (t 5)), ⟨some 23, .indexAddr 22 (t 21) (t 22), none, [4, 5]⟩, ⟨some 24, .load 32 (t 23), none, [6]⟩, ⟨some 25, .call 0 (.func 21) [(t 20), (t 24)], none, [3, 7]⟩, ⟨some 26, .un .not (t 25), none, [8]⟩] true) (.cond (t 26) (.seq (.region 7 [q 4 (.asg 0 (.const (.bool false)) 4)] false) .ret) .skip))) (.region 5 [q 15 (.mov (t 5)), q 16 (.bin .add 3 (t 15) (.const (.int .i64 1))), q 5 (.asg 0 (t 16) 3)] false)))))) (.seq (.region 8 [q 4 (.asg 0 (.const (.bool true)) 4)] false) .ret))))
def laws_eqPolyS_L : Live := [(0, [0, 1]), (1, [0, 1]), (2, []), (3, [0, 1]), (4, [0, 1, 5]), (5, [0, 1, 5]), (6, [0, 1, 5]), (7, []), (8, []), (100010, [0, 1, 10]), (100014, [0, 1, 5, 14]), (100026, [0, 1, 5, 26])]
noncomputable def laws_eqPolyS_l1 (a0 : (List (Vec Int 64))) (a1 : (List (Vec Int 64))) (x66 : Int) : Option (Int ⊕ (Unit ⊕ Bool)) :=
  (if (decide (x66 < (a0.length : Int))) then (ifp (0 ≤ x66 ∧ x66 < ((a0.length : Nat) : Int)) ((ifp (0 ≤ x66 ∧ x66 < ((a1.length : Nat) : Int)) ((Option.bind (laws_eqPoly (rd a0 x66.toNat) (rd a1 x66.toNat)) fun r95 => (if (!r95) then (some (.inr (.inr false))) else (some (.inl (IntKind.i64.wrap (x66 + 1)))))))))) else (some (.inr (((.inl ()))))))
noncomputable def laws_eqPolyS (a0 : (List (Vec Int 64))) (a1 : (List (Vec Int 64))) : Option Bool :=
  (if ((a0.length : Int) != (a1.length : Int)) then (some false) else (Option.bind (α := (Unit ⊕ Bool)) ((loopM (fun s : Int => laws_eqPolyS_l1 a0 a1 s) 0)) fun z => match z with | .inl _ => (some true) | .inr r99 => (some r99)))
theorem laws_eqPolyS_ok (a0 : (List (Vec Int 64))) (a1 : (List (Vec Int 64))) (r : Bool) (h : laws_eqPolyS a0 a1 = some r) : Den Try.prog 6 [(eSA64u8 a0), (eSA64u8 a1)] { r := (.bool r) } := by
  refine den_of (rs := [(.bool r)]) (ac := laws_eqPolyS_c) (L := laws_eqPolyS_L) (n := 27) (m := []) (c := Try.f6.body.getD .skip) good Try.func6 (by kernel_rfl) (by kernel_rfl) Try.ntmps6 rfl rfl (by kernel_rfl) rfl rfl ?_
  refine a_st (σ' := ⟨[(0, (eSA64u8 a0)), (1, (eSA64u8 a1))], []⟩) (by kernel_rfl) ?_
  unfold laws_eqPolyS_c
  refine sr (vp (.bool false) rfl (nx ⟨[(0, (eSA64u8 a0)), (1, (eSA64u8 a1))], []⟩ (by kernel_rfl) (a_seq (sr (vp (eSA64u8 a0) rfl (vq (i6 (a0.length : Int)) (len_run rfl rfl) trivial (vp (eSA64u8 a1) rfl (vq (i6 (a1.length : Int)) (len_run rfl rfl) trivial (vp (.bool (((a0.length : Int) != (a1.length : Int)))) rfl ?_)))))))))
  refine nx ⟨[(0, (eSA64u8 a0)), (1, (eSA64u8 a1)), (10, (.bool (((a0.length : Int) != (a1.length : Int)))))], []⟩ (by kernel_rfl) ?_
  cases hb1 : ((a0.length : Int) != (a1.length : Int))
  · have h := ite_f hb1 h
    refine a_cond_f rfl (a_skip (a_next (σ' := ⟨[(0, (eSA64u8 a0)), (1, (eSA64u8 a1))], []⟩) (by kernel_rfl) ?_))
    obtain ⟨y49, hy50, hk51⟩ := bind_some h
    clear h
    refine a_join (emb := fun (s : Unit) => ⟨[], []⟩) (pre := fun s => (.inl s) = y49) ?_ ?_
    · rintro _ rfl
      have h := hk51
      refine a_st (σ' := ⟨[], []⟩) (by kernel_rfl) (sr (vp (.bool true) rfl (nx _ rfl (a_ret ?_))))
      refine ⟨.inr rfl, ?_⟩
      rw [Try.results6]
      cases h
      exact ⟨_, _, _, _, _, rfl, trivial, .inl ⟨rfl, .inl rfl⟩, rfl, rfl⟩
    · have h := hy50
      refine sr (vp (i6 0) rfl (nx ⟨[(0, (eSA64u8 a0)), (1, (eSA64u8 a1)), (5, (i6 0))], []⟩ (by kernel_rfl) (a_block ?_)))
      refine a_loop (emb := fun (s : Int) => ⟨[(0, (eSA64u8 a0)), (1, (eSA64u8 a1)), (5, (i6 s))], []⟩) (body := (fun s : Int => laws_eqPolyS_l1 a0 a1 s)) (G := fun q => some q = some y49) h rfl ?_ (by kernel_rfl)
      rintro X81 x66 x82 h hX83
      have h : laws_eqPolyS_l1 a0 a1 x66 = some x82 := h
      refine a_st (σ' := ⟨[(0, (eSA64u8 a0)), (1, (eSA64u8 a1)), (5, (i6 x66))], []⟩) (by kernel_rfl) (a_seq (sr (vp (i6 x66) rfl (vp (eSA64u8 a0) rfl (vq (i6 (a0.length : Int)) (len_run rfl rfl) trivial (vp (.bool ((decide (x66 < (a0.length : Int))))) rfl (nx ⟨[(0, (eSA64u8 a0)), (1, (eSA64u8 a1)), (5, (i6 x66)), (14, (.bool ((decide (x66 < (a0.length : Int))))))], []⟩ (by kernel_rfl) ?_)))))))
      cases hb84 : (decide (x66 < (a0.length : Int)))
      · have h := ite_f hb84 h
        refine a_cond_f rfl (a_exit (t_exit ?_))
        cases h
        have h := hX83
        refine t_exit (b_exit ?_)
        exact j_leaf () (Option.some.inj h) (by kernel_rfl)
      · have h := ite_t hb84 h
        refine a_cond_t rfl (a_skip (a_next (σ' := ⟨[(0, (eSA64u8 a0)), (1, (eSA64u8 a1)), (5, (i6 x66))], []⟩) (by kernel_rfl) (a_seq (a_block (a_seq (a_draw [⟨[], [], [], []⟩, ⟨[], [], [], []⟩, ⟨[], [], [], [0, 1]⟩, ⟨[], [], [], [0, 1, 2]⟩, ⟨[], [], [], []⟩, ⟨[], [], [], []⟩, ⟨[], [], [], [4, 5]⟩, ⟨[], [], [], [4, 5, 6]⟩, ⟨[], [], [], [0, 1, 2, 3, 4, 5, 6, 7]⟩, ⟨[], [], [], [0, 1, 2, 3, 4, 5, 6, 7, 8]⟩] (by kernel_rfl) (dp (eSA64u8 a0) rfl (by kernel_rfl) (dp (i6 x66) rfl (by kernel_rfl) (d_cons ?_)))))))))
        obtain ⟨hc91, h⟩ := ifp_some h
        refine vq (.ref (.row 64 (a0.map eA64u8)) [x66.toNat] [x66.toNat * 64]) rfl (lmap hc91) (d_next (by kernel_rfl) (d_cons ?_))
        have hl92 : LdOk [x66.toNat] (.row 64 (a0.map eA64u8)) [x66.toNat * 64] 64 true (eA64u8 (rd a0 x66.toNat)) := (.row (llt hc91) rfl (.nil rfl rfl rfl))
        refine vq (eA64u8 (rd a0 x66.toNat)) (ld_ref (i := ⟨.arr 64 5, 64, 64, (eA64u8 (vrep 64 (0 : Int)))⟩) rfl rfl hl92) hl92.c (d_next (by kernel_rfl) (dp (eSA64u8 a1) rfl (by kernel_rfl) (dp (i6 x66) rfl (by kernel_rfl) (d_cons ?_))))
        obtain ⟨hc93, h⟩ := ifp_some h
        refine vq (.ref (.row 64 (a1.map eA64u8)) [x66.toNat] [x66.toNat * 64]) rfl (lmap hc93) (d_next (by kernel_rfl) (d_cons ?_))
        have hl94 : LdOk [x66.toNat] (.row 64 (a1.map eA64u8)) [x66.toNat * 64] 64 true (eA64u8 (rd a1 x66.toNat)) := (.row (llt hc93) rfl (.nil rfl rfl rfl))
        refine vq (eA64u8 (rd a1 x66.toNat)) (ld_ref (i := ⟨.arr 64 5, 64, 64, (eA64u8 (vrep 64 (0 : Int)))⟩) rfl rfl hl94) hl94.c (d_next (by kernel_rfl) (d_cons ?_))
        obtain ⟨r95, hr96, h⟩ := bind_some h
        refine a_call (args := [(eA64u8 (rd a0 x66.toNat)), (eA64u8 (rd a1 x66.toNat))]) (u := []) (r := (.bool r95)) rfl rfl (laws_eqPoly_ok (rd a0 x66.toNat) (rd a1 x66.toNat) r95 hr96) rfl (d_next (by kernel_rfl) (dp (.bool (!r95)) rfl (by kernel_rfl) (d_nil (a_next (σ' := ⟨[(0, (eSA64u8 a0)), (1, (eSA64u8 a1)), (5, (i6 x66)), (26, (.bool (!r95)))], []⟩) (by kernel_rfl) ?_))))
        cases hb97 : (!r95)
        · have h := ite_f hb97 h
          refine a_cond_f rfl (a_skip (b_norm (a_next (σ' := ⟨[(0, (eSA64u8 a0)), (1, (eSA64u8 a1)), (5, (i6 x66))], []⟩) (by kernel_rfl) (a_region (vp (i6 x66) rfl (vp (i6 (IntKind.i64.wrap (x66 + 1))) rfl (vp (i6 (IntKind.i64.wrap (x66 + 1))) rfl (a_nil ?_))))))))
          cases h
          exact a_again (by kernel_rfl) hX83
        · have h := ite_t hb97 h
          refine a_cond_t rfl (sr (vp (.bool false) rfl (nx _ rfl (a_ret (b_ret (t_ret ?_))))))
          cases h
          have h := hX83
          refine t_ret (b_ret (t_ret ?_))
          cases h
          have h := hk51
          refine ⟨.inr rfl, ?_⟩
          rw [Try.results6]
          cases h
          exact ⟨_, _, _, _, _, rfl, trivial, .inl ⟨rfl, .inl rfl⟩, rfl, rfl⟩
  · have h := ite_t hb1 h
    refine a_cond_t rfl (sr (vp (.bool false) rfl (nx _ rfl (a_ret (t_ret ?_)))))
    refine ⟨.inr rfl, ?_⟩
    rw [Try.results6]
    cases h
    exact ⟨_, _, _, _, _, rfl, trivial, .inl ⟨rfl, .inl rfl⟩, rfl, rfl⟩
def laws_markPolyS_of_mut_c : ACode := (.seq (.region 0 [q 4 (.asg 0 (.const (.int .i64 0)) 3)] false) (.seq (.seq (.region 1 [q 5 (.asg 0 (.const (.int .i64 0)) 3)] false) (.block 0 (.loop (.seq (.seq (.region 2 [q 7 (.mov (t 5)), q 8 (.mov (t 0)), q 9 (.blt 0 .len [(t 8)] [22]), q 10 (.bin .lss 3 (t 7) (t 9))] false) (.cond (t 10) .skip (.exit 0))) (.seq (.block 1 (.seq (.region 4 [q 6 (.asg 0 (.const (.int .i64 0)) 3)] false) (.block 2 (.loop (.seq (.seq (.region 5 [q 13 (.mov (t 6)), q 14 (.bin .lss 3 (t 13) (.const (.int .i64 64)))] false) (.cond (t 14) .skip (.exit 2))) (.seq (.block 3 (.seq (.region 7 [q 17 (.mov (t 0)), q 18 (.mov (t 5)), q 19 (.mov (t 6)), q 20 (.mov (t 1)), q 21 (.conv 3 5 (t 20)), q 22 (.indexAddr 22 (t 17) (t 18)), q 23 (.indexAddr 32 (t 22) (t 19)), ⟨none, .store 5 (t 23) (t 21), none, []⟩] false) (.region 8 [q 24 (.mov (t 1)), q 25 (.bin .add 3 (t 24) (.const (.int .i64 1))), q 1 (.asg 0 (t 25) 3)] false))) (.region 6 [q 15 (.mov (t 6)), q 16 (.bin .add 3 (t 15) (.const (.int .i64 1))), q 6 (.asg 0 (t 16) 3)] false))))))) (.region 3 [q 11 (.mov (t 5)), q 12 (.bin .add 3 (t 11) (.const (.int .i64 1))), q 5 (.asg 0 (t 12) 3)] false)))))) (.seq (.region 9 [q 26 (.mov (t 1)), q 4 (.asg 0 (t 26) 3)] false) .ret)))
def laws_markPolyS_of_mut_L : Live := [(0, [0, 1]), (1, [0, 1]), (2, [0, 1, 5]), (3, [0, 1, 5]), (4, [0, 1, 5]), (5, [0, 1, 5, 6]), (6, [0, 1, 5, 6]), (7, [0, 1, 5, 6]), (8, [0, 1, 5, 6]), (9, [1]), (100010, [0, 1, 5, 10]), (100014, [0, 1, 5, 6, 14])]
noncomputable def laws_markPolyS_of_mut_l2 (x190 : Int) (x268 : Int) (x269 : Int) (x270 : (List (Vec Int 64))) : Option ((Int × Int × (List (Vec Int 64))) ⊕ (Int × (List (Vec Int 64)))) :=
  (if (decide (x269 < 64)) then (ifp (0 ≤ x190 ∧ x190 < ((x270.length : Nat) : Int)) ((ifp (0 ≤ x269 ∧ x269 < ((64 : Nat) : Int)) ((some (.inl ((IntKind.i64.wrap (x268 + 1), IntKind.i64.wrap (x269 + 1), (x270.set x190.toNat ((vset (rd x270 x190.toNat) x269.toNat (IntKind.u8.wrap x268)))))))))))) else (some (.inr (x268, x270))))
noncomputable def laws_markPolyS_of_mut_l1  (x189 : Int) (x190 : Int) (x191 : (List (Vec Int 64))) : Option ((Int × Int × (List (Vec Int 64))) ⊕ (Int × (List (Vec Int 64)))) :=
  (if (decide (x190 < (x191.length : Int))) then (Option.bind (α := (Int × (List (Vec Int 64)))) ((loopM (fun s : (Int × Int × (List (Vec Int 64))) => laws_markPolyS_of_mut_l2 x190 s.1 s.2.1 s.2.2) (x189, 0, x191))) fun ⟨x259, x260⟩ => (some (.inl ((x259, IntKind.i64.wrap (x190 + 1), x260))))) else (some (.inr (x189, x191))))
noncomputable def laws_markPolyS_of_mut (a0 : (List (Vec Int 64))) (a1 : Int) : Option (Int × (List (Vec Int 64))) :=
  (Option.bind (α := (Int × (List (Vec Int 64)))) ((loopM (fun s : (Int × Int × (List (Vec Int 64))) => laws_markPolyS_of_mut_l1 s.1 s.2.1 s.2.2) (a1, 0, a0))) fun ⟨x140, x141⟩ => (some (x140, x141)))
theorem laws_markPolyS_of_mut_ok (a0 : (List (Vec Int 64))) (a1 : Int) (r : (Int × (List (Vec Int 64)))) (h : laws_markPolyS_of_mut a0 a1 = some r) : Den Try.prog 7 [(.mutsl 64 (a0.map eA64u8)), (i6 a1)] { r := (i6 r.1), ms := [(.row 64 (r.2.map eA64u8))], fs := [] } := by
  refine den_ofX (rs := [(i6 r.1)]) (ac := laws_markPolyS_of_mut_c) (L := laws_markPolyS_of_mut_L) (n := 27) (m := []) (c := Try.f7.body.getD .skip) good Try.func7 (by kernel_rfl) (by kernel_rfl) Try.ntmps7 rfl rfl (by kernel_rfl) rfl ?_
  refine a_st (σ' := ⟨[(0, (.osl 1000000)), (1, (i6 a1))], [(1000000, (bk (.row 64 (a0.map eA64u8))))]⟩) (by kernel_rfl) ?_
  unfold laws_markPolyS_of_mut_c
  refine sr (vp (i6 0) rfl (nx ⟨[(0, (.osl 1000000)), (1, (i6 a1))], [(1000000, (bk (.row 64 (a0.map eA64u8))))]⟩ (by kernel_rfl) ?_))
  obtain ⟨y142, hy143, hk144⟩ := bind_some h
  clear h
  refine a_join (emb := fun (s : (Int × (List (Vec Int 64)))) => ⟨[(1, (i6 s.1))], [(1000000, (bk (.row 64 (s.2.map eA64u8))))]⟩) (pre := fun s => s = y142) ?_ ?_
  · rintro ⟨x140, x141⟩ rfl
    have h := hk144
    refine a_st (σ' := ⟨[(1, (i6 x140))], [(1000000, (bk (.row 64 (x141.map eA64u8))))]⟩) (by kernel_rfl) (sr (vp (i6 x140) rfl (vp (i6 x140) rfl (nx _ rfl (a_ret ?_)))))
    refine ⟨.inr rfl, ?_⟩
    rw [Try.results7]
    cases h
    exact ⟨[], ⟨_, _, _, _, _, rfl, trivial, rfl, .inl ⟨rfl, .inl rfl, ⟨rfl, rfl, rfl⟩⟩⟩, rfl, ⟨_, _, rfl, rfl, rfl⟩⟩
  · have h := hy143
    refine sr (vp (i6 0) rfl (nx ⟨[(0, (.osl 1000000)), (1, (i6 a1)), (5, (i6 0))], [(1000000, (bk (.row 64 (a0.map eA64u8))))]⟩ (by kernel_rfl) (a_block ?_)))
    refine a_loop (emb := fun (s : (Int × Int × (List (Vec Int 64)))) => ⟨[(0, (.osl 1000000)), (1, (i6 s.1)), (5, (i6 s.2.1))], [(1000000, (bk (.row 64 (s.2.2.map eA64u8))))]⟩) (body := (fun s : (Int × Int × (List (Vec Int 64))) => laws_markPolyS_of_mut_l1 s.1 s.2.1 s.2.2)) (G := fun q => some q = some y142) h rfl ?_ (by kernel_rfl)
    rintro X236 ⟨x189, x190, x191⟩ x237 h hX238
    have h : laws_markPolyS_of_mut_l1 x189 x190 x191 = some x237 := h
    refine a_st (σ' := ⟨[(0, (.osl 1000000)), (1, (i6 x189)), (5, (i6 x190))], [(1000000, (bk (.row 64 (x191.map eA64u8))))]⟩) (by kernel_rfl) (a_seq (sr (vp (i6 x190) rfl (vp (.osl 1000000) rfl (vq (i6 (x191.length : Int)) (leno_run rfl rfl rfl) trivial (vp (.bool ((decide (x190 < (x191.length : Int))))) rfl (nx ⟨[(0, (.osl 1000000)), (1, (i6 x189)), (5, (i6 x190)), (10, (.bool ((decide (x190 < (x191.length : Int))))))], [(1000000, (bk (.row 64 (x191.map eA64u8))))]⟩ (by kernel_rfl) ?_)))))))
    cases hb239 : (decide (x190 < (x191.length : Int)))
    · have h := ite_f hb239 h
      refine a_cond_f rfl (a_exit (t_exit ?_))
      cases h
      have h := hX238
      refine t_exit (b_exit ?_)
      exact j_leaf (x189, x191) (Option.some.inj h) (by kernel_rfl)
    · have h := ite_t hb239 h
      refine a_cond_t rfl (a_skip (a_next (σ' := ⟨[(0, (.osl 1000000)), (1, (i6 x189)), (5, (i6 x190))], [(1000000, (bk (.row 64 (x191.map eA64u8))))]⟩) (by kernel_rfl) ?_))
      obtain ⟨y261, hy262, hk263⟩ := bind_some h
      clear h
      refine a_join (emb := fun (s : (Int × (List (Vec Int 64)))) => ⟨[(0, (.osl 1000000)), (1, (i6 s.1)), (5, (i6 x190))], [(1000000, (bk (.row 64 (s.2.map eA64u8))))]⟩) (pre := fun s => s = y261) ?_ ?_
      · rintro ⟨x259, x260⟩ rfl
        have h := hk263
        refine a_st (σ' := ⟨[(0, (.osl 1000000)), (1, (i6 x259)), (5, (i6 x190))], [(1000000, (bk (.row 64 (x260.map eA64u8))))]⟩) (by kernel_rfl) (a_region (vp (i6 x190) rfl (vp (i6 (IntKind.i64.wrap (x190 + 1))) rfl (vp (i6 (IntKind.i64.wrap (x190 + 1))) rfl (a_nil ?_)))))
        cases h
        exact a_again (by kernel_rfl) hX238
      · have h := hy262
        refine a_block (sr (vp (i6 0) rfl (nx ⟨[(0, (.osl 1000000)), (1, (i6 x189)), (5, (i6 x190)), (6, (i6 0))], [(1000000, (bk (.row 64 (x191.map eA64u8))))]⟩ (by kernel_rfl) (a_block ?_))))
        refine a_loop (emb := fun (s : (Int × Int × (List (Vec Int 64)))) => ⟨[(0, (.osl 1000000)), (1, (i6 s.1)), (5, (i6 x190)), (6, (i6 s.2.1))], [(1000000, (bk (.row 64 (s.2.2.map eA64u8))))]⟩) (body := (fun s : (Int × Int × (List (Vec Int 64))) => laws_markPolyS_of_mut_l2 x190 s.1 s.2.1 s.2.2)) (G := fun q => some q = some y261) h rfl ?_ (by kernel_rfl)
        rintro X275 ⟨x268, x269, x270⟩ x276 h hX277
        have h : laws_markPolyS_of_mut_l2 x190 x268 x269 x270 = some x276 := h
        refine a_st (σ' := ⟨[(0, (.osl 1000000)), (1, (i6 x268)), (5, (i6 x190)), (6, (i6 x269))], [(1000000, (bk (.row 64 (x270.map eA64u8))))]⟩) (by kernel_rfl) (a_seq (sr (vp (i6 x269) rfl (vp (.bool ((decide (x269 < 64)))) rfl (nx ⟨[(0, (.osl 1000000)), (1, (i6 x268)), (5, (i6 x190)), (6, (i6 x269)), (14, (.bool ((decide (x269 < 64)))))], [(1000000, (bk (.row 64 (x270.map eA64u8))))]⟩ (by kernel_rfl) ?_)))))
        cases hb278 : (decide (x269 < 64))
        · have h := ite_f hb278 h
          refine a_cond_f rfl (a_exit (t_exit ?_))
          cases h
          have h := hX277
          refine t_exit (b_exit (b_norm ?_))
          exact j_leaf (x268, x270) (Option.some.inj h) (by kernel_rfl)
        · have h := ite_t hb278 h
          refine a_cond_t rfl (a_skip (a_next (σ' := ⟨[(0, (.osl 1000000)), (1, (i6 x268)), (5, (i6 x190)), (6, (i6 x269))], [(1000000, (bk (.row 64 (x270.map eA64u8))))]⟩) (by kernel_rfl) (a_seq (a_block (sr (vp (.osl 1000000) rfl (vp (i6 x190) rfl (vp (i6 x269) rfl (vp (i6 x268) rfl ?_)))))))))
          refine vp (b8 (IntKind.u8.wrap x268)) rfl ?_
          obtain ⟨hc279, h⟩ := ifp_some h
          refine vq (.own 1000000 [x190.toNat] [x190.toNat * 64]) rfl (lmap hc279) ?_
          obtain ⟨hc280, h⟩ := ifp_some h
          refine vq (.own 1000000 [x190.toNat, x269.toNat] [x190.toNat * 64, x269.toNat * 1]) rfl hc280 ?_
          have hs281 : StOk [x190.toNat, x269.toNat] (.row 64 (x270.map eA64u8)) [x190.toNat * 64, x269.toNat * 1] 1 (b8 (IntKind.u8.wrap x268)) (.row 64 (((x270.set x190.toNat ((vset (rd x270 x190.toNat) x269.toNat (IntKind.u8.wrap x268))))).map eA64u8)) := (.row (y := (vset (rd x270 x190.toNat) x269.toNat (IntKind.u8.wrap x268))) (llt hc279) rfl (.arr (y := IntKind.u8.wrap x268) (vlt (rd x270 x190.toNat) hc280) rfl (.nil rfl rfl rfl rfl)))
          refine vu .top [(1000000, (bk (.row 64 (((x270.set x190.toNat ((vset (rd x270 x190.toNat) x269.toNat (IntKind.u8.wrap x268))))).map eA64u8))))] (st_own (i := ⟨.int .u8, 1, 1, (.int .u8 0)⟩) rfl rfl (fun _ => rfl) rfl hs281) (hs281.c rfl) rfl (nx ⟨[(0, (.osl 1000000)), (1, (i6 x268)), (5, (i6 x190)), (6, (i6 x269))], [(1000000, (bk (.row 64 (((x270.set x190.toNat ((vset (rd x270 x190.toNat) x269.toNat (IntKind.u8.wrap x268))))).map eA64u8))))]⟩ (by kernel_rfl) (a_region (vp (i6 x268) rfl (vp (i6 (IntKind.i64.wrap (x268 + 1))) rfl (vp (i6 (IntKind.i64.wrap (x268 + 1))) rfl (a_nil (b_norm (a_next (σ' := ⟨[(0, (.osl 1000000)), (1, (i6 (IntKind.i64.wrap (x268 + 1)))), (5, (i6 x190)), (6, (i6 x269))], [(1000000, (bk (.row 64 (((x270.set x190.toNat ((vset (rd x270 x190.toNat) x269.toNat (IntKind.u8.wrap x268))))).map eA64u8))))]⟩) (by kernel_rfl) (a_region ?_)))))))))
          refine vp (i6 x269) rfl (vp (i6 (IntKind.i64.wrap (x269 + 1))) rfl (vp (i6 (IntKind.i64.wrap (x269 + 1))) rfl (a_nil ?_)))
          cases h
          exact a_again (by kernel_rfl) hX277
def laws_heldPolyS_c : ACode := (.seq (.region 0 [q 4 (.asg 0 (.const (.int .i64 0)) 3)] false) (.seq (.seq (.region 1 [q 5 (.asg 0 (.const (.int .i64 0)) 3)] false) (.block 0 (.loop (.seq (.seq (.region 2 [q 7 (.mov (t 5)), q 8 (.mov (t 0)), q 9 (.blt 0 .len [(t 8)] [22]), q 10 (.bin .lss 3 (t 7) (t 9))] false) (.cond (t 10) .skip (.exit 0))) (.seq (.block 1 (.seq (.region 4 [q 6 (.asg 0 (.const (.int .i64 0)) 3)] false) (.block 2 (.loop (.seq (.seq (.region 5 [q 13 (.mov (t 6)), q 14 (.bin .lss 3 (t 13) (.const (.int .i64 64)))] false) (.cond (t 14) .skip (.exit 2))) (.seq (.block 3 (.seq (.seq (.region 7 [q 17 (.mov (t 0)), q 18 (.mov (t 5)), q 19 (.mov (t 6)), q 20 (.indexAddr 22 (t 17) (t 18)), q 21 (.indexAddr 32 (t 20) (t 19)), q 22 (.load 5 (t 21)), q 23 (.mov (t 1)), q 24 (.conv 3 5 (t 23)), q 25 (.bin .neq 5 (t 22) (t 24))] false) (.cond (t 25) (.seq (.region 8 [q 4 (.asg 0 (.const (.int .i64 (-1))) 3)] false) .ret) .skip)) (.region 9 [q 26 (.mov (t 1)), q 27 (.bin .add 3 (t 26) (.const (.int .i64 1))), q 1 (.asg 0 (t 27) 3)] false))) (.region 6 [q 15 (.mov (t 6)), q 16 (.bin .add 3 (t 15) (.const (.int .i64 1))), q 6 (.asg 0 (t 16) 3)] false))))))) (.region 3 [q 11 (.mov (t 5)), q 12 (.bin .add 3 (t 11) (.const (.int .i64 1))), q 5 (.asg 0 (t 12) 3)] false)))))) (.seq (.region 10 [q 28 (.mov (t 1)), q 4 (.asg 0 (t 28) 3)] false) .ret)))
def laws_heldPolyS_L : Live := [(0, [0, 1]), (1, [0, 1]), (2, [0, 1, 5]), (3, [0, 1, 5]), (4, [0, 1, 5]), (5, [0, 1, 5, 6]), (6, [0, 1, 5, 6]), (7, [0, 1, 5, 6]), (8, []), (9, [0, 1, 5, 6]), (10, [1]), (100010, [0, 1, 5, 10]), (100014, [0, 1, 5, 6, 14]), (100025, [0, 1, 5, 6, 25])]
noncomputable def laws_heldPolyS_l2 (x252 : Int) (a0 : (List (Vec Int 64))) (x355 : Int) (x356 : Int) : Option ((Int × Int) ⊕ (Int ⊕ Int)) :=
  (if (decide (x356 < 64)) then (ifp (0 ≤ x252 ∧ x252 < ((a0.length : Nat) : Int)) ((ifp (0 ≤ x356 ∧ x356 < ((64 : Nat) : Int)) ((letp ((((rd (rd a0 x252.toNat).1 x356.toNat)) != (IntKind.u8.wrap x355))) fun x371 => (if x371 then (some (.inr ((.inr (-1))))) else (some (.inl ((IntKind.i64.wrap (x355 + 1), IntKind.i64.wrap (x356 + 1))))))))))) else (some (.inr (.inl x355))))
noncomputable def laws_heldPolyS_l1 (a0 : (List (Vec Int 64))) (x251 : Int) (x252 : Int) : Option ((Int × Int) ⊕ (Int ⊕ Int)) :=
  (if (decide (x252 < (a0.length : Int))) then (Option.bind (α := (Int ⊕ Int)) ((loopM (fun s : (Int × Int) => laws_heldPolyS_l2 x252 a0 s.1 s.2) (x251, 0))) fun z => match z with | .inl x344 => (some (.inl ((x344, IntKind.i64.wrap (x252 + 1))))) | .inr r375 => (some (.inr (.inr r375)))) else (some (.inr (.inl x251))))
noncomputable def laws_heldPolyS (a0 : (List (Vec Int 64))) (a1 : Int) : Option Int :=
  (Option.bind (α := (Int ⊕ Int)) ((loopM (fun s : (Int × Int) => laws_heldPolyS_l1 a0 s.1 s.2) (a1, 0))) fun z => match z with | .inl x187 => (some x187) | .inr r377 => (some r377))
theorem laws_heldPolyS_ok (a0 : (List (Vec Int 64))) (a1 : Int) (r : Int) (h : laws_heldPolyS a0 a1 = some r) : Den Try.prog 8 [(eSA64u8 a0), (i6 a1)] { r := (i6 r) } := by
  refine den_of (rs := [(i6 r)]) (ac := laws_heldPolyS_c) (L := laws_heldPolyS_L) (n := 29) (m := []) (c := Try.f8.body.getD .skip) good Try.func8 (by kernel_rfl) (by kernel_rfl) Try.ntmps8 rfl rfl (by kernel_rfl) rfl rfl ?_
  refine a_st (σ' := ⟨[(0, (eSA64u8 a0)), (1, (i6 a1))], []⟩) (by kernel_rfl) ?_
  unfold laws_heldPolyS_c
  refine sr (vp (i6 0) rfl (nx ⟨[(0, (eSA64u8 a0)), (1, (i6 a1))], []⟩ (by kernel_rfl) ?_))
  obtain ⟨y188, hy189, hk190⟩ := bind_some h
  clear h
  refine a_join (emb := fun (s : Int) => ⟨[(1, (i6 s))], []⟩) (pre := fun s => (.inl s) = y188) ?_ ?_
  · rintro x187 rfl
    have h := hk190
    refine a_st (σ' := ⟨[(1, (i6 x187))], []⟩) (by kernel_rfl) (sr (vp (i6 x187) rfl (vp (i6 x187) rfl (nx _ rfl (a_ret ?_)))))
    refine ⟨.inr rfl, ?_⟩
    rw [Try.results8]
    cases h
    exact ⟨_, _, _, _, _, rfl, trivial, .inl ⟨rfl, .inl rfl⟩, rfl, rfl⟩
  · have h := hy189
    refine sr (vp (i6 0) rfl (nx ⟨[(0, (eSA64u8 a0)), (1, (i6 a1)), (5, (i6 0))], []⟩ (by kernel_rfl) (a_block ?_)))
    refine a_loop (emb := fun (s : (Int × Int)) => ⟨[(0, (eSA64u8 a0)), (1, (i6 s.1)), (5, (i6 s.2))], []⟩) (body := (fun s : (Int × Int) => laws_heldPolyS_l1 a0 s.1 s.2)) (G := fun q => some q = some y188) h rfl ?_ (by kernel_rfl)
    rintro X313 ⟨x251, x252⟩ x314 h hX315
    have h : laws_heldPolyS_l1 a0 x251 x252 = some x314 := h
    refine a_st (σ' := ⟨[(0, (eSA64u8 a0)), (1, (i6 x251)), (5, (i6 x252))], []⟩) (by kernel_rfl) (a_seq (sr (vp (i6 x252) rfl (vp (eSA64u8 a0) rfl (vq (i6 (a0.length : Int)) (len_run rfl rfl) trivial (vp (.bool ((decide (x252 < (a0.length : Int))))) rfl (nx ⟨[(0, (eSA64u8 a0)), (1, (i6 x251)), (5, (i6 x252)), (10, (.bool ((decide (x252 < (a0.length : Int))))))], []⟩ (by kernel_rfl) ?_)))))))
    cases hb316 : (decide (x252 < (a0.length : Int)))
    · have h := ite_f hb316 h
      refine a_cond_f rfl (a_exit (t_exit ?_))
      cases h
      have h := hX315
      refine t_exit (b_exit ?_)
      exact j_leaf x251 (Option.some.inj h) (by kernel_rfl)
    · have h := ite_t hb316 h
      refine a_cond_t rfl (a_skip (a_next (σ' := ⟨[(0, (eSA64u8 a0)), (1, (i6 x251)), (5, (i6 x252))], []⟩) (by kernel_rfl) ?_))
      obtain ⟨y345, hy346, hk347⟩ := bind_some h
      clear h
      refine a_join (emb := fun (s : Int) => ⟨[(0, (eSA64u8 a0)), (1, (i6 s)), (5, (i6 x252))], []⟩) (pre := fun s => (.inl s) = y345) ?_ ?_
      · rintro x344 rfl
        have h := hk347
        refine a_st (σ' := ⟨[(0, (eSA64u8 a0)), (1, (i6 x344)), (5, (i6 x252))], []⟩) (by kernel_rfl) (a_region (vp (i6 x252) rfl (vp (i6 (IntKind.i64.wrap (x252 + 1))) rfl (vp (i6 (IntKind.i64.wrap (x252 + 1))) rfl (a_nil ?_)))))
        cases h
        exact a_again (by kernel_rfl) hX315
      · have h := hy346
        refine a_block (sr (vp (i6 0) rfl (nx ⟨[(0, (eSA64u8 a0)), (1, (i6 x251)), (5, (i6 x252)), (6, (i6 0))], []⟩ (by kernel_rfl) (a_block ?_))))
        refine a_loop (emb := fun (s : (Int × Int)) => ⟨[(0, (eSA64u8 a0)), (1, (i6 s.1)), (5, (i6 x252)), (6, (i6 s.2))], []⟩) (body := (fun s : (Int × Int) => laws_heldPolyS_l2 x252 a0 s.1 s.2)) (G := fun q => some q = some y345) h rfl ?_ (by kernel_rfl)
        rintro X364 ⟨x355, x356⟩ x365 h hX366
        have h : laws_heldPolyS_l2 x252 a0 x355 x356 = some x365 := h
        refine a_st (σ' := ⟨[(0, (eSA64u8 a0)), (1, (i6 x355)), (5, (i6 x252)), (6, (i6 x356))], []⟩) (by kernel_rfl) (a_seq (sr (vp (i6 x356) rfl (vp (.bool ((decide (x356 < 64)))) rfl (nx ⟨[(0, (eSA64u8 a0)), (1, (i6 x355)), (5, (i6 x252)), (6, (i6 x356)), (14, (.bool ((decide (x356 < 64)))))], []⟩ (by kernel_rfl) ?_)))))
        cases hb367 : (decide (x356 < 64))
        · have h := ite_f hb367 h
          refine a_cond_f rfl (a_exit (t_exit ?_))
          cases h
          have h := hX366
          refine t_exit (b_exit (b_norm ?_))
          exact j_leaf x355 (Option.some.inj h) (by kernel_rfl)
        · have h := ite_t hb367 h
          refine a_cond_t rfl (a_skip (a_next (σ' := ⟨[(0, (eSA64u8 a0)), (1, (i6 x355)), (5, (i6 x252)), (6, (i6 x356))], []⟩) (by kernel_rfl) (a_seq (a_block (a_seq (sr (vp (eSA64u8 a0) rfl (vp (i6 x252) rfl (vp (i6 x356) rfl ?_)))))))))
          obtain ⟨hc368, h⟩ := ifp_some h
          refine vq (.ref (.row 64 (a0.map eA64u8)) [x252.toNat] [x252.toNat * 64]) rfl (lmap hc368) ?_
          obtain ⟨hc369, h⟩ := ifp_some h
          refine vq (.ref (.row 64 (a0.map eA64u8)) [x252.toNat, x356.toNat] [x252.toNat * 64, x356.toNat * 1]) rfl hc369 ?_
          have hl370 : LdOk [x252.toNat, x356.toNat] (.row 64 (a0.map eA64u8)) [x252.toNat * 64, x356.toNat * 1] 1 false (b8 ((rd (rd a0 x252.toNat).1 x356.toNat))) := (.row (llt hc368) rfl (.arr (vlt (rd a0 x252.toNat) hc369) rfl (.nil rfl rfl rfl)))
          refine vq (b8 ((rd (rd a0 x252.toNat).1 x356.toNat))) (ld_ref (i := ⟨.int .u8, 1, 1, (.int .u8 0)⟩) rfl rfl hl370) hl370.c (vp (i6 x355) rfl (vp (b8 (IntKind.u8.wrap x355)) rfl ?_))
          obtain ⟨x371, hx372, h⟩ := letp_some h
          refine a_val' (v := (.bool ((((rd (rd a0 x252.toNat).1 x356.toNat)) != (IntKind.u8.wrap x355))))) (v' := (.bool x371)) (u := []) (u' := []) rfl (congrArg (fun z => ((.bool z) : AV)) hx372) rfl trivial rfl (nx ⟨[(0, (eSA64u8 a0)), (1, (i6 x355)), (5, (i6 x252)), (6, (i6 x356)), (25, (.bool x371))], []⟩ (by kernel_rfl) ?_)
          cases hb373 : x371
          · have h := ite_f hb373 h
            refine a_cond_f rfl (a_skip (a_next (σ' := ⟨[(0, (eSA64u8 a0)), (1, (i6 x355)), (5, (i6 x252)), (6, (i6 x356))], []⟩) (by kernel_rfl) (a_region (vp (i6 x355) rfl (vp (i6 (IntKind.i64.wrap (x355 + 1))) rfl (vp (i6 (IntKind.i64.wrap (x355 + 1))) rfl (a_nil (b_norm (a_next (σ' := ⟨[(0, (eSA64u8 a0)), (1, (i6 (IntKind.i64.wrap (x355 + 1)))), (5, (i6 x252)), (6, (i6 x356))], []⟩) (by kernel_rfl) ?_)))))))))
            refine a_region (vp (i6 x356) rfl (vp (i6 (IntKind.i64.wrap (x356 + 1))) rfl (vp (i6 (IntKind.i64.wrap (x356 + 1))) rfl (a_nil ?_))))
            cases h
            exact a_again (by kernel_rfl) hX366
          · have h := ite_t hb373 h
            refine a_cond_t rfl (sr (vp (i6 (-1)) rfl (nx _ rfl (a_ret (t_ret (b_ret (t_ret ?_)))))))
            cases h
            have h := hX366
            refine t_ret (b_ret (b_ret (t_ret ?_)))
            cases h
            have h := hk347
            cases h
            have h := hX315
            refine t_ret (b_ret (t_ret ?_))
            cases h
            have h := hk190
            refine ⟨.inr rfl, ?_⟩
            rw [Try.results8]
            cases h
            exact ⟨_, _, _, _, _, rfl, trivial, .inl ⟨rfl, .inl rfl⟩, rfl, rfl⟩
end Go.Proofs.Ytpjdjfhbfcekaaa
