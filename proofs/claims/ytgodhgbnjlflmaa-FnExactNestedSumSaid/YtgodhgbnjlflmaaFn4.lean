/- Functions of the program: plain Lean functions, and that the program computes them. Printed by gen.py. -/
import Derived.Test.YtgodhgbnjlflmaaFnT
import Derived.Test.YtgodhgbnjlflmaaFn2
import Derived.Test.YtgodhgbnjlflmaaFn3
namespace Go.Proofs.Ytgodhgbnjlflmaa
open Go.Abs Go.Proofs
set_option linter.unusedSimpArgs false
set_option linter.unusedVariables false

def impl_NestedSum_c : ACode := (.seq (.region 0 [⟨some 8, .alloc 23, none, []⟩, ⟨some 9, .asg 0 (.const (.int .i64 0)) 2, none, []⟩] false) (.seq (.block 0 (.seq (.region 1 [⟨some 13, .mov (.tmp 0), none, []⟩, ⟨some 14, .call 0 (.func 53) [(.tmp 13)], none, []⟩, ⟨some 15, .un .not (.tmp 14), none, []⟩, ⟨some 12, .asg 0 (.tmp 15) 4, none, []⟩] false) (.cond (.tmp 12) (.seq (.region 2 [⟨some 16, .build 23 [], none, []⟩, ⟨none, .store 23 (.tmp 8) (.tmp 16), none, []⟩, ⟨some 9, .asg 0 (.const (.int .i64 1)) 2, none, []⟩] false) .ret) (.seq (.region 3 [⟨some 18, .mov (.tmp 2), none, []⟩, ⟨some 19, .call 0 (.func 54) [(.tmp 18)], none, []⟩, ⟨some 20, .un .not (.tmp 19), none, []⟩, ⟨some 21, .mov (.tmp 20), none, []⟩, ⟨some 22, .mov (.tmp 3), some (21, false), []⟩, ⟨some 23, .call 0 (.func 54) [(.tmp 22)], some (21, false), []⟩, ⟨some 24, .un .not (.tmp 23), some (21, false), []⟩, ⟨some 25, .pick (.tmp 21) (.const (.bool true)) (.tmp 24), none, []⟩, ⟨some 26, .mov (.tmp 25), none, []⟩, ⟨some 27, .mov (.tmp 0), some (26, false), []⟩, ⟨some 28, .mov (.tmp 1), some (26, false), []⟩, ⟨some 29, .call 0 (.func 55) [(.tmp 27), (.tmp 28)], some (26, false), []⟩, ⟨some 30, .un .not (.tmp 29), some (26, false), []⟩, ⟨some 31, .pick (.tmp 26) (.const (.bool true)) (.tmp 30), none, []⟩, ⟨some 17, .asg 0 (.tmp 31) 4, none, []⟩] false) (.cond (.tmp 17) (.seq (.region 4 [⟨some 32, .build 23 [], none, []⟩, ⟨none, .store 23 (.tmp 8) (.tmp 32), none, []⟩, ⟨some 9, .asg 0 (.const (.int .i64 2)) 2, none, []⟩] false) .ret) (.seq (.region 5 [⟨some 34, .mov (.tmp 1), none, []⟩, ⟨some 35, .mov (.tmp 2), none, []⟩, ⟨some 36, .bin .mul 2 (.tmp 34) (.tmp 35), none, []⟩, ⟨some 37, .bin .gtr 2 (.tmp 36) (.const (.int .i64 63)), none, []⟩, ⟨some 38, .mov (.tmp 37), none, []⟩, ⟨some 39, .mov (.tmp 1), some (38, false), []⟩, ⟨some 40, .bin .sub 2 (.tmp 39) (.const (.int .i64 1)), some (38, false), []⟩, ⟨some 41, .mov (.tmp 3), some (38, false), []⟩, ⟨some 42, .bin .mul 2 (.tmp 40) (.tmp 41), some (38, false), []⟩, ⟨some 43, .bin .gtr 2 (.tmp 42) (.const (.int .i64 63)), some (38, false), []⟩, ⟨some 44, .pick (.tmp 38) (.const (.bool true)) (.tmp 43), none, []⟩, ⟨some 33, .asg 0 (.tmp 44) 4, none, []⟩] false) (.cond (.tmp 33) (.seq (.region 6 [⟨some 45, .build 23 [], none, []⟩, ⟨none, .store 23 (.tmp 8) (.tmp 45), none, []⟩, ⟨some 9, .asg 0 (.const (.int .i64 3)) 2, none, []⟩] false) .ret) .skip))))))) (.seq (.region 7 [⟨some 10, .asg 1 (.const (.slice none 0 0)) 64, none, []⟩] false) (.seq (.seq (.region 8 [⟨some 46, .mov (.tmp 1), none, []⟩, ⟨some 47, .mov (.const (.int .i64 0)), none, []⟩] false) (.block 1 (.loop (.seq (.region 9 [⟨some 48, .bin .lss 2 (.tmp 47) (.tmp 46), none, []⟩] false) (.seq (.cond (.tmp 48) .skip (.exit 1)) (.seq (.block 2 (.seq (.region 10 [⟨some 49, .mov (.tmp 47), none, []⟩, ⟨some 11, .asg 0 (.tmp 49) 2, none, []⟩] false) (.region 11 [⟨some 50, .mov (.tmp 0), none, []⟩, ⟨some 51, .mov (.tmp 10), none, []⟩, ⟨some 52, .mov (.tmp 0), none, []⟩, ⟨some 53, .mov (.tmp 11), none, []⟩, ⟨some 54, .mov (.tmp 3), none, []⟩, ⟨some 55, .call 0 (.func 57) [(.tmp 52), (.tmp 53), (.tmp 54)], none, []⟩, ⟨some 56, .call 0 (.func 56) [(.tmp 50), (.tmp 51), (.tmp 55), (.const (.int .i64 1))], none, []⟩, ⟨some 10, .asg 1 (.tmp 56) 64, none, []⟩] false))) (.region 12 [⟨some 57, .bin .add 2 (.tmp 47) (.const (.int .i64 1)), none, []⟩, ⟨some 47, .mov (.tmp 57), none, []⟩] false))))))) (.seq (.region 13 [⟨some 58, .mov (.tmp 0), none, []⟩, ⟨some 59, .mov (.tmp 0), none, []⟩, ⟨some 60, .mov (.tmp 1), none, []⟩, ⟨some 61, .mov (.tmp 2), none, []⟩, ⟨some 62, .call 0 (.func 57) [(.tmp 59), (.tmp 60), (.tmp 61)], none, []⟩, ⟨some 63, .mov (.tmp 10), none, []⟩, ⟨some 64, .call 0 (.func 59) [(.tmp 58), (.tmp 62), (.tmp 63)], none, []⟩, ⟨some 65, .call 0 (.func 58) [(.tmp 64)], none, []⟩, ⟨some 66, .extract (.tmp 65) 0, none, []⟩, ⟨some 67, .extract (.tmp 65) 1, none, []⟩, ⟨none, .store 23 (.tmp 8) (.tmp 66), none, []⟩, ⟨some 9, .asg 0 (.tmp 67) 2, none, []⟩] false) .ret)))))
def impl_NestedSum_L : Live := [(0, [0, 1, 2, 3]), (1, [0, 1, 2, 3, 8]), (2, [8]), (3, [0, 1, 2, 3, 8]), (4, [8]), (5, [0, 1, 2, 3, 8]), (6, [8]), (7, [0, 1, 2, 3, 8]), (8, [0, 1, 2, 3, 8, 10]), (9, [0, 1, 2, 3, 8, 10, 46, 47]), (10, [0, 1, 2, 3, 8, 10, 46, 47]), (11, [0, 1, 2, 3, 8, 10, 11, 46, 47]), (12, [0, 1, 2, 3, 8, 10, 46, 47]), (13, [0, 1, 2, 8, 10]), (100012, [0, 1, 2, 3, 8, 12]), (100017, [0, 1, 2, 3, 8, 17]), (100033, [0, 1, 2, 3, 8, 33]), (100048, [0, 1, 2, 3, 8, 10, 46, 47, 48])]
theorem impl_NestedSum_body : Try.f16.body = some (Try.f16.body.getD .skip) := by kernel_rfl
theorem impl_NestedSum_strip : strip [(10, 1)] (Try.f16.body.getD .skip) = impl_NestedSum_c := by kernel_rfl
noncomputable def impl_NestedSum_l1 (a1 : Int) (a0 : Int) (a3 : Int) (x66 : (List Int)) (x67 : Int) : Option (((List Int) × Int) ⊕ (List Int)) :=
  (if (decide (x67 < a1)) then (Option.bind (impl_prime_powerSum a0 x67 a3) fun r77 => (Option.bind (impl_prime_combine a0 x66 r77 1) fun r79 => (some (.inl ((r79, IntKind.i64.wrap (x67 + 1))))))) else (some (.inr x66)))
noncomputable def impl_NestedSum (a0 : Int) (a1 : Int) (a2 : Int) (a3 : Int) : Option ((Vec Int 64) × Int) :=
  (Option.bind (impl_isPrime a0) fun r1 => (if (!r1) then (some (((vrep 64 (0 : Int)), 1))) else (Option.bind (α := Bool) ((Option.bind (impl_isExponent a2) fun r16 => (if (!r16) then (some true) else (Option.bind (impl_isExponent a3) fun r19 => (if (!r19) then (some true) else (Option.bind (impl_prime_isSumDegree a0 a1) fun r22 => (some (!r22)))))))) fun x12 => (if x12 then (some (((vrep 64 (0 : Int)), 2))) else (Option.bind (α := Bool) ((if (decide ((IntKind.i64.wrap (a1 * a2)) > 63)) then (some true) else (letp ((decide ((IntKind.i64.wrap ((IntKind.i64.wrap (a1 - 1)) * a3)) > 63))) fun x33 => (some x33)))) fun x28 => (if x28 then (some (((vrep 64 (0 : Int)), 3))) else (Option.bind (α := (List Int)) ((loopM (fun s : ((List Int) × Int) => impl_NestedSum_l1 a1 a0 a3 s.1 s.2) ([], 0))) fun x57 => (Option.bind (impl_prime_powerSum a0 a1 a2) fun r82 => (Option.bind (impl_prime_times a0 r82 x57) fun r84 => (Option.bind (impl_told r84) fun r86 => (some (r86.1, r86.2))))))))))))
set_option maxHeartbeats 16000000 in
theorem impl_NestedSum_ok (a0 : Int) (a1 : Int) (a2 : Int) (a3 : Int) (r : ((Vec Int 64) × Int)) (h : impl_NestedSum a0 a1 a2 a3 = some r) : Den Try.prog 16 [(.int .i64 a0), (.int .i64 a1), (.int .i64 a2), (.int .i64 a3)] { r := (.tuple [(eA64u8 r.1), (.int .i64 r.2)]) } := by
  refine den_of (rs := [(eA64u8 r.1), (.int .i64 r.2)]) (ac := impl_NestedSum_c) (L := impl_NestedSum_L) (n := 68) (m := [(10, 1)]) good Try.func16 impl_NestedSum_body (by kernel_rfl) Try.ntmps16 rfl rfl impl_NestedSum_strip rfl rfl ?_
  refine a_st (σ' := ⟨[(0, (.int .i64 a0)), (1, (.int .i64 a1)), (2, (.int .i64 a2)), (3, (.int .i64 a3))], []⟩) rfl ?_
  unfold impl_NestedSum_c
  refine a_seq ?_
  refine a_region ?_
  refine a_val (v := (.own 1800 [] [])) (u := [(1800, some ⟨(eA64u8 ((vrep 64 (0 : Int)))), false⟩)]) rfl trivial rfl ?_
  refine a_val (v := (.int .i64 0)) (u := []) rfl trivial rfl ?_
  refine a_nil ?_
  refine a_next (σ' := ⟨[(0, (.int .i64 a0)), (1, (.int .i64 a1)), (2, (.int .i64 a2)), (3, (.int .i64 a3)), (8, (.own 8 [] []))], [(8, some ⟨(eA64u8 ((vrep 64 (0 : Int)))), false⟩)]⟩) rfl ?_
  refine a_seq ?_
  refine a_block ?_
  refine a_seq ?_
  refine a_region ?_
  refine a_val (v := (.int .i64 a0)) (u := []) rfl trivial rfl ?_
  obtain ⟨r1, hr2, h⟩ := bind_some h
  refine a_call (args := [(.int .i64 a0)]) (u := []) (r := (.bool r1)) rfl rfl (impl_isPrime_ok a0 r1 hr2) rfl ?_
  refine a_val (v := (.bool (!r1))) (u := []) rfl trivial rfl ?_
  refine a_val (v := (.bool (!r1))) (u := []) rfl trivial rfl ?_
  refine a_nil ?_
  refine a_next (σ' := ⟨[(0, (.int .i64 a0)), (1, (.int .i64 a1)), (2, (.int .i64 a2)), (3, (.int .i64 a3)), (8, (.own 8 [] [])), (12, (.bool (!r1)))], [(8, some ⟨(eA64u8 ((vrep 64 (0 : Int)))), false⟩)]⟩) rfl ?_
  cases hb3 : (!r1)
  · have h := ite_f hb3 h
    refine a_cond_f rfl ?_
    obtain ⟨y13, hy14, hk15⟩ := bind_some h
    clear h
    refine a_join (emb := fun (s : Bool) => ⟨[(0, (.int .i64 a0)), (1, (.int .i64 a1)), (2, (.int .i64 a2)), (3, (.int .i64 a3)), (8, (.own 8 [] [])), (17, (.bool s))], [(8, some ⟨(eA64u8 ((vrep 64 (0 : Int)))), false⟩)]⟩) (pre := fun s => s = y13) ?_ ?_
    · rintro x12 rfl
      have h := hk15
      refine a_st (σ' := ⟨[(0, (.int .i64 a0)), (1, (.int .i64 a1)), (2, (.int .i64 a2)), (3, (.int .i64 a3)), (8, (.own 8 [] [])), (17, (.bool x12))], [(8, some ⟨(eA64u8 ((vrep 64 (0 : Int)))), false⟩)]⟩) rfl ?_
      cases hb24 : x12
      · have h := ite_f hb24 h
        refine a_cond_f rfl ?_
        obtain ⟨y29, hy30, hk31⟩ := bind_some h
        clear h
        refine a_join (emb := fun (s : Bool) => ⟨[(0, (.int .i64 a0)), (1, (.int .i64 a1)), (2, (.int .i64 a2)), (3, (.int .i64 a3)), (8, (.own 8 [] [])), (33, (.bool s))], [(8, some ⟨(eA64u8 ((vrep 64 (0 : Int)))), false⟩)]⟩) (pre := fun s => s = y29) ?_ ?_
        · rintro x28 rfl
          have h := hk31
          refine a_st (σ' := ⟨[(0, (.int .i64 a0)), (1, (.int .i64 a1)), (2, (.int .i64 a2)), (3, (.int .i64 a3)), (8, (.own 8 [] [])), (33, (.bool x28))], [(8, some ⟨(eA64u8 ((vrep 64 (0 : Int)))), false⟩)]⟩) rfl ?_
          cases hb35 : x28
          · have h := ite_f hb35 h
            refine a_cond_f rfl ?_
            refine a_skip ?_
            refine b_norm ?_
            refine a_next (σ' := ⟨[(0, (.int .i64 a0)), (1, (.int .i64 a1)), (2, (.int .i64 a2)), (3, (.int .i64 a3)), (8, (.own 8 [] []))], [(8, some ⟨(eA64u8 ((vrep 64 (0 : Int)))), false⟩)]⟩) rfl ?_
            refine a_seq ?_
            refine a_region ?_
            refine a_val (v := (eSi64 ([]))) (u := []) rfl trivial rfl ?_
            refine a_nil ?_
            refine a_next (σ' := ⟨[(0, (.int .i64 a0)), (1, (.int .i64 a1)), (2, (.int .i64 a2)), (3, (.int .i64 a3)), (8, (.own 8 [] [])), (10, (eSi64 ([])))], [(8, some ⟨(eA64u8 ((vrep 64 (0 : Int)))), false⟩)]⟩) rfl ?_
            obtain ⟨y58, hy59, hk60⟩ := bind_some h
            clear h
            refine a_join (emb := fun (s : (List Int)) => ⟨[(0, (.int .i64 a0)), (1, (.int .i64 a1)), (2, (.int .i64 a2)), (8, (.own 8 [] [])), (10, (eSi64 s))], [(8, some ⟨(eA64u8 ((vrep 64 (0 : Int)))), false⟩)]⟩) (pre := fun s => s = y58) ?_ ?_
            · rintro x57 rfl
              have h := hk60
              refine a_st (σ' := ⟨[(0, (.int .i64 a0)), (1, (.int .i64 a1)), (2, (.int .i64 a2)), (8, (.own 8 [] [])), (10, (eSi64 x57))], [(8, some ⟨(eA64u8 ((vrep 64 (0 : Int)))), false⟩)]⟩) rfl ?_
              refine a_seq ?_
              refine a_region ?_
              refine a_val (v := (.int .i64 a0)) (u := []) rfl trivial rfl ?_
              refine a_val (v := (.int .i64 a0)) (u := []) rfl trivial rfl ?_
              refine a_val (v := (.int .i64 a1)) (u := []) rfl trivial rfl ?_
              refine a_val (v := (.int .i64 a2)) (u := []) rfl trivial rfl ?_
              obtain ⟨r82, hr83, h⟩ := bind_some h
              refine a_call (args := [(.int .i64 a0), (.int .i64 a1), (.int .i64 a2)]) (u := []) (r := (eSi64 r82)) rfl rfl (impl_prime_powerSum_ok a0 a1 a2 r82 hr83) rfl ?_
              refine a_val (v := (eSi64 x57)) (u := []) rfl trivial rfl ?_
              obtain ⟨r84, hr85, h⟩ := bind_some h
              refine a_call (args := [(.int .i64 a0), (eSi64 r82), (eSi64 x57)]) (u := []) (r := (eSi64 r84)) rfl rfl (impl_prime_times_ok a0 r82 x57 r84 hr85) rfl ?_
              obtain ⟨r86, hr87, h⟩ := bind_some h
              refine a_call (args := [(eSi64 r84)]) (u := []) (r := (.tuple [(eA64u8 r86.1), (.int .i64 r86.2)])) rfl rfl (impl_told_ok r84 r86 hr87) rfl ?_
              refine a_val (v := (eA64u8 r86.1)) (u := []) rfl (Nat.le_of_ble_eq_true rfl) rfl ?_
              refine a_val (v := (.int .i64 r86.2)) (u := []) rfl (Nat.le_of_ble_eq_true rfl) rfl ?_
              have hs88 : StOk [] (eA64u8 ((vrep 64 (0 : Int)))) [] 64 (eA64u8 r86.1) (eA64u8 r86.1) := (.nil rfl rfl rfl rfl)
              refine a_val (v := .top) (u := [(8, some ⟨(eA64u8 r86.1), false⟩)]) (st_own (i := ⟨.arr 64 5, 64, 64, (eA64u8 (vrep 64 (0 : Int)))⟩) rfl rfl (fun _ => rfl) rfl hs88) (hs88.c rfl) rfl ?_
              refine a_val (v := (.int .i64 r86.2)) (u := []) rfl trivial rfl ?_
              refine a_nil ?_
              refine a_next rfl ?_
              refine a_ret ?_
              have hl89 : LdOk [] (eA64u8 r86.1) [] 64 true (eA64u8 r86.1) := (.nil rfl rfl rfl)
              refine ⟨.inr rfl, ?_⟩
              rw [Try.results16]
              cases h
              exact ⟨_, _, _, _, _, ld_own (i := ⟨.arr 64 5, 64, 64, (eA64u8 (vrep 64 (0 : Int)))⟩) rfl rfl rfl hl89, hl89.c, .inl ⟨rfl, .inl rfl⟩, rfl, ⟨_, _, _, _, _, rfl, trivial, .inl ⟨rfl, .inl rfl⟩, rfl, rfl⟩⟩
            · have h := hy59
              refine a_seq ?_
              refine a_region ?_
              refine a_val (v := (.int .i64 a1)) (u := []) rfl trivial rfl ?_
              refine a_val (v := (.int .i64 0)) (u := []) rfl trivial rfl ?_
              refine a_nil ?_
              refine a_next (σ' := ⟨[(0, (.int .i64 a0)), (1, (.int .i64 a1)), (2, (.int .i64 a2)), (3, (.int .i64 a3)), (8, (.own 8 [] [])), (10, (eSi64 ([]))), (46, (.int .i64 a1)), (47, (.int .i64 0))], [(8, some ⟨(eA64u8 ((vrep 64 (0 : Int)))), false⟩)]⟩) rfl ?_
              refine a_block ?_
              refine a_loop (emb := fun (s : ((List Int) × Int)) => ⟨[(0, (.int .i64 a0)), (1, (.int .i64 a1)), (2, (.int .i64 a2)), (3, (.int .i64 a3)), (8, (.own 8 [] [])), (10, (eSi64 s.1)), (46, (.int .i64 a1)), (47, (.int .i64 s.2))], [(8, some ⟨(eA64u8 ((vrep 64 (0 : Int)))), false⟩)]⟩) (body := (fun s : ((List Int) × Int) => impl_NestedSum_l1 a1 a0 a3 s.1 s.2)) (G := fun q => some q = some y58) h rfl ?_ rfl
              rintro X73 ⟨x66, x67⟩ x74 h hX75
              have h : impl_NestedSum_l1 a1 a0 a3 x66 x67 = some x74 := h
              refine a_st (σ' := ⟨[(0, (.int .i64 a0)), (1, (.int .i64 a1)), (2, (.int .i64 a2)), (3, (.int .i64 a3)), (8, (.own 8 [] [])), (10, (eSi64 x66)), (46, (.int .i64 a1)), (47, (.int .i64 x67))], [(8, some ⟨(eA64u8 ((vrep 64 (0 : Int)))), false⟩)]⟩) rfl ?_
              refine a_seq ?_
              refine a_region ?_
              refine a_val (v := (.bool ((decide (x67 < a1))))) (u := []) rfl trivial rfl ?_
              refine a_nil ?_
              refine a_next (σ' := ⟨[(0, (.int .i64 a0)), (1, (.int .i64 a1)), (2, (.int .i64 a2)), (3, (.int .i64 a3)), (8, (.own 8 [] [])), (10, (eSi64 x66)), (46, (.int .i64 a1)), (47, (.int .i64 x67)), (48, (.bool ((decide (x67 < a1)))))], [(8, some ⟨(eA64u8 ((vrep 64 (0 : Int)))), false⟩)]⟩) rfl ?_
              refine a_seq ?_
              cases hb76 : (decide (x67 < a1))
              · have h := ite_f hb76 h
                refine a_cond_f rfl ?_
                refine a_exit ?_
                refine t_exit ?_
                cases h
                have h := hX75
                refine t_exit ?_
                refine b_exit ?_
                exact j_leaf x66 (Option.some.inj h) rfl
              · have h := ite_t hb76 h
                refine a_cond_t rfl ?_
                refine a_skip ?_
                refine a_next (σ' := ⟨[(0, (.int .i64 a0)), (1, (.int .i64 a1)), (2, (.int .i64 a2)), (3, (.int .i64 a3)), (8, (.own 8 [] [])), (10, (eSi64 x66)), (46, (.int .i64 a1)), (47, (.int .i64 x67))], [(8, some ⟨(eA64u8 ((vrep 64 (0 : Int)))), false⟩)]⟩) rfl ?_
                refine a_seq ?_
                refine a_block ?_
                refine a_seq ?_
                refine a_region ?_
                refine a_val (v := (.int .i64 x67)) (u := []) rfl trivial rfl ?_
                refine a_val (v := (.int .i64 x67)) (u := []) rfl trivial rfl ?_
                refine a_nil ?_
                refine a_next (σ' := ⟨[(0, (.int .i64 a0)), (1, (.int .i64 a1)), (2, (.int .i64 a2)), (3, (.int .i64 a3)), (8, (.own 8 [] [])), (10, (eSi64 x66)), (11, (.int .i64 x67)), (46, (.int .i64 a1)), (47, (.int .i64 x67))], [(8, some ⟨(eA64u8 ((vrep 64 (0 : Int)))), false⟩)]⟩) rfl ?_
                refine a_region ?_
                refine a_val (v := (.int .i64 a0)) (u := []) rfl trivial rfl ?_
                refine a_val (v := (eSi64 x66)) (u := []) rfl trivial rfl ?_
                refine a_val (v := (.int .i64 a0)) (u := []) rfl trivial rfl ?_
                refine a_val (v := (.int .i64 x67)) (u := []) rfl trivial rfl ?_
                refine a_val (v := (.int .i64 a3)) (u := []) rfl trivial rfl ?_
                obtain ⟨r77, hr78, h⟩ := bind_some h
                refine a_call (args := [(.int .i64 a0), (.int .i64 x67), (.int .i64 a3)]) (u := []) (r := (eSi64 r77)) rfl rfl (impl_prime_powerSum_ok a0 x67 a3 r77 hr78) rfl ?_
                obtain ⟨r79, hr80, h⟩ := bind_some h
                refine a_call (args := [(.int .i64 a0), (eSi64 x66), (eSi64 r77), (.int .i64 1)]) (u := []) (r := (eSi64 r79)) rfl rfl (impl_prime_combine_ok a0 x66 r77 1 r79 hr80) rfl ?_
                refine a_val (v := (eSi64 r79)) (u := []) rfl trivial rfl ?_
                refine a_nil ?_
                refine b_norm ?_
                refine a_next (σ' := ⟨[(0, (.int .i64 a0)), (1, (.int .i64 a1)), (2, (.int .i64 a2)), (3, (.int .i64 a3)), (8, (.own 8 [] [])), (10, (eSi64 r79)), (46, (.int .i64 a1)), (47, (.int .i64 x67))], [(8, some ⟨(eA64u8 ((vrep 64 (0 : Int)))), false⟩)]⟩) rfl ?_
                refine a_region ?_
                refine a_val (v := (.int .i64 (IntKind.i64.wrap (x67 + 1)))) (u := []) rfl trivial rfl ?_
                refine a_val (v := (.int .i64 (IntKind.i64.wrap (x67 + 1)))) (u := []) rfl trivial rfl ?_
                refine a_nil ?_
                cases h
                exact a_again rfl hX75
          · have h := ite_t hb35 h
            refine a_cond_t rfl ?_
            refine a_seq ?_
            refine a_region ?_
            refine a_val (v := (eA64u8 ((vrep 64 (0 : Int))))) (u := []) rfl ⟨⟨_, rfl, rfl⟩, all_nil⟩ rfl ?_
            have hs90 : StOk [] (eA64u8 ((vrep 64 (0 : Int)))) [] 64 (eA64u8 ((vrep 64 (0 : Int)))) (eA64u8 ((vrep 64 (0 : Int)))) := (.nil rfl rfl rfl rfl)
            refine a_val (v := .top) (u := [(8, some ⟨(eA64u8 ((vrep 64 (0 : Int)))), false⟩)]) (st_own (i := ⟨.arr 64 5, 64, 64, (eA64u8 (vrep 64 (0 : Int)))⟩) rfl rfl (fun _ => rfl) rfl hs90) (hs90.c rfl) rfl ?_
            refine a_val (v := (.int .i64 3)) (u := []) rfl trivial rfl ?_
            refine a_nil ?_
            refine a_next rfl ?_
            refine a_ret ?_
            refine b_ret ?_
            refine t_ret ?_
            have hl91 : LdOk [] (eA64u8 ((vrep 64 (0 : Int)))) [] 64 true (eA64u8 ((vrep 64 (0 : Int)))) := (.nil rfl rfl rfl)
            refine ⟨.inr rfl, ?_⟩
            rw [Try.results16]
            cases h
            exact ⟨_, _, _, _, _, ld_own (i := ⟨.arr 64 5, 64, 64, (eA64u8 (vrep 64 (0 : Int)))⟩) rfl rfl rfl hl91, hl91.c, .inl ⟨rfl, .inl rfl⟩, rfl, ⟨_, _, _, _, _, rfl, trivial, .inl ⟨rfl, .inl rfl⟩, rfl, rfl⟩⟩
        · have h := hy30
          refine a_region ?_
          refine a_val (v := (.int .i64 a1)) (u := []) rfl trivial rfl ?_
          refine a_val (v := (.int .i64 a2)) (u := []) rfl trivial rfl ?_
          refine a_val (v := (.int .i64 (IntKind.i64.wrap (a1 * a2)))) (u := []) rfl trivial rfl ?_
          refine a_val (v := (.bool ((decide ((IntKind.i64.wrap (a1 * a2)) > 63))))) (u := []) rfl trivial rfl ?_
          refine a_val (v := (.bool ((decide ((IntKind.i64.wrap (a1 * a2)) > 63))))) (u := []) rfl trivial rfl ?_
          cases hb32 : (decide ((IntKind.i64.wrap (a1 * a2)) > 63))
          · have h := ite_f hb32 h
            refine a_gval rfl (v := (.int .i64 a1)) (u := []) rfl trivial rfl ?_
            refine a_gval rfl (v := (.int .i64 (IntKind.i64.wrap (a1 - 1)))) (u := []) rfl trivial rfl ?_
            refine a_gval rfl (v := (.int .i64 a3)) (u := []) rfl trivial rfl ?_
            refine a_gval rfl (v := (.int .i64 (IntKind.i64.wrap ((IntKind.i64.wrap (a1 - 1)) * a3)))) (u := []) rfl trivial rfl ?_
            obtain ⟨x33, hx34, h⟩ := letp_some h
            refine a_gval' rfl (v := (.bool ((decide ((IntKind.i64.wrap ((IntKind.i64.wrap (a1 - 1)) * a3)) > 63))))) (v' := (.bool x33)) (u := []) (u' := []) rfl (congrArg (fun z => ((.bool z) : AV)) hx34) rfl trivial rfl ?_
            refine a_val (v := (.bool x33)) (u := []) rfl trivial rfl ?_
            refine a_val (v := (.bool x33)) (u := []) rfl trivial rfl ?_
            refine a_nil ?_
            exact j_leaf x33 (Option.some.inj h) rfl
          · have h := ite_t hb32 h
            refine a_gskip rfl ?_
            refine a_gskip rfl ?_
            refine a_gskip rfl ?_
            refine a_gskip rfl ?_
            refine a_gskip rfl ?_
            refine a_val (v := (.bool true)) (u := []) rfl trivial rfl ?_
            refine a_val (v := (.bool true)) (u := []) rfl trivial rfl ?_
            refine a_nil ?_
            exact j_leaf true (Option.some.inj h) rfl
      · have h := ite_t hb24 h
        refine a_cond_t rfl ?_
        refine a_seq ?_
        refine a_region ?_
        refine a_val (v := (eA64u8 ((vrep 64 (0 : Int))))) (u := []) rfl ⟨⟨_, rfl, rfl⟩, all_nil⟩ rfl ?_
        have hs92 : StOk [] (eA64u8 ((vrep 64 (0 : Int)))) [] 64 (eA64u8 ((vrep 64 (0 : Int)))) (eA64u8 ((vrep 64 (0 : Int)))) := (.nil rfl rfl rfl rfl)
        refine a_val (v := .top) (u := [(8, some ⟨(eA64u8 ((vrep 64 (0 : Int)))), false⟩)]) (st_own (i := ⟨.arr 64 5, 64, 64, (eA64u8 (vrep 64 (0 : Int)))⟩) rfl rfl (fun _ => rfl) rfl hs92) (hs92.c rfl) rfl ?_
        refine a_val (v := (.int .i64 2)) (u := []) rfl trivial rfl ?_
        refine a_nil ?_
        refine a_next rfl ?_
        refine a_ret ?_
        refine b_ret ?_
        refine t_ret ?_
        have hl93 : LdOk [] (eA64u8 ((vrep 64 (0 : Int)))) [] 64 true (eA64u8 ((vrep 64 (0 : Int)))) := (.nil rfl rfl rfl)
        refine ⟨.inr rfl, ?_⟩
        rw [Try.results16]
        cases h
        exact ⟨_, _, _, _, _, ld_own (i := ⟨.arr 64 5, 64, 64, (eA64u8 (vrep 64 (0 : Int)))⟩) rfl rfl rfl hl93, hl93.c, .inl ⟨rfl, .inl rfl⟩, rfl, ⟨_, _, _, _, _, rfl, trivial, .inl ⟨rfl, .inl rfl⟩, rfl, rfl⟩⟩
    · have h := hy14
      refine a_region ?_
      refine a_val (v := (.int .i64 a2)) (u := []) rfl trivial rfl ?_
      obtain ⟨r16, hr17, h⟩ := bind_some h
      refine a_call (args := [(.int .i64 a2)]) (u := []) (r := (.bool r16)) rfl rfl (impl_isExponent_ok a2 r16 hr17) rfl ?_
      refine a_val (v := (.bool (!r16))) (u := []) rfl trivial rfl ?_
      refine a_val (v := (.bool (!r16))) (u := []) rfl trivial rfl ?_
      cases hb18 : (!r16)
      · have h := ite_f hb18 h
        refine a_gval rfl (v := (.int .i64 a3)) (u := []) rfl trivial rfl ?_
        obtain ⟨r19, hr20, h⟩ := bind_some h
        refine a_gcall rfl (args := [(.int .i64 a3)]) (u := []) (r := (.bool r19)) rfl rfl (impl_isExponent_ok a3 r19 hr20) rfl ?_
        refine a_gval rfl (v := (.bool (!r19))) (u := []) rfl trivial rfl ?_
        refine a_val (v := (.bool (!r19))) (u := []) rfl trivial rfl ?_
        refine a_val (v := (.bool (!r19))) (u := []) rfl trivial rfl ?_
        cases hb21 : (!r19)
        · have h := ite_f hb21 h
          refine a_gval rfl (v := (.int .i64 a0)) (u := []) rfl trivial rfl ?_
          refine a_gval rfl (v := (.int .i64 a1)) (u := []) rfl trivial rfl ?_
          obtain ⟨r22, hr23, h⟩ := bind_some h
          refine a_gcall rfl (args := [(.int .i64 a0), (.int .i64 a1)]) (u := []) (r := (.bool r22)) rfl rfl (impl_prime_isSumDegree_ok a0 a1 r22 hr23) rfl ?_
          refine a_gval rfl (v := (.bool (!r22))) (u := []) rfl trivial rfl ?_
          refine a_val (v := (.bool (!r22))) (u := []) rfl trivial rfl ?_
          refine a_val (v := (.bool (!r22))) (u := []) rfl trivial rfl ?_
          refine a_nil ?_
          exact j_leaf (!r22) (Option.some.inj h) rfl
        · have h := ite_t hb21 h
          refine a_gskip rfl ?_
          refine a_gskip rfl ?_
          refine a_gskip rfl ?_
          refine a_gskip rfl ?_
          refine a_val (v := (.bool true)) (u := []) rfl trivial rfl ?_
          refine a_val (v := (.bool true)) (u := []) rfl trivial rfl ?_
          refine a_nil ?_
          exact j_leaf true (Option.some.inj h) rfl
      · have h := ite_t hb18 h
        refine a_gskip rfl ?_
        refine a_gskip rfl ?_
        refine a_gskip rfl ?_
        refine a_val (v := (.bool true)) (u := []) rfl trivial rfl ?_
        refine a_val (v := (.bool true)) (u := []) rfl trivial rfl ?_
        refine a_gskip rfl ?_
        refine a_gskip rfl ?_
        refine a_gskip rfl ?_
        refine a_gskip rfl ?_
        refine a_val (v := (.bool true)) (u := []) rfl trivial rfl ?_
        refine a_val (v := (.bool true)) (u := []) rfl trivial rfl ?_
        refine a_nil ?_
        exact j_leaf true (Option.some.inj h) rfl
  · have h := ite_t hb3 h
    refine a_cond_t rfl ?_
    refine a_seq ?_
    refine a_region ?_
    refine a_val (v := (eA64u8 ((vrep 64 (0 : Int))))) (u := []) rfl ⟨⟨_, rfl, rfl⟩, all_nil⟩ rfl ?_
    have hs94 : StOk [] (eA64u8 ((vrep 64 (0 : Int)))) [] 64 (eA64u8 ((vrep 64 (0 : Int)))) (eA64u8 ((vrep 64 (0 : Int)))) := (.nil rfl rfl rfl rfl)
    refine a_val (v := .top) (u := [(8, some ⟨(eA64u8 ((vrep 64 (0 : Int)))), false⟩)]) (st_own (i := ⟨.arr 64 5, 64, 64, (eA64u8 (vrep 64 (0 : Int)))⟩) rfl rfl (fun _ => rfl) rfl hs94) (hs94.c rfl) rfl ?_
    refine a_val (v := (.int .i64 1)) (u := []) rfl trivial rfl ?_
    refine a_nil ?_
    refine a_next rfl ?_
    refine a_ret ?_
    refine b_ret ?_
    refine t_ret ?_
    have hl95 : LdOk [] (eA64u8 ((vrep 64 (0 : Int)))) [] 64 true (eA64u8 ((vrep 64 (0 : Int)))) := (.nil rfl rfl rfl)
    refine ⟨.inr rfl, ?_⟩
    rw [Try.results16]
    cases h
    exact ⟨_, _, _, _, _, ld_own (i := ⟨.arr 64 5, 64, 64, (eA64u8 (vrep 64 (0 : Int)))⟩) rfl rfl rfl hl95, hl95.c, .inl ⟨rfl, .inl rfl⟩, rfl, ⟨_, _, _, _, _, rfl, trivial, .inl ⟨rfl, .inl rfl⟩, rfl, rfl⟩⟩
def laws_eqPoly_c : ACode := (.seq (.region 0 [⟨some 2, .box 23 (.tmp 0), none, []⟩, ⟨some 3, .box 23 (.tmp 1), none, []⟩, ⟨some 4, .asg 0 (.const (.bool false)) 4, none, []⟩] false) (.seq (.seq (.region 1 [⟨some 5, .asg 0 (.const (.int .i64 0)) 3, none, []⟩] false) (.block 0 (.loop (.seq (.seq (.region 2 [⟨some 6, .mov (.tmp 5), none, []⟩, ⟨some 7, .bin .lss 3 (.tmp 6) (.const (.int .i64 64)), none, []⟩] false) (.cond (.tmp 7) .skip (.exit 0))) (.seq (.block 1 (.seq (.region 4 [⟨some 10, .mov (.tmp 5), none, []⟩, ⟨some 11, .indexAddr 23 (.tmp 2) (.tmp 10), none, [0]⟩, ⟨some 12, .load 5 (.tmp 11), none, [1]⟩, ⟨some 13, .mov (.tmp 5), none, []⟩, ⟨some 14, .indexAddr 23 (.tmp 3) (.tmp 13), none, [3]⟩, ⟨some 15, .load 5 (.tmp 14), none, [4]⟩, ⟨some 16, .bin .neq 5 (.tmp 12) (.tmp 15), none, [2, 5]⟩] true) (.cond (.tmp 16) (.seq (.region 5 [⟨some 4, .asg 0 (.const (.bool false)) 4, none, []⟩] false) .ret) .skip))) (.region 3 [⟨some 8, .mov (.tmp 5), none, []⟩, ⟨some 9, .bin .add 3 (.tmp 8) (.const (.int .i64 1)), none, []⟩, ⟨some 5, .asg 0 (.tmp 9) 3, none, []⟩] false)))))) (.seq (.region 6 [⟨some 4, .asg 0 (.const (.bool true)) 4, none, []⟩] false) .ret)))
def laws_eqPoly_L : Live := [(0, [0, 1]), (1, [2, 3]), (2, [2, 3, 5]), (3, [2, 3, 5]), (4, [2, 3, 5]), (5, []), (6, []), (100007, [2, 3, 5, 7]), (100016, [2, 3, 5, 16])]
theorem laws_eqPoly_body : Try.f17.body = some (Try.f17.body.getD .skip) := by kernel_rfl
theorem laws_eqPoly_strip : strip [] (Try.f17.body.getD .skip) = laws_eqPoly_c := by kernel_rfl
noncomputable def laws_eqPoly_l1 (a0 : (Vec Int 64)) (a1 : (Vec Int 64)) (x49 : Int) : Option (Int ⊕ (Unit ⊕ Bool)) :=
  (if (decide (x49 < 64)) then (ifp (0 ≤ x49 ∧ x49 < ((64 : Nat) : Int)) ((ifp (0 ≤ x49 ∧ x49 < ((64 : Nat) : Int)) ((if ((rd a0.1 x49.toNat) != (rd a1.1 x49.toNat)) then (some (.inr (.inr false))) else (some (.inl (IntKind.i64.wrap (x49 + 1))))))))) else (some (.inr (((.inl ()))))))
noncomputable def laws_eqPoly (a0 : (Vec Int 64)) (a1 : (Vec Int 64)) : Option Bool :=
  (Option.bind (α := (Unit ⊕ Bool)) ((loopM (fun s : Int => laws_eqPoly_l1 a0 a1 s) 0)) fun z => match z with | .inl _ => (some true) | .inr r74 => (some r74))
set_option maxHeartbeats 16000000 in
theorem laws_eqPoly_ok (a0 : (Vec Int 64)) (a1 : (Vec Int 64)) (r : Bool) (h : laws_eqPoly a0 a1 = some r) : Den Try.prog 17 [(eA64u8 a0), (eA64u8 a1)] { r := (.bool r) } := by
  refine den_of (rs := [(.bool r)]) (ac := laws_eqPoly_c) (L := laws_eqPoly_L) (n := 17) (m := []) good Try.func17 laws_eqPoly_body (by kernel_rfl) Try.ntmps17 rfl rfl laws_eqPoly_strip rfl rfl ?_
  refine a_st (σ' := ⟨[(0, (eA64u8 a0)), (1, (eA64u8 a1))], []⟩) rfl ?_
  unfold laws_eqPoly_c
  refine a_seq ?_
  refine a_region ?_
  refine a_val (v := (.own 1200 [] [])) (u := [(1200, some ⟨(eA64u8 a0), false⟩)]) rfl trivial rfl ?_
  refine a_val (v := (.own 1300 [] [])) (u := [(1300, some ⟨(eA64u8 a1), false⟩)]) rfl trivial rfl ?_
  refine a_val (v := (.bool false)) (u := []) rfl trivial rfl ?_
  refine a_nil ?_
  refine a_next (σ' := ⟨[(2, (.own 2 [] [])), (3, (.own 3 [] []))], [(2, some ⟨(eA64u8 a0), false⟩), (3, some ⟨(eA64u8 a1), false⟩)]⟩) rfl ?_
  obtain ⟨y36, hy37, hk38⟩ := bind_some h
  clear h
  refine a_join (emb := fun (s : Unit) => ⟨[], []⟩) (pre := fun s => (.inl s) = y36) ?_ ?_
  · rintro _ rfl
    have h := hk38
    refine a_st (σ' := ⟨[], []⟩) rfl ?_
    refine a_seq ?_
    refine a_region ?_
    refine a_val (v := (.bool true)) (u := []) rfl trivial rfl ?_
    refine a_nil ?_
    refine a_next rfl ?_
    refine a_ret ?_
    refine ⟨.inr rfl, ?_⟩
    rw [Try.results17]
    cases h
    exact ⟨_, _, _, _, _, rfl, trivial, .inl ⟨rfl, .inl rfl⟩, rfl, rfl⟩
  · have h := hy37
    refine a_seq ?_
    refine a_region ?_
    refine a_val (v := (.int .i64 0)) (u := []) rfl trivial rfl ?_
    refine a_nil ?_
    refine a_next (σ' := ⟨[(2, (.own 2 [] [])), (3, (.own 3 [] [])), (5, (.int .i64 0))], [(2, some ⟨(eA64u8 a0), false⟩), (3, some ⟨(eA64u8 a1), false⟩)]⟩) rfl ?_
    refine a_block ?_
    refine a_loop (emb := fun (s : Int) => ⟨[(2, (.own 2 [] [])), (3, (.own 3 [] [])), (5, (.int .i64 s))], [(2, some ⟨(eA64u8 a0), false⟩), (3, some ⟨(eA64u8 a1), false⟩)]⟩) (body := (fun s : Int => laws_eqPoly_l1 a0 a1 s)) (G := fun q => some q = some y36) h rfl ?_ rfl
    rintro X60 x49 x61 h hX62
    have h : laws_eqPoly_l1 a0 a1 x49 = some x61 := h
    refine a_st (σ' := ⟨[(2, (.own 2 [] [])), (3, (.own 3 [] [])), (5, (.int .i64 x49))], [(2, some ⟨(eA64u8 a0), false⟩), (3, some ⟨(eA64u8 a1), false⟩)]⟩) rfl ?_
    refine a_seq ?_
    refine a_seq ?_
    refine a_region ?_
    refine a_val (v := (.int .i64 x49)) (u := []) rfl trivial rfl ?_
    refine a_val (v := (.bool ((decide (x49 < 64))))) (u := []) rfl trivial rfl ?_
    refine a_nil ?_
    refine a_next (σ' := ⟨[(2, (.own 2 [] [])), (3, (.own 3 [] [])), (5, (.int .i64 x49)), (7, (.bool ((decide (x49 < 64)))))], [(2, some ⟨(eA64u8 a0), false⟩), (3, some ⟨(eA64u8 a1), false⟩)]⟩) rfl ?_
    cases hb63 : (decide (x49 < 64))
    · have h := ite_f hb63 h
      refine a_cond_f rfl ?_
      refine a_exit ?_
      refine t_exit ?_
      cases h
      have h := hX62
      refine t_exit ?_
      refine b_exit ?_
      exact j_leaf () (Option.some.inj h) rfl
    · have h := ite_t hb63 h
      refine a_cond_t rfl ?_
      refine a_skip ?_
      refine a_next (σ' := ⟨[(2, (.own 2 [] [])), (3, (.own 3 [] [])), (5, (.int .i64 x49))], [(2, some ⟨(eA64u8 a0), false⟩), (3, some ⟨(eA64u8 a1), false⟩)]⟩) rfl ?_
      refine a_seq ?_
      refine a_block ?_
      refine a_seq ?_
      refine a_draw [⟨[], [], [], []⟩, ⟨[2], [], [2], [0]⟩, ⟨[2], [], [], [0, 1]⟩, ⟨[], [], [], []⟩, ⟨[3], [], [3], [3]⟩, ⟨[3], [], [], [3, 4]⟩, ⟨[], [], [], [0, 1, 2, 3, 4, 5]⟩] (by kernel_rfl) ?_
      refine d_cons ?_
      refine a_val (v := (.int .i64 x49)) (u := []) rfl trivial rfl ?_
      refine d_next rfl ?_
      refine d_cons ?_
      obtain ⟨hc68, h⟩ := ifp_some h
      refine a_val (v := (.own 2 [x49.toNat] [x49.toNat * 1])) (u := []) rfl hc68 rfl ?_
      refine d_next rfl ?_
      refine d_cons ?_
      have hl69 : LdOk [x49.toNat] (eA64u8 a0) [x49.toNat * 1] 1 false (.int .u8 (rd a0.1 x49.toNat)) := (.arr (vlt a0 hc68) rfl (.nil rfl rfl rfl))
      refine a_val (v := (.int .u8 (rd a0.1 x49.toNat))) (u := []) (ld_own (i := ⟨.int .u8, 1, 1, (.int .u8 0)⟩) rfl rfl rfl hl69) hl69.c rfl ?_
      refine d_next rfl ?_
      refine d_cons ?_
      refine a_val (v := (.int .i64 x49)) (u := []) rfl trivial rfl ?_
      refine d_next rfl ?_
      refine d_cons ?_
      obtain ⟨hc70, h⟩ := ifp_some h
      refine a_val (v := (.own 3 [x49.toNat] [x49.toNat * 1])) (u := []) rfl hc70 rfl ?_
      refine d_next rfl ?_
      refine d_cons ?_
      have hl71 : LdOk [x49.toNat] (eA64u8 a1) [x49.toNat * 1] 1 false (.int .u8 (rd a1.1 x49.toNat)) := (.arr (vlt a1 hc70) rfl (.nil rfl rfl rfl))
      refine a_val (v := (.int .u8 (rd a1.1 x49.toNat))) (u := []) (ld_own (i := ⟨.int .u8, 1, 1, (.int .u8 0)⟩) rfl rfl rfl hl71) hl71.c rfl ?_
      refine d_next rfl ?_
      refine d_cons ?_
      refine a_val (v := (.bool (((rd a0.1 x49.toNat) != (rd a1.1 x49.toNat))))) (u := []) rfl trivial rfl ?_
      refine d_next rfl ?_
      refine d_nil ?_
      refine a_next (σ' := ⟨[(2, (.own 2 [] [])), (3, (.own 3 [] [])), (5, (.int .i64 x49)), (16, (.bool (((rd a0.1 x49.toNat) != (rd a1.1 x49.toNat)))))], [(2, some ⟨(eA64u8 a0), false⟩), (3, some ⟨(eA64u8 a1), false⟩)]⟩) rfl ?_
      cases hb72 : ((rd a0.1 x49.toNat) != (rd a1.1 x49.toNat))
      · have h := ite_f hb72 h
        refine a_cond_f rfl ?_
        refine a_skip ?_
        refine b_norm ?_
        refine a_next (σ' := ⟨[(2, (.own 2 [] [])), (3, (.own 3 [] [])), (5, (.int .i64 x49))], [(2, some ⟨(eA64u8 a0), false⟩), (3, some ⟨(eA64u8 a1), false⟩)]⟩) rfl ?_
        refine a_region ?_
        refine a_val (v := (.int .i64 x49)) (u := []) rfl trivial rfl ?_
        refine a_val (v := (.int .i64 (IntKind.i64.wrap (x49 + 1)))) (u := []) rfl trivial rfl ?_
        refine a_val (v := (.int .i64 (IntKind.i64.wrap (x49 + 1)))) (u := []) rfl trivial rfl ?_
        refine a_nil ?_
        cases h
        exact a_again rfl hX62
      · have h := ite_t hb72 h
        refine a_cond_t rfl ?_
        refine a_seq ?_
        refine a_region ?_
        refine a_val (v := (.bool false)) (u := []) rfl trivial rfl ?_
        refine a_nil ?_
        refine a_next rfl ?_
        refine a_ret ?_
        refine b_ret ?_
        refine t_ret ?_
        cases h
        have h := hX62
        refine t_ret ?_
        refine b_ret ?_
        refine t_ret ?_
        cases h
        have h := hk38
        refine ⟨.inr rfl, ?_⟩
        rw [Try.results17]
        cases h
        exact ⟨_, _, _, _, _, rfl, trivial, .inl ⟨rfl, .inl rfl⟩, rfl, rfl⟩
def laws_FnExactNestedSum_c : ACode := (.seq (.region 0 [⟨some 8, .asg 0 (.const (.bool false)) 4, none, []⟩] false) (.seq (.region 1 [⟨some 14, .mov (.tmp 0), none, []⟩, ⟨some 15, .mov (.tmp 1), none, []⟩, ⟨some 16, .mov (.tmp 2), none, []⟩, ⟨some 17, .mov (.tmp 3), none, []⟩, ⟨some 18, .call 0 (.func 15) [(.tmp 14), (.tmp 15), (.tmp 16), (.tmp 17)], none, []⟩, ⟨some 13, .mov (.tmp 18), none, []⟩, ⟨some 19, .extract (.tmp 13) 0, none, []⟩, ⟨some 20, .extract (.tmp 13) 1, none, []⟩, ⟨some 9, .alloc 23, none, []⟩, ⟨none, .store 23 (.tmp 9) (.tmp 19), none, []⟩, ⟨some 10, .asg 0 (.tmp 20) 2, none, []⟩] false) (.seq (.region 2 [⟨some 22, .mov (.tmp 0), none, []⟩, ⟨some 23, .mov (.tmp 1), none, []⟩, ⟨some 24, .mov (.tmp 2), none, []⟩, ⟨some 25, .mov (.tmp 3), none, []⟩, ⟨some 26, .call 0 (.func 16) [(.tmp 22), (.tmp 23), (.tmp 24), (.tmp 25)], none, []⟩, ⟨some 21, .mov (.tmp 26), none, []⟩, ⟨some 27, .extract (.tmp 21) 0, none, []⟩, ⟨some 28, .extract (.tmp 21) 1, none, []⟩, ⟨some 11, .alloc 23, none, []⟩, ⟨none, .store 23 (.tmp 11) (.tmp 27), none, []⟩, ⟨some 12, .asg 0 (.tmp 28) 2, none, []⟩] false) (.seq (.seq (.region 3 [⟨some 29, .load 23 (.tmp 11), none, []⟩, ⟨some 30, .load 23 (.tmp 9), none, []⟩, ⟨some 31, .call 0 (.func 17) [(.tmp 29), (.tmp 30)], none, []⟩, ⟨some 32, .un .not (.tmp 31), none, []⟩, ⟨some 33, .mov (.tmp 32), none, []⟩, ⟨some 34, .mov (.tmp 12), some (33, false), []⟩, ⟨some 35, .mov (.tmp 10), some (33, false), []⟩, ⟨some 36, .bin .neq 2 (.tmp 34) (.tmp 35), some (33, false), []⟩, ⟨some 37, .pick (.tmp 33) (.const (.bool true)) (.tmp 36), none, []⟩] false) (.cond (.tmp 37) (.seq (.region 4 [⟨some 8, .asg 0 (.const (.bool false)) 4, none, []⟩] false) .ret) .skip)) (.seq (.region 5 [⟨some 8, .asg 0 (.const (.bool true)) 4, none, []⟩] false) .ret)))))
def laws_FnExactNestedSum_L : Live := [(0, [0, 1, 2, 3]), (1, [0, 1, 2, 3]), (2, [0, 1, 2, 3, 9, 10]), (3, [9, 10, 11, 12]), (4, []), (5, []), (100037, [37])]
theorem laws_FnExactNestedSum_body : Try.f3.body = some (Try.f3.body.getD .skip) := by kernel_rfl
theorem laws_FnExactNestedSum_strip : strip [] (Try.f3.body.getD .skip) = laws_FnExactNestedSum_c := by kernel_rfl
noncomputable def laws_FnExactNestedSum (a0 : Int) (a1 : Int) (a2 : Int) (a3 : Int) : Option Bool :=
  (Option.bind (spec_NestedSum a0 a1 a2 a3) fun r1 => (Option.bind (impl_NestedSum a0 a1 a2 a3) fun r4 => (Option.bind (α := Bool) ((Option.bind (laws_eqPoly r4.1 r1.1) fun r18 => (if (!r18) then (some true) else (some (r4.2 != r1.2))))) fun x12 => (if x12 then (some false) else (some true)))))
set_option maxHeartbeats 16000000 in
theorem laws_FnExactNestedSum_ok (a0 : Int) (a1 : Int) (a2 : Int) (a3 : Int) (r : Bool) (h : laws_FnExactNestedSum a0 a1 a2 a3 = some r) : Den Try.prog 3 [(.int .i64 a0), (.int .i64 a1), (.int .i64 a2), (.int .i64 a3)] { r := (.bool r) } := by
  refine den_of (rs := [(.bool r)]) (ac := laws_FnExactNestedSum_c) (L := laws_FnExactNestedSum_L) (n := 38) (m := []) good Try.func3 laws_FnExactNestedSum_body (by kernel_rfl) Try.ntmps3 rfl rfl laws_FnExactNestedSum_strip rfl rfl ?_
  refine a_st (σ' := ⟨[(0, (.int .i64 a0)), (1, (.int .i64 a1)), (2, (.int .i64 a2)), (3, (.int .i64 a3))], []⟩) rfl ?_
  unfold laws_FnExactNestedSum_c
  refine a_seq ?_
  refine a_region ?_
  refine a_val (v := (.bool false)) (u := []) rfl trivial rfl ?_
  refine a_nil ?_
  refine a_next (σ' := ⟨[(0, (.int .i64 a0)), (1, (.int .i64 a1)), (2, (.int .i64 a2)), (3, (.int .i64 a3))], []⟩) rfl ?_
  refine a_seq ?_
  refine a_region ?_
  refine a_val (v := (.int .i64 a0)) (u := []) rfl trivial rfl ?_
  refine a_val (v := (.int .i64 a1)) (u := []) rfl trivial rfl ?_
  refine a_val (v := (.int .i64 a2)) (u := []) rfl trivial rfl ?_
  refine a_val (v := (.int .i64 a3)) (u := []) rfl trivial rfl ?_
  obtain ⟨r1, hr2, h⟩ := bind_some h
  refine a_call (args := [(.int .i64 a0), (.int .i64 a1), (.int .i64 a2), (.int .i64 a3)]) (u := []) (r := (.tuple [(eA64u8 r1.1), (.int .i64 r1.2)])) rfl rfl (spec_NestedSum_ok a0 a1 a2 a3 r1 hr2) rfl ?_
  refine a_val (v := (.tuple [(eA64u8 r1.1), (.int .i64 r1.2)])) (u := []) rfl trivial rfl ?_
  refine a_val (v := (eA64u8 r1.1)) (u := []) rfl (Nat.le_of_ble_eq_true rfl) rfl ?_
  refine a_val (v := (.int .i64 r1.2)) (u := []) rfl (Nat.le_of_ble_eq_true rfl) rfl ?_
  refine a_val (v := (.own 1900 [] [])) (u := [(1900, some ⟨(eA64u8 ((vrep 64 (0 : Int)))), false⟩)]) rfl trivial rfl ?_
  have hs3 : StOk [] (eA64u8 ((vrep 64 (0 : Int)))) [] 64 (eA64u8 r1.1) (eA64u8 r1.1) := (.nil rfl rfl rfl rfl)
  refine a_val (v := .top) (u := [(1900, some ⟨(eA64u8 r1.1), false⟩)]) (st_own (i := ⟨.arr 64 5, 64, 64, (eA64u8 (vrep 64 (0 : Int)))⟩) rfl rfl (fun _ => rfl) rfl hs3) (hs3.c rfl) rfl ?_
  refine a_val (v := (.int .i64 r1.2)) (u := []) rfl trivial rfl ?_
  refine a_nil ?_
  refine a_next (σ' := ⟨[(0, (.int .i64 a0)), (1, (.int .i64 a1)), (2, (.int .i64 a2)), (3, (.int .i64 a3)), (9, (.own 9 [] [])), (10, (.int .i64 r1.2))], [(9, some ⟨(eA64u8 r1.1), false⟩)]⟩) rfl ?_
  refine a_seq ?_
  refine a_region ?_
  refine a_val (v := (.int .i64 a0)) (u := []) rfl trivial rfl ?_
  refine a_val (v := (.int .i64 a1)) (u := []) rfl trivial rfl ?_
  refine a_val (v := (.int .i64 a2)) (u := []) rfl trivial rfl ?_
  refine a_val (v := (.int .i64 a3)) (u := []) rfl trivial rfl ?_
  obtain ⟨r4, hr5, h⟩ := bind_some h
  refine a_call (args := [(.int .i64 a0), (.int .i64 a1), (.int .i64 a2), (.int .i64 a3)]) (u := []) (r := (.tuple [(eA64u8 r4.1), (.int .i64 r4.2)])) rfl rfl (impl_NestedSum_ok a0 a1 a2 a3 r4 hr5) rfl ?_
  refine a_val (v := (.tuple [(eA64u8 r4.1), (.int .i64 r4.2)])) (u := []) rfl trivial rfl ?_
  refine a_val (v := (eA64u8 r4.1)) (u := []) rfl (Nat.le_of_ble_eq_true rfl) rfl ?_
  refine a_val (v := (.int .i64 r4.2)) (u := []) rfl (Nat.le_of_ble_eq_true rfl) rfl ?_
  refine a_val (v := (.own 2100 [] [])) (u := [(2100, some ⟨(eA64u8 ((vrep 64 (0 : Int)))), false⟩)]) rfl trivial rfl ?_
  have hs6 : StOk [] (eA64u8 ((vrep 64 (0 : Int)))) [] 64 (eA64u8 r4.1) (eA64u8 r4.1) := (.nil rfl rfl rfl rfl)
  refine a_val (v := .top) (u := [(2100, some ⟨(eA64u8 r4.1), false⟩)]) (st_own (i := ⟨.arr 64 5, 64, 64, (eA64u8 (vrep 64 (0 : Int)))⟩) rfl rfl (fun _ => rfl) rfl hs6) (hs6.c rfl) rfl ?_
  refine a_val (v := (.int .i64 r4.2)) (u := []) rfl trivial rfl ?_
  refine a_nil ?_
  refine a_next (σ' := ⟨[(9, (.own 9 [] [])), (10, (.int .i64 r1.2)), (11, (.own 11 [] [])), (12, (.int .i64 r4.2))], [(9, some ⟨(eA64u8 r1.1), false⟩), (11, some ⟨(eA64u8 r4.1), false⟩)]⟩) rfl ?_
  refine a_seq ?_
  obtain ⟨y13, hy14, hk15⟩ := bind_some h
  clear h
  refine a_join (emb := fun (s : Bool) => ⟨[(37, (.bool s))], []⟩) (pre := fun s => s = y13) ?_ ?_
  · rintro x12 rfl
    have h := hk15
    refine a_st (σ' := ⟨[(37, (.bool x12))], []⟩) rfl ?_
    cases hb21 : x12
    · have h := ite_f hb21 h
      refine a_cond_f rfl ?_
      refine a_skip ?_
      refine a_next (σ' := ⟨[], []⟩) rfl ?_
      refine a_seq ?_
      refine a_region ?_
      refine a_val (v := (.bool true)) (u := []) rfl trivial rfl ?_
      refine a_nil ?_
      refine a_next rfl ?_
      refine a_ret ?_
      refine ⟨.inr rfl, ?_⟩
      rw [Try.results3]
      cases h
      exact ⟨_, _, _, _, _, rfl, trivial, .inl ⟨rfl, .inl rfl⟩, rfl, rfl⟩
    · have h := ite_t hb21 h
      refine a_cond_t rfl ?_
      refine a_seq ?_
      refine a_region ?_
      refine a_val (v := (.bool false)) (u := []) rfl trivial rfl ?_
      refine a_nil ?_
      refine a_next rfl ?_
      refine a_ret ?_
      refine t_ret ?_
      refine ⟨.inr rfl, ?_⟩
      rw [Try.results3]
      cases h
      exact ⟨_, _, _, _, _, rfl, trivial, .inl ⟨rfl, .inl rfl⟩, rfl, rfl⟩
  · have h := hy14
    refine a_region ?_
    have hl16 : LdOk [] (eA64u8 r4.1) [] 64 true (eA64u8 r4.1) := (.nil rfl rfl rfl)
    refine a_val (v := (eA64u8 r4.1)) (u := []) (ld_own (i := ⟨.arr 64 5, 64, 64, (eA64u8 (vrep 64 (0 : Int)))⟩) rfl rfl rfl hl16) hl16.c rfl ?_
    have hl17 : LdOk [] (eA64u8 r1.1) [] 64 true (eA64u8 r1.1) := (.nil rfl rfl rfl)
    refine a_val (v := (eA64u8 r1.1)) (u := []) (ld_own (i := ⟨.arr 64 5, 64, 64, (eA64u8 (vrep 64 (0 : Int)))⟩) rfl rfl rfl hl17) hl17.c rfl ?_
    obtain ⟨r18, hr19, h⟩ := bind_some h
    refine a_call (args := [(eA64u8 r4.1), (eA64u8 r1.1)]) (u := []) (r := (.bool r18)) rfl rfl (laws_eqPoly_ok r4.1 r1.1 r18 hr19) rfl ?_
    refine a_val (v := (.bool (!r18))) (u := []) rfl trivial rfl ?_
    refine a_val (v := (.bool (!r18))) (u := []) rfl trivial rfl ?_
    cases hb20 : (!r18)
    · have h := ite_f hb20 h
      refine a_gval rfl (v := (.int .i64 r4.2)) (u := []) rfl trivial rfl ?_
      refine a_gval rfl (v := (.int .i64 r1.2)) (u := []) rfl trivial rfl ?_
      refine a_gval rfl (v := (.bool (r4.2 != r1.2))) (u := []) rfl trivial rfl ?_
      refine a_val (v := (.bool (r4.2 != r1.2))) (u := []) rfl trivial rfl ?_
      refine a_nil ?_
      exact j_leaf (r4.2 != r1.2) (Option.some.inj h) rfl
    · have h := ite_t hb20 h
      refine a_gskip rfl ?_
      refine a_gskip rfl ?_
      refine a_gskip rfl ?_
      refine a_val (v := (.bool true)) (u := []) rfl trivial rfl ?_
      refine a_nil ?_
      exact j_leaf true (Option.some.inj h) rfl
def impl_rowOf_c : ACode := (.seq (.region 0 [⟨some 1, .box 23 (.tmp 0), none, []⟩, ⟨some 2, .asg 1 (.const (.slice none 0 0)) 64, none, []⟩] false) (.seq (.region 1 [⟨some 3, .asg 2 (.const (.slice none 0 0)) 64, none, []⟩] false) (.seq (.seq (.region 2 [⟨some 6, .load 23 (.tmp 1), none, []⟩, ⟨some 7, .mov (.const (.int .i64 0)), none, []⟩] false) (.block 0 (.loop (.seq (.region 3 [⟨some 8, .bin .lss 3 (.tmp 7) (.const (.int .i64 64)), none, []⟩] false) (.seq (.cond (.tmp 8) .skip (.exit 0)) (.seq (.block 1 (.seq (.region 4 [⟨some 9, .index 23 (.tmp 6) (.tmp 7), none, []⟩, ⟨some 5, .asg 0 (.tmp 9) 5, none, []⟩] false) (.region 5 [⟨some 10, .mov (.tmp 3), none, []⟩, ⟨some 11, .mov (.tmp 5), none, []⟩, ⟨some 12, .conv 5 2 (.tmp 11), none, []⟩, ⟨some 13, .bslice 0 64 1 [(0, (.tmp 12))], none, []⟩, ⟨some 14, .blt 0 .append [(.tmp 10), (.tmp 13)] [64, 64], none, []⟩, ⟨some 3, .asg 2 (.tmp 14) 64, none, []⟩] false))) (.region 6 [⟨some 15, .bin .add 3 (.tmp 7) (.const (.int .i64 1)), none, []⟩, ⟨some 7, .mov (.tmp 15), none, []⟩] false))))))) (.seq (.region 7 [⟨some 16, .mov (.tmp 3), none, []⟩, ⟨some 17, .call 0 (.func 111) [(.tmp 16)], none, []⟩, ⟨some 2, .asg 1 (.tmp 17) 64, none, []⟩] false) .ret))))
def impl_rowOf_L : Live := [(0, [0]), (1, [1]), (2, [1, 3]), (3, [3, 6, 7]), (4, [3, 6, 7]), (5, [3, 5, 6, 7]), (6, [3, 6, 7]), (7, [3]), (100008, [3, 6, 7, 8])]
theorem impl_rowOf_body : Try.f72.body = some (Try.f72.body.getD .skip) := by kernel_rfl
theorem impl_rowOf_strip : strip [(2, 1), (3, 2)] (Try.f72.body.getD .skip) = impl_rowOf_c := by kernel_rfl
noncomputable def impl_rowOf_l1 (a0 : (Vec Int 64)) (x25 : Int) (x26 : (List Int)) : Option ((Int × (List Int)) ⊕ (List Int)) :=
  (if (decide (x25 < 64)) then (ifp (0 ≤ x25 ∧ x25 < ((64 : Nat) : Int)) ((ifp ((x26.length + ([IntKind.i64.wrap (rd a0.1 x25.toNat)] : List Int).length) * 8 ≤ 140737488355328) ((some (.inl ((IntKind.i64.wrap (x25 + 1), (x26 ++ ([IntKind.i64.wrap (rd a0.1 x25.toNat)])))))))))) else (some (.inr x26)))
noncomputable def impl_rowOf (a0 : (Vec Int 64)) : Option (List Int) :=
  (Option.bind (α := (List Int)) ((loopM (fun s : (Int × (List Int)) => impl_rowOf_l1 a0 s.1 s.2) (0, []))) fun x17 => (Option.bind (impl_row_trimmed x17) fun r37 => (some r37)))
set_option maxHeartbeats 16000000 in
theorem impl_rowOf_ok (a0 : (Vec Int 64)) (r : (List Int)) (h : impl_rowOf a0 = some r) : Den Try.prog 72 [(eA64u8 a0)] { r := (eSi64 r) } := by
  refine den_of (rs := [(eSi64 r)]) (ac := impl_rowOf_c) (L := impl_rowOf_L) (n := 18) (m := [(2, 1), (3, 2)]) good Try.func72 impl_rowOf_body (by kernel_rfl) Try.ntmps72 rfl rfl impl_rowOf_strip rfl rfl ?_
  refine a_st (σ' := ⟨[(0, (eA64u8 a0))], []⟩) rfl ?_
  unfold impl_rowOf_c
  refine a_seq ?_
  refine a_region ?_
  refine a_val (v := (.own 1100 [] [])) (u := [(1100, some ⟨(eA64u8 a0), false⟩)]) rfl trivial rfl ?_
  refine a_val (v := (eSi64 ([]))) (u := []) rfl trivial rfl ?_
  refine a_nil ?_
  refine a_next (σ' := ⟨[(1, (.own 1 [] []))], [(1, some ⟨(eA64u8 a0), false⟩)]⟩) rfl ?_
  refine a_seq ?_
  refine a_region ?_
  refine a_val (v := (.osl 1300)) (u := [(1300, some ⟨(.row 1 (([]).map (AV.int .i64))), false⟩)]) rfl trivial rfl ?_
  refine a_nil ?_
  refine a_next (σ' := ⟨[(1, (.own 1 [] [])), (3, (.osl 3))], [(1, some ⟨(eA64u8 a0), false⟩), (3, some ⟨(.row 1 (([]).map (AV.int .i64))), false⟩)]⟩) rfl ?_
  obtain ⟨y18, hy19, hk20⟩ := bind_some h
  clear h
  refine a_join (emb := fun (s : (List Int)) => ⟨[(3, (.osl 3))], [(3, some ⟨(.row 1 (s.map (AV.int .i64))), false⟩)]⟩) (pre := fun s => s = y18) ?_ ?_
  · rintro x17 rfl
    have h := hk20
    refine a_st (σ' := ⟨[(3, (.osl 3))], [(3, some ⟨(.row 1 (x17.map (AV.int .i64))), false⟩)]⟩) rfl ?_
    refine a_seq ?_
    refine a_region ?_
    refine a_val (v := (.osl 3)) (u := []) rfl trivial rfl ?_
    obtain ⟨r37, hr38, h⟩ := bind_some h
    refine a_call (args := [(eSi64 x17)]) (u := [(3, some ⟨(.row 1 (x17.map (AV.int .i64))), true⟩)]) (r := (eSi64 r37)) rfl rfl (impl_row_trimmed_ok x17 r37 hr38) rfl ?_
    refine a_val (v := (eSi64 r37)) (u := []) rfl trivial rfl ?_
    refine a_nil ?_
    refine a_next rfl ?_
    refine a_ret ?_
    refine ⟨.inr rfl, ?_⟩
    rw [Try.results72]
    cases h
    exact ⟨_, _, _, _, _, rfl, trivial, .inl ⟨rfl, .inl rfl⟩, rfl, rfl⟩
  · have h := hy19
    refine a_seq ?_
    refine a_region ?_
    have hl21 : LdOk [] (eA64u8 a0) [] 64 true (eA64u8 a0) := (.nil rfl rfl rfl)
    refine a_val (v := (eA64u8 a0)) (u := []) (ld_own (i := ⟨.arr 64 5, 64, 64, (eA64u8 (vrep 64 (0 : Int)))⟩) rfl rfl rfl hl21) hl21.c rfl ?_
    refine a_val (v := (.int .i64 0)) (u := []) rfl trivial rfl ?_
    refine a_nil ?_
    refine a_next (σ' := ⟨[(3, (.osl 3)), (6, (eA64u8 a0)), (7, (.int .i64 0))], [(3, some ⟨(.row 1 (([]).map (AV.int .i64))), false⟩)]⟩) rfl ?_
    refine a_block ?_
    refine a_loop (emb := fun (s : (Int × (List Int))) => ⟨[(3, (.osl 3)), (6, (eA64u8 a0)), (7, (.int .i64 s.1))], [(3, some ⟨(.row 1 (s.2.map (AV.int .i64))), false⟩)]⟩) (body := (fun s : (Int × (List Int)) => impl_rowOf_l1 a0 s.1 s.2)) (G := fun q => some q = some y18) h rfl ?_ rfl
    rintro X30 ⟨x25, x26⟩ x31 h hX32
    have h : impl_rowOf_l1 a0 x25 x26 = some x31 := h
    refine a_st (σ' := ⟨[(3, (.osl 3)), (6, (eA64u8 a0)), (7, (.int .i64 x25))], [(3, some ⟨(.row 1 (x26.map (AV.int .i64))), false⟩)]⟩) rfl ?_
    refine a_seq ?_
    refine a_region ?_
    refine a_val (v := (.bool ((decide (x25 < 64))))) (u := []) rfl trivial rfl ?_
    refine a_nil ?_
    refine a_next (σ' := ⟨[(3, (.osl 3)), (6, (eA64u8 a0)), (7, (.int .i64 x25)), (8, (.bool ((decide (x25 < 64)))))], [(3, some ⟨(.row 1 (x26.map (AV.int .i64))), false⟩)]⟩) rfl ?_
    refine a_seq ?_
    cases hb33 : (decide (x25 < 64))
    · have h := ite_f hb33 h
      refine a_cond_f rfl ?_
      refine a_exit ?_
      refine t_exit ?_
      cases h
      have h := hX32
      refine t_exit ?_
      refine b_exit ?_
      exact j_leaf x26 (Option.some.inj h) rfl
    · have h := ite_t hb33 h
      refine a_cond_t rfl ?_
      refine a_skip ?_
      refine a_next (σ' := ⟨[(3, (.osl 3)), (6, (eA64u8 a0)), (7, (.int .i64 x25))], [(3, some ⟨(.row 1 (x26.map (AV.int .i64))), false⟩)]⟩) rfl ?_
      refine a_seq ?_
      refine a_block ?_
      refine a_seq ?_
      refine a_region ?_
      obtain ⟨hc34, h⟩ := ifp_some h
      refine a_val (v := (.int .u8 (rd a0.1 x25.toNat))) (u := []) (ix_run (i := ⟨.int .u8, 1, 1, (.int .u8 0)⟩) (f := (AV.int .u8)) rfl rfl rfl rfl (vlt a0 hc34)) ⟨hc34.1, hc34.2, rfl, rfl, rfl, rfl⟩ rfl ?_
      refine a_val (v := (.int .u8 (rd a0.1 x25.toNat))) (u := []) rfl trivial rfl ?_
      refine a_nil ?_
      refine a_next (σ' := ⟨[(3, (.osl 3)), (5, (.int .u8 (rd a0.1 x25.toNat))), (6, (eA64u8 a0)), (7, (.int .i64 x25))], [(3, some ⟨(.row 1 (x26.map (AV.int .i64))), false⟩)]⟩) rfl ?_
      refine a_region ?_
      refine a_val (v := (.osl 3)) (u := []) rfl trivial rfl ?_
      refine a_val (v := (.int .u8 (rd a0.1 x25.toNat))) (u := []) rfl trivial rfl ?_
      refine a_val (v := (.int .i64 (IntKind.i64.wrap (rd a0.1 x25.toNat)))) (u := []) rfl trivial rfl ?_
      refine a_val (v := (.sl 1 true (([IntKind.i64.wrap (rd a0.1 x25.toNat)]).map (AV.int .i64)))) (u := []) rfl ⟨(Nat.le_of_ble_eq_true rfl), (Nat.le_of_ble_eq_true rfl), (all_cons ⟨(Nat.le_of_ble_eq_true rfl), rfl⟩ all_nil)⟩ rfl ?_
      obtain ⟨hc35, h⟩ := ifp_some h
      refine a_val (v := (.osl 2400)) (u := [(2400, some ⟨(.row 1 (((x26 ++ ([IntKind.i64.wrap (rd a0.1 x25.toNat)]))).map (AV.int .i64))), false⟩), (3, none)]) (app_run (i := ⟨.int .i64, 1, 8, (.int .i64 0)⟩) (f := (AV.int .i64)) (l := x26) (l2 := [IntKind.i64.wrap (rd a0.1 x25.toNat)]) rfl rfl rfl rfl (fun _ => rfl) rfl rfl) (app_c (f := (AV.int .i64)) (s := 1) (sz := 1) (by' := 8) (u := []) (id := 3) hc35 (.inr rfl) rfl rfl rfl) rfl ?_
      refine a_val (v := (.osl 2400)) (u := []) rfl trivial rfl ?_
      refine a_nil ?_
      refine b_norm ?_
      refine a_next (σ' := ⟨[(3, (.osl 3)), (6, (eA64u8 a0)), (7, (.int .i64 x25))], [(3, some ⟨(.row 1 (((x26 ++ ([IntKind.i64.wrap (rd a0.1 x25.toNat)]))).map (AV.int .i64))), false⟩)]⟩) rfl ?_
      refine a_region ?_
      refine a_val (v := (.int .i64 (IntKind.i64.wrap (x25 + 1)))) (u := []) rfl trivial rfl ?_
      refine a_val (v := (.int .i64 (IntKind.i64.wrap (x25 + 1)))) (u := []) rfl trivial rfl ?_
      refine a_nil ?_
      cases h
      exact a_again rfl hX32
end Go.Proofs.Ytgodhgbnjlflmaa
