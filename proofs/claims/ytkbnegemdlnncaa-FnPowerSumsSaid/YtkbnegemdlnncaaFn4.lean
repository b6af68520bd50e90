/- Functions of the program: plain Lean functions, and that the program computes them. Printed by gen.py. -/
import Derived.Test.YtkbnegemdlnncaaFnT
import Derived.Test.YtkbnegemdlnncaaFn1
import Derived.Test.YtkbnegemdlnncaaFn2
import Derived.Test.YtkbnegemdlnncaaFn3
namespace Go.Proofs.Ytkbnegemdlnncaa
open Go.Abs Go.Proofs
set_option linter.unusedSimpArgs false
set_option linter.unusedVariables false
set_option maxHeartbeats 16000000
attribute [local irreducible] Abs.acode Abs.aops Abs.aopsT Abs.thenK Abs.blockK

def impl_NestedSum_c : ACode := (.seq (.region 0 [q 8 (.alloc 25), q 9 (.asg 0 (.const (.int .i64 0)) 2)] false) (.seq (.block 0 (.seq (.region 1 [q 13 (.mov (t 0)), q 14 (.call 0 (.func 106) [(t 13)]), q 15 (.un .not (t 14)), q 12 (.asg 0 (t 15) 4)] false) (.cond (t 12) (.seq (.region 2 [q 16 (.build 25 []), ⟨none, .store 25 (t 8) (t 16), none, []⟩, q 9 (.asg 0 (.const (.int .i64 1)) 2)] false) .ret) (.seq (.region 3 [q 18 (.mov (t 2)), q 19 (.call 0 (.func 142) [(t 18)]), q 20 (.un .not (t 19)), q 21 (.mov (t 20)), ⟨some 22, .mov (t 3), some (21, false), []⟩, ⟨some 23, .call 0 (.func 142) [(t 22)], some (21, false), []⟩, ⟨some 24, .un .not (t 23), some (21, false), []⟩, q 25 (.pick (t 21) (.const (.bool true)) (t 24)), q 26 (.mov (t 25)), ⟨some 27, .mov (t 0), some (26, false), []⟩, ⟨some 28, .mov (t 1), some (26, false), []⟩, ⟨some 29, .call 0 (.func 143) [(t 27), (t 28)], some (26, false), []⟩, ⟨some 30, .un .not (t 29), some (26, false), []⟩, q 31 (.pick (t 26) (.const (.bool true)) (t 30)), q 17 (.asg 0 (t 31) 4)] false) (.cond (t 17) (.seq (.region 4 [q 32 (.build 25 []), ⟨none, .store 25 (t 8) (t 32), none, []⟩, q 9 (.asg 0 (.const (.int .i64 2)) 2)] false) .ret) (.seq (.region 5 [q 34 (.mov (t 1)), q 35 (.mov (t 2)), q 36 (.bin .mul 2 (t 34) (t 35)), q 37 (.bin .gtr 2 (t 36) (.const (.int .i64 63))), q 38 (.mov (t 37)), ⟨some 39, .mov (t 1), some (38, false), []⟩, ⟨some 40, .bin .sub 2 (t 39) (.const (.int .i64 1)), some (38, false), []⟩, ⟨some 41, .mov (t 3), some (38, false), []⟩, ⟨some 42, .bin .mul 2 (t 40) (t 41), some (38, false), []⟩, ⟨some 43, .bin .gtr 2 (t 42) (.const (.int .i64 63)), some (38, false), []⟩, q 44 (.pick (t 38) (.const (.bool true)) (t 43)), q 33 (.asg 0 (t 44) 4)] false) (.cond (t 33) (.seq (.region 6 [q 45 (.build 25 []), ⟨none, .store 25 (t 8) (t 45), none, []⟩, q 9 (.asg 0 (.const (.int .i64 3)) 2)] false) .ret) .skip))))))) (.seq (.region 7 [q 10 (.asg 1 (.const (.slice none 0 0)) 80)] false) (.seq (.seq (.region 8 [q 46 (.mov (t 1)), q 47 (.mov (.const (.int .i64 0)))] false) (.block 1 (.loop (.seq (.region 9 [q 48 (.bin .lss 2 (t 47) (t 46))] false) (.seq (.cond (t 48) .skip (.exit 1)) (.seq (.block 2 (.seq (.region 10 [q 49 (.mov (t 47)), q 11 (.asg 0 (t 49) 2)] false) (.region 11 [q 50 (.mov (t 0)), q 51 (.mov (t 10)), q 52 (.mov (t 0)), q 53 (.mov (t 11)), q 54 (.mov (t 3)), q 55 (.call 0 (.func 144) [(t 52), (t 53), (t 54)]), q 56 (.call 0 (.func 109) [(t 50), (t 51), (t 55), (.const (.int .i64 1))]), q 10 (.asg 1 (t 56) 80)] false))) (.region 12 [q 57 (.bin .add 2 (t 47) (.const (.int .i64 1))), q 47 (.mov (t 57))] false))))))) (.seq (.region 13 [q 58 (.mov (t 0)), q 59 (.mov (t 0)), q 60 (.mov (t 1)), q 61 (.mov (t 2)), q 62 (.call 0 (.func 144) [(t 59), (t 60), (t 61)]), q 63 (.mov (t 10)), q 64 (.call 0 (.func 102) [(t 58), (t 62), (t 63)]), q 65 (.call 0 (.func 101) [(t 64)]), q 66 (.extract (t 65) 0), q 67 (.extract (t 65) 1), ⟨none, .store 25 (t 8) (t 66), none, []⟩, q 9 (.asg 0 (t 67) 2)] false) .ret)))))
def impl_NestedSum_L : Live := [(0, [0, 1, 2, 3]), (1, [0, 1, 2, 3, 8]), (2, [8]), (3, [0, 1, 2, 3, 8]), (4, [8]), (5, [0, 1, 2, 3, 8]), (6, [8]), (7, [0, 1, 2, 3, 8]), (8, [0, 1, 2, 3, 8, 10]), (9, [0, 1, 2, 3, 8, 10, 46, 47]), (10, [0, 1, 2, 3, 8, 10, 46, 47]), (11, [0, 1, 2, 3, 8, 10, 11, 46, 47]), (12, [0, 1, 2, 3, 8, 10, 46, 47]), (13, [0, 1, 2, 8, 10]), (100012, [0, 1, 2, 3, 8, 12]), (100017, [0, 1, 2, 3, 8, 17]), (100033, [0, 1, 2, 3, 8, 33]), (100048, [0, 1, 2, 3, 8, 10, 46, 47, 48])]
noncomputable def impl_NestedSum_l1 (a1 : Int) (a0 : Int) (a3 : Int) (x66 : (List Int)) (x67 : Int) : Option (((List Int) × Int) ⊕ (List Int)) :=
  (if (decide (x67 < a1)) then (Option.bind (impl_prime_powerSum a0 x67 a3) fun r77 => (Option.bind (impl_prime_combine a0 x66 r77 1) fun r79 => (some (.inl ((r79, IntKind.i64.wrap (x67 + 1))))))) else (some (.inr x66)))
noncomputable def impl_NestedSum (a0 : Int) (a1 : Int) (a2 : Int) (a3 : Int) : Option ((Vec Int 64) × Int) :=
  (Option.bind (impl_isPrime a0) fun r1 => (if (!r1) then (some (((vrep 64 (0 : Int)), 1))) else (Option.bind (α := Bool) ((Option.bind (impl_isExponent a2) fun r16 => (if (!r16) then (some true) else (Option.bind (impl_isExponent a3) fun r19 => (if (!r19) then (some true) else (Option.bind (impl_prime_isSumDegree a0 a1) fun r22 => (some (!r22)))))))) fun x12 => (if x12 then (some (((vrep 64 (0 : Int)), 2))) else (Option.bind (α := Bool) ((if (decide ((IntKind.i64.wrap (a1 * a2)) > 63)) then (some true) else (letp ((decide ((IntKind.i64.wrap ((IntKind.i64.wrap (a1 - 1)) * a3)) > 63))) fun x33 => (some x33)))) fun x28 => (if x28 then (some (((vrep 64 (0 : Int)), 3))) else (Option.bind (α := (List Int)) ((loopM (fun s : ((List Int) × Int) => impl_NestedSum_l1 a1 a0 a3 s.1 s.2) ([], 0))) fun x57 => (Option.bind (impl_prime_powerSum a0 a1 a2) fun r82 => (Option.bind (impl_prime_times a0 r82 x57) fun r84 => (Option.bind (impl_told r84) fun r86 => (some (r86.1, r86.2))))))))))))
theorem impl_NestedSum_ok (a0 : Int) (a1 : Int) (a2 : Int) (a3 : Int) (r : ((Vec Int 64) × Int)) (h : impl_NestedSum a0 a1 a2 a3 = some r) : Den Try.prog 57 [(i6 a0), (i6 a1), (i6 a2), (i6 a3)] { r := (.tuple [(eA64u8 r.1), (i6 r.2)]) } := by
  refine den_of (rs := [(eA64u8 r.1), (i6 r.2)]) (ac := impl_NestedSum_c) (L := impl_NestedSum_L) (n := 68) (m := [(10, 1)]) (c := Try.f57.body.getD .skip) good Try.func57 (by kernel_rfl) (by kernel_rfl) Try.ntmps57 rfl rfl (by kernel_rfl) rfl rfl ?_
  refine a_st (σ' := ⟨[(0, (i6 a0)), (1, (i6 a1)), (2, (i6 a2)), (3, (i6 a3))], []⟩) (by kernel_rfl) ?_
  unfold impl_NestedSum_c
  refine sr (vo 1800 (eA64u8 ((vrep 64 (0 : Int)))) rfl rfl (vp (i6 0) rfl (nx ⟨[(0, (i6 a0)), (1, (i6 a1)), (2, (i6 a2)), (3, (i6 a3)), (8, (ow 8))], [(8, (bk (eA64u8 ((vrep 64 (0 : Int))))))]⟩ (by kernel_rfl) (a_seq (a_block (sr (vp (i6 a0) rfl ?_)))))))
  obtain ⟨r1, hr2, h⟩ := bind_some h
  refine a_call (args := [(i6 a0)]) (u := []) (r := (.bool r1)) rfl rfl (impl_isPrime_ok a0 r1 hr2) rfl (vp (.bool (!r1)) rfl (vp (.bool (!r1)) rfl (nx ⟨[(0, (i6 a0)), (1, (i6 a1)), (2, (i6 a2)), (3, (i6 a3)), (8, (ow 8)), (12, (.bool (!r1)))], [(8, (bk (eA64u8 ((vrep 64 (0 : Int))))))]⟩ (by kernel_rfl) ?_)))
  cases hb3 : (!r1)
  · have h := ite_f hb3 h
    refine a_cond_f rfl ?_
    obtain ⟨y13, hy14, hk15⟩ := bind_some h
    clear h
    refine a_join (emb := fun (s : Bool) => ⟨[(0, (i6 a0)), (1, (i6 a1)), (2, (i6 a2)), (3, (i6 a3)), (8, (ow 8)), (17, (.bool s))], [(8, (bk (eA64u8 ((vrep 64 (0 : Int))))))]⟩) (pre := fun s => s = y13) ?_ ?_
    · rintro x12 rfl
      have h := hk15
      refine a_st (σ' := ⟨[(0, (i6 a0)), (1, (i6 a1)), (2, (i6 a2)), (3, (i6 a3)), (8, (ow 8)), (17, (.bool x12))], [(8, (bk (eA64u8 ((vrep 64 (0 : Int))))))]⟩) (by kernel_rfl) ?_
      cases hb24 : x12
      · have h := ite_f hb24 h
        refine a_cond_f rfl ?_
        obtain ⟨y29, hy30, hk31⟩ := bind_some h
        clear h
        refine a_join (emb := fun (s : Bool) => ⟨[(0, (i6 a0)), (1, (i6 a1)), (2, (i6 a2)), (3, (i6 a3)), (8, (ow 8)), (33, (.bool s))], [(8, (bk (eA64u8 ((vrep 64 (0 : Int))))))]⟩) (pre := fun s => s = y29) ?_ ?_
        · rintro x28 rfl
          have h := hk31
          refine a_st (σ' := ⟨[(0, (i6 a0)), (1, (i6 a1)), (2, (i6 a2)), (3, (i6 a3)), (8, (ow 8)), (33, (.bool x28))], [(8, (bk (eA64u8 ((vrep 64 (0 : Int))))))]⟩) (by kernel_rfl) ?_
          cases hb35 : x28
          · have h := ite_f hb35 h
            refine a_cond_f rfl (a_skip (b_norm (a_next (σ' := ⟨[(0, (i6 a0)), (1, (i6 a1)), (2, (i6 a2)), (3, (i6 a3)), (8, (ow 8))], [(8, (bk (eA64u8 ((vrep 64 (0 : Int))))))]⟩) (by kernel_rfl) (sr (vp (eSi64 ([])) rfl (nx ⟨[(0, (i6 a0)), (1, (i6 a1)), (2, (i6 a2)), (3, (i6 a3)), (8, (ow 8)), (10, (eSi64 ([])))], [(8, (bk (eA64u8 ((vrep 64 (0 : Int))))))]⟩ (by kernel_rfl) ?_))))))
            obtain ⟨y58, hy59, hk60⟩ := bind_some h
            clear h
            refine a_join (emb := fun (s : (List Int)) => ⟨[(0, (i6 a0)), (1, (i6 a1)), (2, (i6 a2)), (8, (ow 8)), (10, (eSi64 s))], [(8, (bk (eA64u8 ((vrep 64 (0 : Int))))))]⟩) (pre := fun s => s = y58) ?_ ?_
            · rintro x57 rfl
              have h := hk60
              refine a_st (σ' := ⟨[(0, (i6 a0)), (1, (i6 a1)), (2, (i6 a2)), (8, (ow 8)), (10, (eSi64 x57))], [(8, (bk (eA64u8 ((vrep 64 (0 : Int))))))]⟩) (by kernel_rfl) (sr (vp (i6 a0) rfl (vp (i6 a0) rfl (vp (i6 a1) rfl (vp (i6 a2) rfl ?_)))))
              obtain ⟨r82, hr83, h⟩ := bind_some h
              refine a_call (args := [(i6 a0), (i6 a1), (i6 a2)]) (u := []) (r := (eSi64 r82)) rfl rfl (impl_prime_powerSum_ok a0 a1 a2 r82 hr83) rfl (vp (eSi64 x57) rfl ?_)
              obtain ⟨r84, hr85, h⟩ := bind_some h
              refine a_call (args := [(i6 a0), (eSi64 r82), (eSi64 x57)]) (u := []) (r := (eSi64 r84)) rfl rfl (impl_prime_times_ok a0 r82 x57 r84 hr85) rfl ?_
              obtain ⟨r86, hr87, h⟩ := bind_some h
              refine a_call (args := [(eSi64 r84)]) (u := []) (r := (.tuple [(eA64u8 r86.1), (i6 r86.2)])) rfl rfl (impl_told_ok r84 r86 hr87) rfl (vb (eA64u8 r86.1) rfl rfl (vb (i6 r86.2) rfl rfl (vs (eA64u8 r86.1) rfl rfl (fun _ => rfl) rfl rfl rfl rfl rfl rfl (vp (i6 r86.2) rfl (nx _ rfl (a_ret ?_))))))
              have hl89 : LdOk [] (eA64u8 r86.1) [] 64 true (eA64u8 r86.1) := (.nil rfl rfl rfl)
              refine ⟨.inr rfl, ?_⟩
              rw [Try.results57]
              cases h
              exact ⟨_, _, _, _, _, ld_own (i := ⟨.arr 64 5, 64, 64, (eA64u8 (vrep 64 (0 : Int)))⟩) rfl rfl rfl hl89, hl89.c, .inl ⟨rfl, .inl rfl⟩, rfl, ⟨_, _, _, _, _, rfl, trivial, .inl ⟨rfl, .inl rfl⟩, rfl, rfl⟩⟩
            · have h := hy59
              refine sr (vp (i6 a1) rfl (vp (i6 0) rfl (nx ⟨[(0, (i6 a0)), (1, (i6 a1)), (2, (i6 a2)), (3, (i6 a3)), (8, (ow 8)), (10, (eSi64 ([]))), (46, (i6 a1)), (47, (i6 0))], [(8, (bk (eA64u8 ((vrep 64 (0 : Int))))))]⟩ (by kernel_rfl) (a_block ?_))))
              refine a_loop (emb := fun (s : ((List Int) × Int)) => ⟨[(0, (i6 a0)), (1, (i6 a1)), (2, (i6 a2)), (3, (i6 a3)), (8, (ow 8)), (10, (eSi64 s.1)), (46, (i6 a1)), (47, (i6 s.2))], [(8, (bk (eA64u8 ((vrep 64 (0 : Int))))))]⟩) (body := (fun s : ((List Int) × Int) => impl_NestedSum_l1 a1 a0 a3 s.1 s.2)) (G := fun q => some q = some y58) h rfl ?_ (by kernel_rfl)
              rintro X73 ⟨x66, x67⟩ x74 h hX75
              have h : impl_NestedSum_l1 a1 a0 a3 x66 x67 = some x74 := h
              refine a_st (σ' := ⟨[(0, (i6 a0)), (1, (i6 a1)), (2, (i6 a2)), (3, (i6 a3)), (8, (ow 8)), (10, (eSi64 x66)), (46, (i6 a1)), (47, (i6 x67))], [(8, (bk (eA64u8 ((vrep 64 (0 : Int))))))]⟩) (by kernel_rfl) (sr (vp (.bool ((decide (x67 < a1)))) rfl (nx ⟨[(0, (i6 a0)), (1, (i6 a1)), (2, (i6 a2)), (3, (i6 a3)), (8, (ow 8)), (10, (eSi64 x66)), (46, (i6 a1)), (47, (i6 x67)), (48, (.bool ((decide (x67 < a1)))))], [(8, (bk (eA64u8 ((vrep 64 (0 : Int))))))]⟩ (by kernel_rfl) (a_seq ?_))))
              cases hb76 : (decide (x67 < a1))
              · have h := ite_f hb76 h
                refine a_cond_f rfl (a_exit (t_exit ?_))
                cases h
                have h := hX75
                refine t_exit (b_exit ?_)
                exact j_leaf x66 (Option.some.inj h) (by kernel_rfl)
              · have h := ite_t hb76 h
                refine a_cond_t rfl (a_skip (a_next (σ' := ⟨[(0, (i6 a0)), (1, (i6 a1)), (2, (i6 a2)), (3, (i6 a3)), (8, (ow 8)), (10, (eSi64 x66)), (46, (i6 a1)), (47, (i6 x67))], [(8, (bk (eA64u8 ((vrep 64 (0 : Int))))))]⟩) (by kernel_rfl) (a_seq (a_block (sr (vp (i6 x67) rfl (vp (i6 x67) rfl (nx ⟨[(0, (i6 a0)), (1, (i6 a1)), (2, (i6 a2)), (3, (i6 a3)), (8, (ow 8)), (10, (eSi64 x66)), (11, (i6 x67)), (46, (i6 a1)), (47, (i6 x67))], [(8, (bk (eA64u8 ((vrep 64 (0 : Int))))))]⟩ (by kernel_rfl) (a_region ?_)))))))))
                refine vp (i6 a0) rfl (vp (eSi64 x66) rfl (vp (i6 a0) rfl (vp (i6 x67) rfl (vp (i6 a3) rfl ?_))))
                obtain ⟨r77, hr78, h⟩ := bind_some h
                refine a_call (args := [(i6 a0), (i6 x67), (i6 a3)]) (u := []) (r := (eSi64 r77)) rfl rfl (impl_prime_powerSum_ok a0 x67 a3 r77 hr78) rfl ?_
                obtain ⟨r79, hr80, h⟩ := bind_some h
                refine a_call (args := [(i6 a0), (eSi64 x66), (eSi64 r77), (i6 1)]) (u := []) (r := (eSi64 r79)) rfl rfl (impl_prime_combine_ok a0 x66 r77 1 r79 hr80) rfl (vp (eSi64 r79) rfl (a_nil (b_norm (a_next (σ' := ⟨[(0, (i6 a0)), (1, (i6 a1)), (2, (i6 a2)), (3, (i6 a3)), (8, (ow 8)), (10, (eSi64 r79)), (46, (i6 a1)), (47, (i6 x67))], [(8, (bk (eA64u8 ((vrep 64 (0 : Int))))))]⟩) (by kernel_rfl) (a_region (vp (i6 (IntKind.i64.wrap (x67 + 1))) rfl (vp (i6 (IntKind.i64.wrap (x67 + 1))) rfl (a_nil ?_))))))))
                cases h
                exact a_again (by kernel_rfl) hX75
          · have h := ite_t hb35 h
            refine a_cond_t rfl (sr (vq (eA64u8 ((vrep 64 (0 : Int)))) rfl ⟨⟨_, rfl, rfl⟩, all_nil⟩ (vs (eA64u8 ((vrep 64 (0 : Int)))) rfl rfl (fun _ => rfl) rfl rfl rfl rfl rfl rfl (vp (i6 3) rfl (nx _ rfl (a_ret (b_ret (t_ret ?_))))))))
            have hl91 : LdOk [] (eA64u8 ((vrep 64 (0 : Int)))) [] 64 true (eA64u8 ((vrep 64 (0 : Int)))) := (.nil rfl rfl rfl)
            refine ⟨.inr rfl, ?_⟩
            rw [Try.results57]
            cases h
            exact ⟨_, _, _, _, _, ld_own (i := ⟨.arr 64 5, 64, 64, (eA64u8 (vrep 64 (0 : Int)))⟩) rfl rfl rfl hl91, hl91.c, .inl ⟨rfl, .inl rfl⟩, rfl, ⟨_, _, _, _, _, rfl, trivial, .inl ⟨rfl, .inl rfl⟩, rfl, rfl⟩⟩
        · have h := hy30
          refine a_region (vp (i6 a1) rfl (vp (i6 a2) rfl (vp (i6 (IntKind.i64.wrap (a1 * a2))) rfl (vp (.bool ((decide ((IntKind.i64.wrap (a1 * a2)) > 63)))) rfl (vp (.bool ((decide ((IntKind.i64.wrap (a1 * a2)) > 63)))) rfl ?_)))))
          cases hb32 : (decide ((IntKind.i64.wrap (a1 * a2)) > 63))
          · have h := ite_f hb32 h
            refine gp (i6 a1) rfl rfl (gp (i6 (IntKind.i64.wrap (a1 - 1))) rfl rfl (gp (i6 a3) rfl rfl (gp (i6 (IntKind.i64.wrap ((IntKind.i64.wrap (a1 - 1)) * a3))) rfl rfl ?_)))
            obtain ⟨x33, hx34, h⟩ := letp_some h
            refine a_gval' rfl (v := (.bool ((decide ((IntKind.i64.wrap ((IntKind.i64.wrap (a1 - 1)) * a3)) > 63))))) (v' := (.bool x33)) (u := []) (u' := []) rfl (congrArg (fun z => ((.bool z) : AV)) hx34) rfl trivial rfl (vp (.bool x33) rfl (vp (.bool x33) rfl (a_nil ?_)))
            exact j_leaf x33 (Option.some.inj h) (by kernel_rfl)
          · have h := ite_t hb32 h
            refine a_gskip rfl (a_gskip rfl (a_gskip rfl (a_gskip rfl (a_gskip rfl (vp (.bool true) rfl (vp (.bool true) rfl (a_nil ?_)))))))
            exact j_leaf true (Option.some.inj h) (by kernel_rfl)
      · have h := ite_t hb24 h
        refine a_cond_t rfl (sr (vq (eA64u8 ((vrep 64 (0 : Int)))) rfl ⟨⟨_, rfl, rfl⟩, all_nil⟩ (vs (eA64u8 ((vrep 64 (0 : Int)))) rfl rfl (fun _ => rfl) rfl rfl rfl rfl rfl rfl (vp (i6 2) rfl (nx _ rfl (a_ret (b_ret (t_ret ?_))))))))
        have hl93 : LdOk [] (eA64u8 ((vrep 64 (0 : Int)))) [] 64 true (eA64u8 ((vrep 64 (0 : Int)))) := (.nil rfl rfl rfl)
        refine ⟨.inr rfl, ?_⟩
        rw [Try.results57]
        cases h
        exact ⟨_, _, _, _, _, ld_own (i := ⟨.arr 64 5, 64, 64, (eA64u8 (vrep 64 (0 : Int)))⟩) rfl rfl rfl hl93, hl93.c, .inl ⟨rfl, .inl rfl⟩, rfl, ⟨_, _, _, _, _, rfl, trivial, .inl ⟨rfl, .inl rfl⟩, rfl, rfl⟩⟩
    · have h := hy14
      refine a_region (vp (i6 a2) rfl ?_)
      obtain ⟨r16, hr17, h⟩ := bind_some h
      refine a_call (args := [(i6 a2)]) (u := []) (r := (.bool r16)) rfl rfl (impl_isExponent_ok a2 r16 hr17) rfl (vp (.bool (!r16)) rfl (vp (.bool (!r16)) rfl ?_))
      cases hb18 : (!r16)
      · have h := ite_f hb18 h
        refine gp (i6 a3) rfl rfl ?_
        obtain ⟨r19, hr20, h⟩ := bind_some h
        refine a_gcall rfl (args := [(i6 a3)]) (u := []) (r := (.bool r19)) rfl rfl (impl_isExponent_ok a3 r19 hr20) rfl (gp (.bool (!r19)) rfl rfl (vp (.bool (!r19)) rfl (vp (.bool (!r19)) rfl ?_)))
        cases hb21 : (!r19)
        · have h := ite_f hb21 h
          refine gp (i6 a0) rfl rfl (gp (i6 a1) rfl rfl ?_)
          obtain ⟨r22, hr23, h⟩ := bind_some h
          refine a_gcall rfl (args := [(i6 a0), (i6 a1)]) (u := []) (r := (.bool r22)) rfl rfl (impl_prime_isSumDegree_ok a0 a1 r22 hr23) rfl (gp (.bool (!r22)) rfl rfl (vp (.bool (!r22)) rfl (vp (.bool (!r22)) rfl (a_nil ?_))))
          exact j_leaf (!r22) (Option.some.inj h) (by kernel_rfl)
        · have h := ite_t hb21 h
          refine a_gskip rfl (a_gskip rfl (a_gskip rfl (a_gskip rfl (vp (.bool true) rfl (vp (.bool true) rfl (a_nil ?_))))))
          exact j_leaf true (Option.some.inj h) (by kernel_rfl)
      · have h := ite_t hb18 h
        refine a_gskip rfl (a_gskip rfl (a_gskip rfl (vp (.bool true) rfl (vp (.bool true) rfl (a_gskip rfl (a_gskip rfl (a_gskip rfl (a_gskip rfl (vp (.bool true) rfl ?_)))))))))
        refine vp (.bool true) rfl (a_nil ?_)
        exact j_leaf true (Option.some.inj h) (by kernel_rfl)
  · have h := ite_t hb3 h
    refine a_cond_t rfl (sr (vq (eA64u8 ((vrep 64 (0 : Int)))) rfl ⟨⟨_, rfl, rfl⟩, all_nil⟩ (vs (eA64u8 ((vrep 64 (0 : Int)))) rfl rfl (fun _ => rfl) rfl rfl rfl rfl rfl rfl (vp (i6 1) rfl (nx _ rfl (a_ret (b_ret (t_ret ?_))))))))
    have hl95 : LdOk [] (eA64u8 ((vrep 64 (0 : Int)))) [] 64 true (eA64u8 ((vrep 64 (0 : Int)))) := (.nil rfl rfl rfl)
    refine ⟨.inr rfl, ?_⟩
    rw [Try.results57]
    cases h
    exact ⟨_, _, _, _, _, ld_own (i := ⟨.arr 64 5, 64, 64, (eA64u8 (vrep 64 (0 : Int)))⟩) rfl rfl rfl hl95, hl95.c, .inl ⟨rfl, .inl rfl⟩, rfl, ⟨_, _, _, _, _, rfl, trivial, .inl ⟨rfl, .inl rfl⟩, rfl, rfl⟩⟩
def spec_NestedSum_c : ACode := (.seq (.region 0 [q 8 (.alloc 25), q 9 (.asg 0 (.const (.int .i64 0)) 2)] false) (.seq (.seq (.region 1 [q 19 (.mov (t 0)), q 20 (.mov (t 1)), q 21 (.mov (t 2)), q 22 (.mov (t 3)), q 23 (.bslice 0 59 2 [(0, (t 21)), (1, (t 22))]), q 24 (.call 0 (.func 145) [(t 19), (t 20), (t 23)]), q 10 (.asg 0 (t 24) 2)] false) (.seq (.region 2 [q 25 (.mov (t 10)), q 26 (.bin .neq 2 (t 25) (.const (.int .i64 0)))] false) (.cond (t 26) (.seq (.region 3 [q 27 (.build 25 []), q 28 (.mov (t 10)), ⟨none, .store 25 (t 8) (t 27), none, []⟩, q 9 (.asg 0 (t 28) 2)] false) .ret) .skip))) (.seq (.region 4 [q 30 (.mov (t 0)), q 31 (.mov (t 1)), q 32 (.mov (t 2)), q 33 (.call 0 (.func 146) [(t 30), (t 31), (t 32)]), q 29 (.mov (t 33)), q 34 (.extract (t 29) 0), q 35 (.extract (t 29) 1), q 11 (.alloc 25), ⟨none, .store 25 (t 11) (t 34), none, []⟩, q 12 (.asg 0 (t 35) 4)] false) (.seq (.seq (.region 5 [q 36 (.mov (t 12)), q 37 (.un .not (t 36))] false) (.cond (t 37) (.seq (.region 6 [q 38 (.build 25 []), ⟨none, .store 25 (t 8) (t 38), none, []⟩, q 9 (.asg 0 (.const (.int .i64 3)) 2)] false) .ret) .skip)) (.seq (.region 7 [q 39 (.build 25 []), q 13 (.alloc 25), ⟨none, .store 25 (t 13) (t 39), none, []⟩] false) (.seq (.seq (.region 8 [q 14 (.asg 0 (.const (.int .i64 0)) 2)] false) (.block 0 (.loop (.seq (.seq (.region 9 [q 40 (.mov (t 14)), q 41 (.mov (t 1)), q 42 (.bin .lss 2 (t 40) (t 41))] false) (.cond (t 42) .skip (.exit 0))) (.seq (.block 1 (.seq (.region 11 [q 46 (.mov (t 0)), q 47 (.mov (t 14)), q 48 (.mov (t 3)), q 49 (.call 0 (.func 146) [(t 46), (t 47), (t 48)]), q 45 (.mov (t 49)), q 50 (.extract (t 45) 0), q 51 (.extract (t 45) 1), q 15 (.alloc 25), ⟨none, .store 25 (t 15) (t 50), none, []⟩, q 16 (.asg 0 (t 51) 4)] false) (.seq (.seq (.region 12 [q 52 (.mov (t 16)), q 53 (.un .not (t 52))] false) (.cond (t 53) (.seq (.region 13 [q 54 (.build 25 []), ⟨none, .store 25 (t 8) (t 54), none, []⟩, q 9 (.asg 0 (.const (.int .i64 3)) 2)] false) .ret) .skip)) (.region 14 [q 55 (.mov (t 0)), q 56 (.load 25 (t 13)), q 57 (.load 25 (t 15)), q 58 (.call 0 (.func 121) [(t 55), (t 56), (t 57), (.const (.int .i64 1))]), ⟨none, .store 25 (t 13) (t 58), none, []⟩] false)))) (.region 10 [q 43 (.mov (t 14)), q 44 (.bin .add 2 (t 43) (.const (.int .i64 1))), q 14 (.asg 0 (t 44) 2)] false)))))) (.seq (.region 15 [q 60 (.mov (t 0)), q 61 (.load 25 (t 11)), q 62 (.load 25 (t 13)), q 63 (.call 0 (.func 105) [(t 60), (t 61), (t 62)]), q 59 (.mov (t 63)), q 64 (.extract (t 59) 0), q 65 (.extract (t 59) 1), q 17 (.alloc 25), ⟨none, .store 25 (t 17) (t 64), none, []⟩, q 18 (.asg 0 (t 65) 4)] false) (.seq (.seq (.region 16 [q 66 (.mov (t 18)), q 67 (.un .not (t 66))] false) (.cond (t 67) (.seq (.region 17 [q 68 (.build 25 []), ⟨none, .store 25 (t 8) (t 68), none, []⟩, q 9 (.asg 0 (.const (.int .i64 3)) 2)] false) .ret) .skip)) (.seq (.region 18 [q 69 (.load 25 (t 17)), ⟨none, .store 25 (t 8) (t 69), none, []⟩, q 9 (.asg 0 (.const (.int .i64 0)) 2)] false) .ret)))))))))
def spec_NestedSum_L : Live := [(0, [0, 1, 2, 3]), (1, [0, 1, 2, 3, 8]), (2, [0, 1, 2, 3, 8, 10]), (3, [8, 10]), (4, [0, 1, 2, 3, 8]), (5, [0, 1, 3, 8, 11, 12]), (6, [8]), (7, [0, 1, 3, 8, 11]), (8, [0, 1, 3, 8, 11, 13]), (9, [0, 1, 3, 8, 11, 13, 14]), (10, [0, 1, 3, 8, 11, 13, 14]), (11, [0, 1, 3, 8, 11, 13, 14]), (12, [0, 1, 3, 8, 11, 13, 14, 15, 16]), (13, [8]), (14, [0, 1, 3, 8, 11, 13, 14, 15]), (15, [0, 8, 11, 13]), (16, [8, 17, 18]), (17, [8]), (18, [8, 17]), (100026, [0, 1, 2, 3, 8, 10, 26]), (100037, [0, 1, 3, 8, 11, 37]), (100042, [0, 1, 3, 8, 11, 13, 14, 42]), (100053, [0, 1, 3, 8, 11, 13, 14, 15, 53]), (100067, [8, 17, 67])]
noncomputable def spec_NestedSum_l1 (a1 : Int) (a0 : Int) (a3 : Int) (x63 : Int) (x64 : (Vec Int 64)) : Option ((Int × (Vec Int 64)) ⊕ ((Vec Int 64) ⊕ ((Vec Int 64) × Int))) :=
  (if (decide (x63 < a1)) then (Option.bind (spec_l08Sum a0 x63 a3) fun r80 => (if (!r80.2) then (some (.inr ((.inr (((vrep 64 (0 : Int)), 3)))))) else (Option.bind (spec_l01Add a0 x64 r80.1 1) fun r86 => (some (.inl ((IntKind.i64.wrap (x63 + 1), r86))))))) else (some (.inr (.inl x64))))
noncomputable def spec_NestedSum (a0 : Int) (a1 : Int) (a2 : Int) (a3 : Int) : Option ((Vec Int 64) × Int) :=
  (Option.bind (spec_l08Code a0 a1 ([a2, a3])) fun r1 => (if (r1 != 0) then (some (((vrep 64 (0 : Int)), r1))) else (Option.bind (spec_l08Sum a0 a1 a2) fun r4 => (if (!r4.2) then (some (((vrep 64 (0 : Int)), 3))) else (Option.bind (α := ((Vec Int 64) ⊕ ((Vec Int 64) × Int))) ((loopM (fun s : (Int × (Vec Int 64)) => spec_NestedSum_l1 a1 a0 a3 s.1 s.2) (0, (vrep 64 (0 : Int))))) fun z => match z with | .inl x48 => (Option.bind (spec_l01Times a0 r4.1 x48) fun r94 => (if (!r94.2) then (some (((vrep 64 (0 : Int)), 3))) else (some (r94.1, 0)))) | .inr r103 => (some r103))))))
theorem spec_NestedSum_ok (a0 : Int) (a1 : Int) (a2 : Int) (a3 : Int) (r : ((Vec Int 64) × Int)) (h : spec_NestedSum a0 a1 a2 a3 = some r) : Den Try.prog 58 [(i6 a0), (i6 a1), (i6 a2), (i6 a3)] { r := (.tuple [(eA64u8 r.1), (i6 r.2)]) } := by
  refine den_of (rs := [(eA64u8 r.1), (i6 r.2)]) (ac := spec_NestedSum_c) (L := spec_NestedSum_L) (n := 70) (m := []) (c := Try.f58.body.getD .skip) good Try.func58 (by kernel_rfl) (by kernel_rfl) Try.ntmps58 rfl rfl (by kernel_rfl) rfl rfl ?_
  refine a_st (σ' := ⟨[(0, (i6 a0)), (1, (i6 a1)), (2, (i6 a2)), (3, (i6 a3))], []⟩) (by kernel_rfl) ?_
  unfold spec_NestedSum_c
  refine sr (vo 1800 (eA64u8 ((vrep 64 (0 : Int)))) rfl rfl (vp (i6 0) rfl (nx ⟨[(0, (i6 a0)), (1, (i6 a1)), (2, (i6 a2)), (3, (i6 a3)), (8, (ow 8))], [(8, (bk (eA64u8 ((vrep 64 (0 : Int))))))]⟩ (by kernel_rfl) (a_seq (sr (vp (i6 a0) rfl (vp (i6 a1) rfl (vp (i6 a2) rfl (vp (i6 a3) rfl ?_)))))))))
  refine vq (.sl 1 true (([a2, a3]).map (AV.int .i64))) rfl ⟨(Nat.le_of_ble_eq_true rfl), (Nat.le_of_ble_eq_true rfl), (all_cons ⟨(Nat.le_of_ble_eq_true rfl), rfl⟩ (all_cons ⟨(Nat.le_of_ble_eq_true rfl), rfl⟩ all_nil))⟩ ?_
  obtain ⟨r1, hr2, h⟩ := bind_some h
  refine a_call (args := [(i6 a0), (i6 a1), (.sl 1 true (([a2, a3]).map (AV.int .i64)))]) (u := []) (r := (i6 r1)) rfl rfl (Den.args (spec_l08Code_ok a0 a1 ([a2, a3]) r1 hr2) rfl rfl (.cons (.refl _) (.cons (.refl _) (.cons (.loose _) .nil)))) rfl (vp (i6 r1) rfl (nx ⟨[(0, (i6 a0)), (1, (i6 a1)), (2, (i6 a2)), (3, (i6 a3)), (8, (ow 8)), (10, (i6 r1))], [(8, (bk (eA64u8 ((vrep 64 (0 : Int))))))]⟩ (by kernel_rfl) (sr (vp (i6 r1) rfl (vp (.bool (r1 != 0)) rfl (nx ⟨[(0, (i6 a0)), (1, (i6 a1)), (2, (i6 a2)), (3, (i6 a3)), (8, (ow 8)), (10, (i6 r1)), (26, (.bool (r1 != 0)))], [(8, (bk (eA64u8 ((vrep 64 (0 : Int))))))]⟩ (by kernel_rfl) ?_))))))
  cases hb3 : (r1 != 0)
  · have h := ite_f hb3 h
    refine a_cond_f rfl (a_skip (a_next (σ' := ⟨[(0, (i6 a0)), (1, (i6 a1)), (2, (i6 a2)), (3, (i6 a3)), (8, (ow 8))], [(8, (bk (eA64u8 ((vrep 64 (0 : Int))))))]⟩) (by kernel_rfl) (sr (vp (i6 a0) rfl (vp (i6 a1) rfl (vp (i6 a2) rfl ?_))))))
    obtain ⟨r4, hr5, h⟩ := bind_some h
    refine a_call (args := [(i6 a0), (i6 a1), (i6 a2)]) (u := []) (r := (.tuple [(eA64u8 r4.1), (.bool r4.2)])) rfl rfl (spec_l08Sum_ok a0 a1 a2 r4 hr5) rfl (vp (.tuple [(eA64u8 r4.1), (.bool r4.2)]) rfl (vb (eA64u8 r4.1) rfl rfl (vb (.bool r4.2) rfl rfl (vo 2100 (eA64u8 ((vrep 64 (0 : Int)))) rfl rfl (vs (eA64u8 r4.1) rfl rfl (fun _ => rfl) rfl rfl rfl rfl rfl rfl (vp (.bool r4.2) rfl (nx ⟨[(0, (i6 a0)), (1, (i6 a1)), (3, (i6 a3)), (8, (ow 8)), (11, (ow 11)), (12, (.bool r4.2))], [(8, (bk (eA64u8 ((vrep 64 (0 : Int)))))), (11, (bk (eA64u8 r4.1)))]⟩ (by kernel_rfl) (a_seq (sr ?_)))))))))
    refine vp (.bool r4.2) rfl (vp (.bool (!r4.2)) rfl (nx ⟨[(0, (i6 a0)), (1, (i6 a1)), (3, (i6 a3)), (8, (ow 8)), (11, (ow 11)), (37, (.bool (!r4.2)))], [(8, (bk (eA64u8 ((vrep 64 (0 : Int)))))), (11, (bk (eA64u8 r4.1)))]⟩ (by kernel_rfl) ?_))
    cases hb7 : (!r4.2)
    · have h := ite_f hb7 h
      refine a_cond_f rfl (a_skip (a_next (σ' := ⟨[(0, (i6 a0)), (1, (i6 a1)), (3, (i6 a3)), (8, (ow 8)), (11, (ow 11))], [(8, (bk (eA64u8 ((vrep 64 (0 : Int)))))), (11, (bk (eA64u8 r4.1)))]⟩) (by kernel_rfl) (sr (vq (eA64u8 ((vrep 64 (0 : Int)))) rfl ⟨⟨_, rfl, rfl⟩, all_nil⟩ (vo 2300 (eA64u8 ((vrep 64 (0 : Int)))) rfl rfl (vs (eA64u8 ((vrep 64 (0 : Int)))) rfl rfl (fun _ => rfl) rfl rfl rfl rfl rfl rfl (nx ⟨[(0, (i6 a0)), (1, (i6 a1)), (3, (i6 a3)), (8, (ow 8)), (11, (ow 11)), (13, (ow 13))], [(8, (bk (eA64u8 ((vrep 64 (0 : Int)))))), (11, (bk (eA64u8 r4.1))), (13, (bk (eA64u8 ((vrep 64 (0 : Int))))))]⟩ (by kernel_rfl) ?_)))))))
      obtain ⟨y49, hy50, hk51⟩ := bind_some h
      clear h
      refine a_join (emb := fun (s : (Vec Int 64)) => ⟨[(0, (i6 a0)), (8, (ow 8)), (11, (ow 11)), (13, (ow 13))], [(8, (bk (eA64u8 ((vrep 64 (0 : Int)))))), (11, (bk (eA64u8 r4.1))), (13, (bk (eA64u8 s)))]⟩) (pre := fun s => (.inl s) = y49) ?_ ?_
      · rintro x48 rfl
        have h := hk51
        refine a_st (σ' := ⟨[(0, (i6 a0)), (8, (ow 8)), (11, (ow 11)), (13, (ow 13))], [(8, (bk (eA64u8 ((vrep 64 (0 : Int)))))), (11, (bk (eA64u8 r4.1))), (13, (bk (eA64u8 x48)))]⟩) (by kernel_rfl) (sr (vp (i6 a0) rfl (vl (eA64u8 r4.1) rfl rfl rfl rfl rfl rfl (vl (eA64u8 x48) rfl rfl rfl rfl rfl rfl ?_))))
        obtain ⟨r94, hr95, h⟩ := bind_some h
        refine a_call (args := [(i6 a0), (eA64u8 r4.1), (eA64u8 x48)]) (u := []) (r := (.tuple [(eA64u8 r94.1), (.bool r94.2)])) rfl rfl (spec_l01Times_ok a0 r4.1 x48 r94 hr95) rfl (vp (.tuple [(eA64u8 r94.1), (.bool r94.2)]) rfl (vb (eA64u8 r94.1) rfl rfl (vb (.bool r94.2) rfl rfl (vo 2700 (eA64u8 ((vrep 64 (0 : Int)))) rfl rfl (vs (eA64u8 r94.1) rfl rfl (fun _ => rfl) rfl rfl rfl rfl rfl rfl (vp (.bool r94.2) rfl (nx ⟨[(8, (ow 8)), (17, (ow 17)), (18, (.bool r94.2))], [(8, (bk (eA64u8 ((vrep 64 (0 : Int)))))), (17, (bk (eA64u8 r94.1)))]⟩ (by kernel_rfl) (a_seq (sr ?_)))))))))
        refine vp (.bool r94.2) rfl (vp (.bool (!r94.2)) rfl (nx ⟨[(8, (ow 8)), (17, (ow 17)), (67, (.bool (!r94.2)))], [(8, (bk (eA64u8 ((vrep 64 (0 : Int)))))), (17, (bk (eA64u8 r94.1)))]⟩ (by kernel_rfl) ?_))
        cases hb97 : (!r94.2)
        · have h := ite_f hb97 h
          refine a_cond_f rfl (a_skip (a_next (σ' := ⟨[(8, (ow 8)), (17, (ow 17))], [(8, (bk (eA64u8 ((vrep 64 (0 : Int)))))), (17, (bk (eA64u8 r94.1)))]⟩) (by kernel_rfl) (sr (vl (eA64u8 r94.1) rfl rfl rfl rfl rfl rfl (vs (eA64u8 r94.1) rfl rfl (fun _ => rfl) rfl rfl rfl rfl rfl rfl (vp (i6 0) rfl (nx _ rfl (a_ret ?_))))))))
          have hl100 : LdOk [] (eA64u8 r94.1) [] 64 true (eA64u8 r94.1) := (.nil rfl rfl rfl)
          refine ⟨.inr rfl, ?_⟩
          rw [Try.results58]
          cases h
          exact ⟨_, _, _, _, _, ld_own (i := ⟨.arr 64 5, 64, 64, (eA64u8 (vrep 64 (0 : Int)))⟩) rfl rfl rfl hl100, hl100.c, .inl ⟨rfl, .inl rfl⟩, rfl, ⟨_, _, _, _, _, rfl, trivial, .inl ⟨rfl, .inl rfl⟩, rfl, rfl⟩⟩
        · have h := ite_t hb97 h
          refine a_cond_t rfl (sr (vq (eA64u8 ((vrep 64 (0 : Int)))) rfl ⟨⟨_, rfl, rfl⟩, all_nil⟩ (vs (eA64u8 ((vrep 64 (0 : Int)))) rfl rfl (fun _ => rfl) rfl rfl rfl rfl rfl rfl (vp (i6 3) rfl (nx _ rfl (a_ret (t_ret ?_)))))))
          have hl102 : LdOk [] (eA64u8 ((vrep 64 (0 : Int)))) [] 64 true (eA64u8 ((vrep 64 (0 : Int)))) := (.nil rfl rfl rfl)
          refine ⟨.inr rfl, ?_⟩
          rw [Try.results58]
          cases h
          exact ⟨_, _, _, _, _, ld_own (i := ⟨.arr 64 5, 64, 64, (eA64u8 (vrep 64 (0 : Int)))⟩) rfl rfl rfl hl102, hl102.c, .inl ⟨rfl, .inl rfl⟩, rfl, ⟨_, _, _, _, _, rfl, trivial, .inl ⟨rfl, .inl rfl⟩, rfl, rfl⟩⟩
      · have h := hy50
        refine sr (vp (i6 0) rfl (nx ⟨[(0, (i6 a0)), (1, (i6 a1)), (3, (i6 a3)), (8, (ow 8)), (11, (ow 11)), (13, (ow 13)), (14, (i6 0))], [(8, (bk (eA64u8 ((vrep 64 (0 : Int)))))), (11, (bk (eA64u8 r4.1))), (13, (bk (eA64u8 ((vrep 64 (0 : Int))))))]⟩ (by kernel_rfl) (a_block ?_)))
        refine a_loop (emb := fun (s : (Int × (Vec Int 64))) => ⟨[(0, (i6 a0)), (1, (i6 a1)), (3, (i6 a3)), (8, (ow 8)), (11, (ow 11)), (13, (ow 13)), (14, (i6 s.1))], [(8, (bk (eA64u8 ((vrep 64 (0 : Int)))))), (11, (bk (eA64u8 r4.1))), (13, (bk (eA64u8 s.2)))]⟩) (body := (fun s : (Int × (Vec Int 64)) => spec_NestedSum_l1 a1 a0 a3 s.1 s.2)) (G := fun q => some q = some y49) h rfl ?_ (by kernel_rfl)
        rintro X76 ⟨x63, x64⟩ x77 h hX78
        have h : spec_NestedSum_l1 a1 a0 a3 x63 x64 = some x77 := h
        refine a_st (σ' := ⟨[(0, (i6 a0)), (1, (i6 a1)), (3, (i6 a3)), (8, (ow 8)), (11, (ow 11)), (13, (ow 13)), (14, (i6 x63))], [(8, (bk (eA64u8 ((vrep 64 (0 : Int)))))), (11, (bk (eA64u8 r4.1))), (13, (bk (eA64u8 x64)))]⟩) (by kernel_rfl) (a_seq (sr (vp (i6 x63) rfl (vp (i6 a1) rfl (vp (.bool ((decide (x63 < a1)))) rfl (nx ⟨[(0, (i6 a0)), (1, (i6 a1)), (3, (i6 a3)), (8, (ow 8)), (11, (ow 11)), (13, (ow 13)), (14, (i6 x63)), (42, (.bool ((decide (x63 < a1)))))], [(8, (bk (eA64u8 ((vrep 64 (0 : Int)))))), (11, (bk (eA64u8 r4.1))), (13, (bk (eA64u8 x64)))]⟩ (by kernel_rfl) ?_))))))
        cases hb79 : (decide (x63 < a1))
        · have h := ite_f hb79 h
          refine a_cond_f rfl (a_exit (t_exit ?_))
          cases h
          have h := hX78
          refine t_exit (b_exit ?_)
          exact j_leaf x64 (Option.some.inj h) (by kernel_rfl)
        · have h := ite_t hb79 h
          refine a_cond_t rfl (a_skip (a_next (σ' := ⟨[(0, (i6 a0)), (1, (i6 a1)), (3, (i6 a3)), (8, (ow 8)), (11, (ow 11)), (13, (ow 13)), (14, (i6 x63))], [(8, (bk (eA64u8 ((vrep 64 (0 : Int)))))), (11, (bk (eA64u8 r4.1))), (13, (bk (eA64u8 x64)))]⟩) (by kernel_rfl) (a_seq (a_block (sr (vp (i6 a0) rfl (vp (i6 x63) rfl (vp (i6 a3) rfl ?_))))))))
          obtain ⟨r80, hr81, h⟩ := bind_some h
          refine a_call (args := [(i6 a0), (i6 x63), (i6 a3)]) (u := []) (r := (.tuple [(eA64u8 r80.1), (.bool r80.2)])) rfl rfl (spec_l08Sum_ok a0 x63 a3 r80 hr81) rfl (vp (.tuple [(eA64u8 r80.1), (.bool r80.2)]) rfl (vb (eA64u8 r80.1) rfl rfl (vb (.bool r80.2) rfl rfl (vo 2500 (eA64u8 ((vrep 64 (0 : Int)))) rfl rfl (vs (eA64u8 r80.1) rfl rfl (fun _ => rfl) rfl rfl rfl rfl rfl rfl (vp (.bool r80.2) rfl (nx ⟨[(0, (i6 a0)), (1, (i6 a1)), (3, (i6 a3)), (8, (ow 8)), (11, (ow 11)), (13, (ow 13)), (14, (i6 x63)), (15, (ow 15)), (16, (.bool r80.2))], [(8, (bk (eA64u8 ((vrep 64 (0 : Int)))))), (11, (bk (eA64u8 r4.1))), (13, (bk (eA64u8 x64))), (15, (bk (eA64u8 r80.1)))]⟩ (by kernel_rfl) (a_seq (sr ?_)))))))))
          refine vp (.bool r80.2) rfl (vp (.bool (!r80.2)) rfl (nx ⟨[(0, (i6 a0)), (1, (i6 a1)), (3, (i6 a3)), (8, (ow 8)), (11, (ow 11)), (13, (ow 13)), (14, (i6 x63)), (15, (ow 15)), (53, (.bool (!r80.2)))], [(8, (bk (eA64u8 ((vrep 64 (0 : Int)))))), (11, (bk (eA64u8 r4.1))), (13, (bk (eA64u8 x64))), (15, (bk (eA64u8 r80.1)))]⟩ (by kernel_rfl) ?_))
          cases hb83 : (!r80.2)
          · have h := ite_f hb83 h
            refine a_cond_f rfl (a_skip (a_next (σ' := ⟨[(0, (i6 a0)), (1, (i6 a1)), (3, (i6 a3)), (8, (ow 8)), (11, (ow 11)), (13, (ow 13)), (14, (i6 x63)), (15, (ow 15))], [(8, (bk (eA64u8 ((vrep 64 (0 : Int)))))), (11, (bk (eA64u8 r4.1))), (13, (bk (eA64u8 x64))), (15, (bk (eA64u8 r80.1)))]⟩) (by kernel_rfl) (a_region (vp (i6 a0) rfl (vl (eA64u8 x64) rfl rfl rfl rfl rfl rfl (vl (eA64u8 r80.1) rfl rfl rfl rfl rfl rfl ?_))))))
            obtain ⟨r86, hr87, h⟩ := bind_some h
            refine a_call (args := [(i6 a0), (eA64u8 x64), (eA64u8 r80.1), (i6 1)]) (u := []) (r := (eA64u8 r86)) rfl rfl (spec_l01Add_ok a0 x64 r80.1 1 r86 hr87) rfl (vs (eA64u8 r86) rfl rfl (fun _ => rfl) rfl rfl rfl rfl rfl rfl (a_nil (b_norm (a_next (σ' := ⟨[(0, (i6 a0)), (1, (i6 a1)), (3, (i6 a3)), (8, (ow 8)), (11, (ow 11)), (13, (ow 13)), (14, (i6 x63))], [(8, (bk (eA64u8 ((vrep 64 (0 : Int)))))), (11, (bk (eA64u8 r4.1))), (13, (bk (eA64u8 r86)))]⟩) (by kernel_rfl) (a_region (vp (i6 x63) rfl (vp (i6 (IntKind.i64.wrap (x63 + 1))) rfl (vp (i6 (IntKind.i64.wrap (x63 + 1))) rfl (a_nil ?_)))))))))
            cases h
            exact a_again (by kernel_rfl) hX78
          · have h := ite_t hb83 h
            refine a_cond_t rfl (sr (vq (eA64u8 ((vrep 64 (0 : Int)))) rfl ⟨⟨_, rfl, rfl⟩, all_nil⟩ (vs (eA64u8 ((vrep 64 (0 : Int)))) rfl rfl (fun _ => rfl) rfl rfl rfl rfl rfl rfl (vp (i6 3) rfl (nx _ rfl (a_ret (t_ret (b_ret (t_ret ?_)))))))))
            cases h
            have h := hX78
            refine t_ret (b_ret (t_ret ?_))
            cases h
            have h := hk51
            have hl90 : LdOk [] (eA64u8 ((vrep 64 (0 : Int)))) [] 64 true (eA64u8 ((vrep 64 (0 : Int)))) := (.nil rfl rfl rfl)
            refine ⟨.inr rfl, ?_⟩
            rw [Try.results58]
            cases h
            exact ⟨_, _, _, _, _, ld_own (i := ⟨.arr 64 5, 64, 64, (eA64u8 (vrep 64 (0 : Int)))⟩) rfl rfl rfl hl90, hl90.c, .inl ⟨rfl, .inl rfl⟩, rfl, ⟨_, _, _, _, _, rfl, trivial, .inl ⟨rfl, .inl rfl⟩, rfl, rfl⟩⟩
    · have h := ite_t hb7 h
      refine a_cond_t rfl (sr (vq (eA64u8 ((vrep 64 (0 : Int)))) rfl ⟨⟨_, rfl, rfl⟩, all_nil⟩ (vs (eA64u8 ((vrep 64 (0 : Int)))) rfl rfl (fun _ => rfl) rfl rfl rfl rfl rfl rfl (vp (i6 3) rfl (nx _ rfl (a_ret (t_ret ?_)))))))
      have hl105 : LdOk [] (eA64u8 ((vrep 64 (0 : Int)))) [] 64 true (eA64u8 ((vrep 64 (0 : Int)))) := (.nil rfl rfl rfl)
      refine ⟨.inr rfl, ?_⟩
      rw [Try.results58]
      cases h
      exact ⟨_, _, _, _, _, ld_own (i := ⟨.arr 64 5, 64, 64, (eA64u8 (vrep 64 (0 : Int)))⟩) rfl rfl rfl hl105, hl105.c, .inl ⟨rfl, .inl rfl⟩, rfl, ⟨_, _, _, _, _, rfl, trivial, .inl ⟨rfl, .inl rfl⟩, rfl, rfl⟩⟩
  · have h := ite_t hb3 h
    refine a_cond_t rfl (sr (vq (eA64u8 ((vrep 64 (0 : Int)))) rfl ⟨⟨_, rfl, rfl⟩, all_nil⟩ (vp (i6 r1) rfl (vs (eA64u8 ((vrep 64 (0 : Int)))) rfl rfl (fun _ => rfl) rfl rfl rfl rfl rfl rfl (vp (i6 r1) rfl (nx _ rfl (a_ret (t_ret ?_))))))))
    have hl107 : LdOk [] (eA64u8 ((vrep 64 (0 : Int)))) [] 64 true (eA64u8 ((vrep 64 (0 : Int)))) := (.nil rfl rfl rfl)
    refine ⟨.inr rfl, ?_⟩
    rw [Try.results58]
    cases h
    exact ⟨_, _, _, _, _, ld_own (i := ⟨.arr 64 5, 64, 64, (eA64u8 (vrep 64 (0 : Int)))⟩) rfl rfl rfl hl107, hl107.c, .inl ⟨rfl, .inl rfl⟩, rfl, ⟨_, _, _, _, _, rfl, trivial, .inl ⟨rfl, .inl rfl⟩, rfl, rfl⟩⟩
def spec_DrawFirstVanishing_c : ACode := (.seq (.region 0 [q 2 (.asg 0 (.const (.int .i64 0)) 2), q 3 (.asg 0 (.const (.int .i64 0)) 2)] false) (.seq (.region 1 [q 4 (.mov (t 0)), q 5 (.call 0 (.func 53) [(t 4)]), q 6 (.extract (t 5) 0), q 7 (.extract (t 5) 1), q 2 (.asg 0 (t 6) 2), q 3 (.asg 0 (t 7) 2)] false) .ret))
def spec_DrawFirstVanishing_L : Live := [(0, [0]), (1, [0])]
noncomputable def spec_DrawFirstVanishing (a0 : (List Int)) : Option (Int × Int) :=
  (Option.bind (spec_DrawZetaAt a0) fun r1 => (some (r1.1, r1.2)))
theorem spec_DrawFirstVanishing_ok (a0 : (List Int)) (r : (Int × Int)) (h : spec_DrawFirstVanishing a0 = some r) : Den Try.prog 59 [(eSu8 a0)] { r := (.tuple [(i6 r.1), (i6 r.2)]) } := by
  refine den_of (rs := [(i6 r.1), (i6 r.2)]) (ac := spec_DrawFirstVanishing_c) (L := spec_DrawFirstVanishing_L) (n := 8) (m := []) (c := Try.f59.body.getD .skip) good Try.func59 (by kernel_rfl) (by kernel_rfl) Try.ntmps59 rfl rfl (by kernel_rfl) rfl rfl ?_
  refine a_st (σ' := ⟨[(0, (eSu8 a0))], []⟩) (by kernel_rfl) ?_
  unfold spec_DrawFirstVanishing_c
  refine sr (vp (i6 0) rfl (vp (i6 0) rfl (nx ⟨[(0, (eSu8 a0))], []⟩ (by kernel_rfl) (sr (vp (eSu8 a0) rfl ?_)))))
  obtain ⟨r1, hr2, h⟩ := bind_some h
  refine a_call (args := [(eSu8 a0)]) (u := []) (r := (.tuple [(i6 r1.1), (i6 r1.2)])) rfl rfl (spec_DrawZetaAt_ok a0 r1 hr2) rfl (vb (i6 r1.1) rfl rfl (vb (i6 r1.2) rfl rfl (vp (i6 r1.1) rfl (vp (i6 r1.2) rfl (nx _ rfl (a_ret ?_))))))
  refine ⟨.inr rfl, ?_⟩
  rw [Try.results59]
  cases h
  exact ⟨_, _, _, _, _, rfl, trivial, .inl ⟨rfl, .inl rfl⟩, rfl, ⟨_, _, _, _, _, rfl, trivial, .inl ⟨rfl, .inl rfl⟩, rfl, rfl⟩⟩
def impl_FirstVanishing_c : ACode := (.seq (.region 0 [q 4 (.asg 0 (.const (.int .i64 0)) 2), q 5 (.asg 0 (.const (.int .i64 0)) 2)] false) (.seq (.seq (.region 1 [q 10 (.mov (t 0)), q 11 (.mov (t 1)), q 12 (.call 0 (.func 124) [(t 10), (t 11), (.const (.int .i64 1)), (.const (.int .i64 40))]), q 6 (.asg 0 (t 12) 2)] false) (.seq (.region 2 [q 13 (.mov (t 6)), q 14 (.bin .neq 2 (t 13) (.const (.int .i64 0)))] false) (.cond (t 14) (.seq (.region 3 [q 15 (.mov (t 6)), q 4 (.asg 0 (.const (.int .i64 0)) 2), q 5 (.asg 0 (t 15) 2)] false) .ret) .skip))) (.seq (.region 4 [q 7 (.asg 0 (.const (.int .i64 0)) 2)] false) (.block 0 (.loop (.seq (.block 1 (.seq (.region 6 [q 19 (.mov (t 0)), q 20 (.mov (t 7)), q 21 (.mov (t 1)), q 22 (.call 0 (.func 48) [(t 19), (t 20), (t 21)]), q 18 (.mov (t 22)), q 23 (.extract (t 18) 0), q 24 (.extract (t 18) 1), q 8 (.alloc 25), ⟨none, .store 25 (t 8) (t 23), none, []⟩, q 9 (.asg 0 (t 24) 2)] false) (.seq (.seq (.region 7 [q 25 (.mov (t 9)), q 26 (.bin .neq 2 (t 25) (.const (.int .i64 0)))] false) (.cond (t 26) (.seq (.region 8 [q 27 (.mov (t 9)), q 4 (.asg 0 (.const (.int .i64 0)) 2), q 5 (.asg 0 (t 27) 2)] false) .ret) .skip)) (.seq (.region 9 [q 28 (.load 25 (t 8)), q 29 (.build 25 []), q 30 (.bin .eql 25 (t 28) (t 29))] false) (.cond (t 30) (.seq (.region 10 [q 31 (.mov (t 7)), q 4 (.asg 0 (t 31) 2), q 5 (.asg 0 (.const (.int .i64 0)) 2)] false) .ret) .skip))))) (.region 5 [q 16 (.mov (t 7)), q 17 (.bin .add 2 (t 16) (.const (.int .i64 1))), q 7 (.asg 0 (t 17) 2)] false)))))))
def impl_FirstVanishing_L : Live := [(0, [0, 1]), (1, [0, 1]), (2, [0, 1, 6]), (3, [6]), (4, [0, 1]), (5, [0, 1, 7]), (6, [0, 1, 7]), (7, [0, 1, 7, 8, 9]), (8, [9]), (9, [0, 1, 7, 8]), (10, [7]), (100014, [0, 1, 6, 14]), (100026, [0, 1, 7, 8, 9, 26]), (100030, [0, 1, 7, 30])]
noncomputable def impl_FirstVanishing_l1 (a0 : Int) (a1 : Int) (x10 : Int) : Option (Int ⊕ (Int × Int)) :=
  (Option.bind (impl_PowerSum a0 x10 a1) fun r20 => (if (r20.2 != 0) then (some (.inr (0, r20.2))) else (if (decide (r20.1 = ((vrep 64 (0 : Int))))) then (some (.inr (x10, 0))) else (some (.inl (IntKind.i64.wrap (x10 + 1)))))))
noncomputable def impl_FirstVanishing (a0 : Int) (a1 : Int) : Option (Int × Int) :=
  (Option.bind (impl_numberCode a0 a1 1 40) fun r1 => (if (r1 != 0) then (some (0, r1)) else (loopM (fun s : Int => impl_FirstVanishing_l1 a0 a1 s) 0)))
theorem impl_FirstVanishing_ok (a0 : Int) (a1 : Int) (r : (Int × Int)) (h : impl_FirstVanishing a0 a1 = some r) : Den Try.prog 60 [(i6 a0), (i6 a1)] { r := (.tuple [(i6 r.1), (i6 r.2)]) } := by
  refine den_of (rs := [(i6 r.1), (i6 r.2)]) (ac := impl_FirstVanishing_c) (L := impl_FirstVanishing_L) (n := 32) (m := []) (c := Try.f60.body.getD .skip) good Try.func60 (by kernel_rfl) (by kernel_rfl) Try.ntmps60 rfl rfl (by kernel_rfl) rfl rfl ?_
  refine a_st (σ' := ⟨[(0, (i6 a0)), (1, (i6 a1))], []⟩) (by kernel_rfl) ?_
  unfold impl_FirstVanishing_c
  refine sr (vp (i6 0) rfl (vp (i6 0) rfl (nx ⟨[(0, (i6 a0)), (1, (i6 a1))], []⟩ (by kernel_rfl) (a_seq (sr (vp (i6 a0) rfl (vp (i6 a1) rfl ?_)))))))
  obtain ⟨r1, hr2, h⟩ := bind_some h
  refine a_call (args := [(i6 a0), (i6 a1), (i6 1), (i6 40)]) (u := []) (r := (i6 r1)) rfl rfl (impl_numberCode_ok a0 a1 1 40 r1 hr2) rfl (vp (i6 r1) rfl (nx ⟨[(0, (i6 a0)), (1, (i6 a1)), (6, (i6 r1))], []⟩ (by kernel_rfl) (sr (vp (i6 r1) rfl (vp (.bool (r1 != 0)) rfl (nx ⟨[(0, (i6 a0)), (1, (i6 a1)), (6, (i6 r1)), (14, (.bool (r1 != 0)))], []⟩ (by kernel_rfl) ?_))))))
  cases hb3 : (r1 != 0)
  · have h := ite_f hb3 h
    refine a_cond_f rfl (a_skip (a_next (σ' := ⟨[(0, (i6 a0)), (1, (i6 a1))], []⟩) (by kernel_rfl) (sr (vp (i6 0) rfl (nx ⟨[(0, (i6 a0)), (1, (i6 a1)), (7, (i6 0))], []⟩ (by kernel_rfl) (a_block ?_))))))
    refine a_loop (emb := fun (s : Int) => ⟨[(0, (i6 a0)), (1, (i6 a1)), (7, (i6 s))], []⟩) (body := (fun s : Int => impl_FirstVanishing_l1 a0 a1 s)) (G := fun q => some q = some r) h rfl ?_ (by kernel_rfl)
    rintro X17 x10 x18 h hX19
    have h : impl_FirstVanishing_l1 a0 a1 x10 = some x18 := h
    refine a_st (σ' := ⟨[(0, (i6 a0)), (1, (i6 a1)), (7, (i6 x10))], []⟩) (by kernel_rfl) (a_seq (a_block (sr (vp (i6 a0) rfl (vp (i6 x10) rfl (vp (i6 a1) rfl ?_))))))
    obtain ⟨r20, hr21, h⟩ := bind_some h
    refine a_call (args := [(i6 a0), (i6 x10), (i6 a1)]) (u := []) (r := (.tuple [(eA64u8 r20.1), (i6 r20.2)])) rfl rfl (impl_PowerSum_ok a0 x10 a1 r20 hr21) rfl (vp (.tuple [(eA64u8 r20.1), (i6 r20.2)]) rfl (vb (eA64u8 r20.1) rfl rfl (vb (i6 r20.2) rfl rfl (vo 1800 (eA64u8 ((vrep 64 (0 : Int)))) rfl rfl (vs (eA64u8 r20.1) rfl rfl (fun _ => rfl) rfl rfl rfl rfl rfl rfl (vp (i6 r20.2) rfl (nx ⟨[(0, (i6 a0)), (1, (i6 a1)), (7, (i6 x10)), (8, (ow 8)), (9, (i6 r20.2))], [(8, (bk (eA64u8 r20.1)))]⟩ (by kernel_rfl) (a_seq (sr ?_)))))))))
    refine vp (i6 r20.2) rfl (vp (.bool (r20.2 != 0)) rfl (nx ⟨[(0, (i6 a0)), (1, (i6 a1)), (7, (i6 x10)), (8, (ow 8)), (9, (i6 r20.2)), (26, (.bool (r20.2 != 0)))], [(8, (bk (eA64u8 r20.1)))]⟩ (by kernel_rfl) ?_))
    cases hb23 : (r20.2 != 0)
    · have h := ite_f hb23 h
      refine a_cond_f rfl (a_skip (a_next (σ' := ⟨[(0, (i6 a0)), (1, (i6 a1)), (7, (i6 x10)), (8, (ow 8))], [(8, (bk (eA64u8 r20.1)))]⟩) (by kernel_rfl) (sr (vl (eA64u8 r20.1) rfl rfl rfl rfl rfl rfl (vq (eA64u8 ((vrep 64 (0 : Int)))) rfl ⟨⟨_, rfl, rfl⟩, all_nil⟩ (vq (.bool ((decide (r20.1 = ((vrep 64 (0 : Int))))))) (eqa_run (f := (AV.int .u8)) (a := r20.1.1) (b := ((vrep 64 (0 : Int))).1) rfl rfl (eqb_vec (fun _ _ => eqb_int _ _) r20.1 ((vrep 64 (0 : Int))))) (cmp_arr (g := 8) (f := (AV.int .u8)) (x := r20.1) (y := ((vrep 64 (0 : Int)))) rfl rfl rfl (fun _ _ => rfl) (fun _ _ => cmp_int rfl)) (nx ⟨[(0, (i6 a0)), (1, (i6 a1)), (7, (i6 x10)), (30, (.bool ((decide (r20.1 = ((vrep 64 (0 : Int))))))))], []⟩ (by kernel_rfl) ?_)))))))
      cases hb25 : (decide (r20.1 = ((vrep 64 (0 : Int)))))
      · have h := ite_f hb25 h
        refine a_cond_f rfl (a_skip (b_norm (a_next (σ' := ⟨[(0, (i6 a0)), (1, (i6 a1)), (7, (i6 x10))], []⟩) (by kernel_rfl) (a_region (vp (i6 x10) rfl (vp (i6 (IntKind.i64.wrap (x10 + 1))) rfl (vp (i6 (IntKind.i64.wrap (x10 + 1))) rfl (a_nil ?_))))))))
        cases h
        exact a_again (by kernel_rfl) hX19
      · have h := ite_t hb25 h
        refine a_cond_t rfl (sr (vp (i6 x10) rfl (vp (i6 x10) rfl (vp (i6 0) rfl (nx _ rfl (a_ret (b_ret (t_ret ?_))))))))
        cases h
        have h := hX19
        refine t_ret (b_ret ?_)
        refine ⟨.inr rfl, ?_⟩
        rw [Try.results60]
        cases h
        exact ⟨_, _, _, _, _, rfl, trivial, .inl ⟨rfl, .inl rfl⟩, rfl, ⟨_, _, _, _, _, rfl, trivial, .inl ⟨rfl, .inl rfl⟩, rfl, rfl⟩⟩
    · have h := ite_t hb23 h
      refine a_cond_t rfl (sr (vp (i6 r20.2) rfl (vp (i6 0) rfl (vp (i6 r20.2) rfl (nx _ rfl (a_ret (t_ret (b_ret (t_ret ?_)))))))))
      cases h
      have h := hX19
      refine t_ret (b_ret ?_)
      refine ⟨.inr rfl, ?_⟩
      rw [Try.results60]
      cases h
      exact ⟨_, _, _, _, _, rfl, trivial, .inl ⟨rfl, .inl rfl⟩, rfl, ⟨_, _, _, _, _, rfl, trivial, .inl ⟨rfl, .inl rfl⟩, rfl, rfl⟩⟩
  · have h := ite_t hb3 h
    refine a_cond_t rfl (sr (vp (i6 r1) rfl (vp (i6 0) rfl (vp (i6 r1) rfl (nx _ rfl (a_ret (t_ret ?_)))))))
    refine ⟨.inr rfl, ?_⟩
    rw [Try.results60]
    cases h
    exact ⟨_, _, _, _, _, rfl, trivial, .inl ⟨rfl, .inl rfl⟩, rfl, ⟨_, _, _, _, _, rfl, trivial, .inl ⟨rfl, .inl rfl⟩, rfl, rfl⟩⟩
def spec_FirstVanishing_c : ACode := (.seq (.region 0 [q 4 (.asg 0 (.const (.int .i64 0)) 2), q 5 (.asg 0 (.const (.int .i64 0)) 2)] false) (.seq (.seq (.region 1 [q 11 (.mov (t 0)), q 12 (.mov (t 1)), q 13 (.call 0 (.func 126) [(t 11), (t 12), (.const (.int .i64 1)), (.const (.int .i64 40))]), q 6 (.asg 0 (t 13) 2)] false) (.seq (.region 2 [q 14 (.mov (t 6)), q 15 (.bin .neq 2 (t 14) (.const (.int .i64 0)))] false) (.cond (t 15) (.seq (.region 3 [q 16 (.mov (t 6)), q 4 (.asg 0 (.const (.int .i64 0)) 2), q 5 (.asg 0 (t 16) 2)] false) .ret) .skip))) (.seq (.region 4 [q 7 (.asg 0 (.const (.int .i64 0)) 2)] false) (.block 0 (.loop (.seq (.block 1 (.seq (.seq (.region 6 [q 19 (.mov (t 0)), q 20 (.mov (t 7)), q 21 (.mov (t 1)), q 22 (.bslice 0 59 1 [(0, (t 21))]), q 23 (.call 0 (.func 145) [(t 19), (t 20), (t 22)]), q 8 (.asg 0 (t 23) 2)] false) (.seq (.region 7 [q 24 (.mov (t 8)), q 25 (.bin .neq 2 (t 24) (.const (.int .i64 0)))] false) (.cond (t 25) (.seq (.region 8 [q 26 (.mov (t 8)), q 4 (.asg 0 (.const (.int .i64 0)) 2), q 5 (.asg 0 (t 26) 2)] false) .ret) .skip))) (.seq (.region 9 [q 28 (.mov (t 0)), q 29 (.mov (t 7)), q 30 (.mov (t 1)), q 31 (.call 0 (.func 146) [(t 28), (t 29), (t 30)]), q 27 (.mov (t 31)), q 32 (.extract (t 27) 0), q 33 (.extract (t 27) 1), q 9 (.alloc 25), ⟨none, .store 25 (t 9) (t 32), none, []⟩, q 10 (.asg 0 (t 33) 4)] false) (.seq (.seq (.region 10 [q 34 (.mov (t 10)), q 35 (.un .not (t 34))] false) (.cond (t 35) (.seq (.region 11 [q 4 (.asg 0 (.const (.int .i64 0)) 2), q 5 (.asg 0 (.const (.int .i64 3)) 2)] false) .ret) .skip)) (.seq (.region 12 [q 36 (.load 25 (t 9)), q 37 (.build 25 []), q 38 (.bin .eql 25 (t 36) (t 37))] false) (.cond (t 38) (.seq (.region 13 [q 39 (.mov (t 7)), q 4 (.asg 0 (t 39) 2), q 5 (.asg 0 (.const (.int .i64 0)) 2)] false) .ret) .skip)))))) (.region 5 [q 17 (.mov (t 7)), q 18 (.bin .add 2 (t 17) (.const (.int .i64 1))), q 7 (.asg 0 (t 18) 2)] false)))))))
def spec_FirstVanishing_L : Live := [(0, [0, 1]), (1, [0, 1]), (2, [0, 1, 6]), (3, [6]), (4, [0, 1]), (5, [0, 1, 7]), (6, [0, 1, 7]), (7, [0, 1, 7, 8]), (8, [8]), (9, [0, 1, 7]), (10, [0, 1, 7, 9, 10]), (11, []), (12, [0, 1, 7, 9]), (13, [7]), (100015, [0, 1, 6, 15]), (100025, [0, 1, 7, 8, 25]), (100035, [0, 1, 7, 9, 35]), (100038, [0, 1, 7, 38])]
noncomputable def spec_FirstVanishing_l1 (a0 : Int) (a1 : Int) (x13 : Int) : Option (Int ⊕ (Int × Int)) :=
  (Option.bind (spec_l08Code a0 x13 ([a1])) fun r26 => (if (r26 != 0) then (some (.inr (0, r26))) else (Option.bind (spec_l08Sum a0 x13 a1) fun r29 => (if (!r29.2) then (some (.inr (0, 3))) else (if (decide (r29.1 = ((vrep 64 (0 : Int))))) then (some (.inr (x13, 0))) else (some (.inl (IntKind.i64.wrap (x13 + 1)))))))))
noncomputable def spec_FirstVanishing (a0 : Int) (a1 : Int) : Option (Int × Int) :=
  (Option.bind (spec_l04Range a0 a1 1 40) fun r1 => (if (r1 != 0) then (some (0, r1)) else (loopM (fun s : Int => spec_FirstVanishing_l1 a0 a1 s) 0)))
theorem spec_FirstVanishing_ok (a0 : Int) (a1 : Int) (r : (Int × Int)) (h : spec_FirstVanishing a0 a1 = some r) : Den Try.prog 61 [(i6 a0), (i6 a1)] { r := (.tuple [(i6 r.1), (i6 r.2)]) } := by
  refine den_of (rs := [(i6 r.1), (i6 r.2)]) (ac := spec_FirstVanishing_c) (L := spec_FirstVanishing_L) (n := 40) (m := []) (c := Try.f61.body.getD .skip) good Try.func61 (by kernel_rfl) (by kernel_rfl) Try.ntmps61 rfl rfl (by kernel_rfl) rfl rfl ?_
  refine a_st (σ' := ⟨[(0, (i6 a0)), (1, (i6 a1))], []⟩) (by kernel_rfl) ?_
  unfold spec_FirstVanishing_c
  refine sr (vp (i6 0) rfl (vp (i6 0) rfl (nx ⟨[(0, (i6 a0)), (1, (i6 a1))], []⟩ (by kernel_rfl) (a_seq (sr (vp (i6 a0) rfl (vp (i6 a1) rfl ?_)))))))
  obtain ⟨r1, hr2, h⟩ := bind_some h
  refine a_call (args := [(i6 a0), (i6 a1), (i6 1), (i6 40)]) (u := []) (r := (i6 r1)) rfl rfl (spec_l04Range_ok a0 a1 1 40 r1 hr2) rfl (vp (i6 r1) rfl (nx ⟨[(0, (i6 a0)), (1, (i6 a1)), (6, (i6 r1))], []⟩ (by kernel_rfl) (sr (vp (i6 r1) rfl (vp (.bool (r1 != 0)) rfl (nx ⟨[(0, (i6 a0)), (1, (i6 a1)), (6, (i6 r1)), (15, (.bool (r1 != 0)))], []⟩ (by kernel_rfl) ?_))))))
  cases hb3 : (r1 != 0)
  · have h := ite_f hb3 h
    refine a_cond_f rfl (a_skip (a_next (σ' := ⟨[(0, (i6 a0)), (1, (i6 a1))], []⟩) (by kernel_rfl) (sr (vp (i6 0) rfl (nx ⟨[(0, (i6 a0)), (1, (i6 a1)), (7, (i6 0))], []⟩ (by kernel_rfl) (a_block ?_))))))
    refine a_loop (emb := fun (s : Int) => ⟨[(0, (i6 a0)), (1, (i6 a1)), (7, (i6 s))], []⟩) (body := (fun s : Int => spec_FirstVanishing_l1 a0 a1 s)) (G := fun q => some q = some r) h rfl ?_ (by kernel_rfl)
    rintro X23 x13 x24 h hX25
    have h : spec_FirstVanishing_l1 a0 a1 x13 = some x24 := h
    refine a_st (σ' := ⟨[(0, (i6 a0)), (1, (i6 a1)), (7, (i6 x13))], []⟩) (by kernel_rfl) (a_seq (a_block (a_seq (sr (vp (i6 a0) rfl (vp (i6 x13) rfl (vp (i6 a1) rfl (vq (.sl 1 true (([a1]).map (AV.int .i64))) rfl ⟨(Nat.le_of_ble_eq_true rfl), (Nat.le_of_ble_eq_true rfl), (all_cons ⟨(Nat.le_of_ble_eq_true rfl), rfl⟩ all_nil)⟩ ?_))))))))
    obtain ⟨r26, hr27, h⟩ := bind_some h
    refine a_call (args := [(i6 a0), (i6 x13), (.sl 1 true (([a1]).map (AV.int .i64)))]) (u := []) (r := (i6 r26)) rfl rfl (Den.args (spec_l08Code_ok a0 x13 ([a1]) r26 hr27) rfl rfl (.cons (.refl _) (.cons (.refl _) (.cons (.loose _) .nil)))) rfl (vp (i6 r26) rfl (nx ⟨[(0, (i6 a0)), (1, (i6 a1)), (7, (i6 x13)), (8, (i6 r26))], []⟩ (by kernel_rfl) (sr (vp (i6 r26) rfl (vp (.bool (r26 != 0)) rfl (nx ⟨[(0, (i6 a0)), (1, (i6 a1)), (7, (i6 x13)), (8, (i6 r26)), (25, (.bool (r26 != 0)))], []⟩ (by kernel_rfl) ?_))))))
    cases hb28 : (r26 != 0)
    · have h := ite_f hb28 h
      refine a_cond_f rfl (a_skip (a_next (σ' := ⟨[(0, (i6 a0)), (1, (i6 a1)), (7, (i6 x13))], []⟩) (by kernel_rfl) (sr (vp (i6 a0) rfl (vp (i6 x13) rfl (vp (i6 a1) rfl ?_))))))
      obtain ⟨r29, hr30, h⟩ := bind_some h
      refine a_call (args := [(i6 a0), (i6 x13), (i6 a1)]) (u := []) (r := (.tuple [(eA64u8 r29.1), (.bool r29.2)])) rfl rfl (spec_l08Sum_ok a0 x13 a1 r29 hr30) rfl (vp (.tuple [(eA64u8 r29.1), (.bool r29.2)]) rfl (vb (eA64u8 r29.1) rfl rfl (vb (.bool r29.2) rfl rfl (vo 1900 (eA64u8 ((vrep 64 (0 : Int)))) rfl rfl (vs (eA64u8 r29.1) rfl rfl (fun _ => rfl) rfl rfl rfl rfl rfl rfl (vp (.bool r29.2) rfl (nx ⟨[(0, (i6 a0)), (1, (i6 a1)), (7, (i6 x13)), (9, (ow 9)), (10, (.bool r29.2))], [(9, (bk (eA64u8 r29.1)))]⟩ (by kernel_rfl) (a_seq (sr ?_)))))))))
      refine vp (.bool r29.2) rfl (vp (.bool (!r29.2)) rfl (nx ⟨[(0, (i6 a0)), (1, (i6 a1)), (7, (i6 x13)), (9, (ow 9)), (35, (.bool (!r29.2)))], [(9, (bk (eA64u8 r29.1)))]⟩ (by kernel_rfl) ?_))
      cases hb32 : (!r29.2)
      · have h := ite_f hb32 h
        refine a_cond_f rfl (a_skip (a_next (σ' := ⟨[(0, (i6 a0)), (1, (i6 a1)), (7, (i6 x13)), (9, (ow 9))], [(9, (bk (eA64u8 r29.1)))]⟩) (by kernel_rfl) (sr (vl (eA64u8 r29.1) rfl rfl rfl rfl rfl rfl (vq (eA64u8 ((vrep 64 (0 : Int)))) rfl ⟨⟨_, rfl, rfl⟩, all_nil⟩ (vq (.bool ((decide (r29.1 = ((vrep 64 (0 : Int))))))) (eqa_run (f := (AV.int .u8)) (a := r29.1.1) (b := ((vrep 64 (0 : Int))).1) rfl rfl (eqb_vec (fun _ _ => eqb_int _ _) r29.1 ((vrep 64 (0 : Int))))) (cmp_arr (g := 8) (f := (AV.int .u8)) (x := r29.1) (y := ((vrep 64 (0 : Int)))) rfl rfl rfl (fun _ _ => rfl) (fun _ _ => cmp_int rfl)) (nx ⟨[(0, (i6 a0)), (1, (i6 a1)), (7, (i6 x13)), (38, (.bool ((decide (r29.1 = ((vrep 64 (0 : Int))))))))], []⟩ (by kernel_rfl) ?_)))))))
        cases hb34 : (decide (r29.1 = ((vrep 64 (0 : Int)))))
        · have h := ite_f hb34 h
          refine a_cond_f rfl (a_skip (b_norm (a_next (σ' := ⟨[(0, (i6 a0)), (1, (i6 a1)), (7, (i6 x13))], []⟩) (by kernel_rfl) (a_region (vp (i6 x13) rfl (vp (i6 (IntKind.i64.wrap (x13 + 1))) rfl (vp (i6 (IntKind.i64.wrap (x13 + 1))) rfl (a_nil ?_))))))))
          cases h
          exact a_again (by kernel_rfl) hX25
        · have h := ite_t hb34 h
          refine a_cond_t rfl (sr (vp (i6 x13) rfl (vp (i6 x13) rfl (vp (i6 0) rfl (nx _ rfl (a_ret (b_ret (t_ret ?_))))))))
          cases h
          have h := hX25
          refine t_ret (b_ret ?_)
          refine ⟨.inr rfl, ?_⟩
          rw [Try.results61]
          cases h
          exact ⟨_, _, _, _, _, rfl, trivial, .inl ⟨rfl, .inl rfl⟩, rfl, ⟨_, _, _, _, _, rfl, trivial, .inl ⟨rfl, .inl rfl⟩, rfl, rfl⟩⟩
      · have h := ite_t hb32 h
        refine a_cond_t rfl (sr (vp (i6 0) rfl (vp (i6 3) rfl (nx _ rfl (a_ret (t_ret (b_ret (t_ret ?_))))))))
        cases h
        have h := hX25
        refine t_ret (b_ret ?_)
        refine ⟨.inr rfl, ?_⟩
        rw [Try.results61]
        cases h
        exact ⟨_, _, _, _, _, rfl, trivial, .inl ⟨rfl, .inl rfl⟩, rfl, ⟨_, _, _, _, _, rfl, trivial, .inl ⟨rfl, .inl rfl⟩, rfl, rfl⟩⟩
    · have h := ite_t hb28 h
      refine a_cond_t rfl (sr (vp (i6 r26) rfl (vp (i6 0) rfl (vp (i6 r26) rfl (nx _ rfl (a_ret (t_ret (b_ret (t_ret ?_)))))))))
      cases h
      have h := hX25
      refine t_ret (b_ret ?_)
      refine ⟨.inr rfl, ?_⟩
      rw [Try.results61]
      cases h
      exact ⟨_, _, _, _, _, rfl, trivial, .inl ⟨rfl, .inl rfl⟩, rfl, ⟨_, _, _, _, _, rfl, trivial, .inl ⟨rfl, .inl rfl⟩, rfl, rfl⟩⟩
  · have h := ite_t hb3 h
    refine a_cond_t rfl (sr (vp (i6 r1) rfl (vp (i6 0) rfl (vp (i6 r1) rfl (nx _ rfl (a_ret (t_ret ?_)))))))
    refine ⟨.inr rfl, ?_⟩
    rw [Try.results61]
    cases h
    exact ⟨_, _, _, _, _, rfl, trivial, .inl ⟨rfl, .inl rfl⟩, rfl, ⟨_, _, _, _, _, rfl, trivial, .inl ⟨rfl, .inl rfl⟩, rfl, rfl⟩⟩
def impl_isPoly_c1_of_p_c : ACode := (.seq (.region 0 [q 3 (.asg 0 (.const (.bool false)) 4)] false) (.seq (.region 1 [q 4 (.mov (t 0)), q 5 (.conv 5 2 (t 4)), q 6 (.load 2 (t 1)), q 7 (.bin .lss 2 (t 5) (t 6)), q 3 (.asg 0 (t 7) 4)] false) .ret))
def impl_isPoly_c1_of_p_L : Live := [(0, [0, 1]), (1, [0, 1])]
noncomputable def impl_isPoly_c1_of_p (a0 : Int) (a1 : Int) : Option Bool :=
  (some ((decide ((IntKind.i64.wrap a0) < a1))))
theorem impl_isPoly_c1_of_p_ok (a0 : Int) (a1 : Int) (r : Bool) (h : impl_isPoly_c1_of_p a0 a1 = some r) : Den Try.prog 182 [(b8 a0), (.ref (i6 a1) [] [])] { r := (.bool r) } := by
  refine den_of (rs := [(.bool r)]) (ac := impl_isPoly_c1_of_p_c) (L := impl_isPoly_c1_of_p_L) (n := 8) (m := []) (c := Try.f182.body.getD .skip) good Try.func182 (by kernel_rfl) (by kernel_rfl) Try.ntmps182 rfl rfl (by kernel_rfl) rfl rfl ?_
  refine a_st (σ' := ⟨[(0, (b8 a0)), (1, (.ref (i6 a1) [] []))], []⟩) (by kernel_rfl) ?_
  unfold impl_isPoly_c1_of_p_c
  refine sr (vp (.bool false) rfl (nx ⟨[(0, (b8 a0)), (1, (.ref (i6 a1) [] []))], []⟩ (by kernel_rfl) (sr (vp (b8 a0) rfl (vp (i6 (IntKind.i64.wrap a0)) rfl ?_)))))
  have hl1 : LdOk [] (i6 a1) [] 1 false (i6 a1) := (.nil rfl rfl rfl)
  refine vq (i6 a1) (ld_ref (i := ⟨.int .i64, 1, 8, (.int .i64 0)⟩) rfl rfl hl1) hl1.c (vp (.bool ((decide ((IntKind.i64.wrap a0) < a1)))) rfl (vp (.bool ((decide ((IntKind.i64.wrap a0) < a1)))) rfl (nx _ rfl (a_ret ?_))))
  refine ⟨.inr rfl, ?_⟩
  rw [Try.results182]
  cases h
  exact ⟨_, _, _, _, _, rfl, trivial, .inl ⟨rfl, .inl rfl⟩, rfl, rfl⟩
def impl_areAll_byte__c1_of_p_c : ACode := (.seq (.region 0 [q 3 (.asg 0 (.const (.bool false)) 4)] false) (.seq (.region 1 [q 4 (.load 149 (t 1)), q 5 (.mov (t 0)), q 6 (.call 0 (t 4) [(t 5)]), q 7 (.un .not (t 6)), q 3 (.asg 0 (t 7) 4)] false) .ret))
def impl_areAll_byte__c1_of_p_L : Live := [(0, [0, 1]), (1, [0, 1])]
noncomputable def impl_areAll_byte__c1_of_p (a0 : Int) (a1c0 : Int) : Option Bool :=
  (Option.bind (impl_isPoly_c1_of_p a0 a1c0) fun r2 => (some (!r2)))
theorem impl_areAll_byte__c1_of_p_ok (a0 : Int) (a1c0 : Int) (r : Bool) (h : impl_areAll_byte__c1_of_p a0 a1c0 = some r) : Den Try.prog 203 [(b8 a0), (.ref (.clo 182 [] [(.ref (i6 a1c0) [] [])]) [] [])] { r := (.bool r) } := by
  refine den_of (rs := [(.bool r)]) (ac := impl_areAll_byte__c1_of_p_c) (L := impl_areAll_byte__c1_of_p_L) (n := 8) (m := []) (c := Try.f203.body.getD .skip) good Try.func203 (by kernel_rfl) (by kernel_rfl) Try.ntmps203 rfl rfl (by kernel_rfl) rfl rfl ?_
  refine a_st (σ' := ⟨[(0, (b8 a0)), (1, (.ref (.clo 182 [] [(.ref (i6 a1c0) [] [])]) [] []))], []⟩) (by kernel_rfl) ?_
  unfold impl_areAll_byte__c1_of_p_c
  refine sr (vp (.bool false) rfl (nx ⟨[(0, (b8 a0)), (1, (.ref (.clo 182 [] [(.ref (i6 a1c0) [] [])]) [] []))], []⟩ (by kernel_rfl) (sr ?_)))
  have hl1 : LdOk [] (.clo 182 [] [(.ref (i6 a1c0) [] [])]) [] 1 false (.clo 182 [] [(.ref (i6 a1c0) [] [])]) := (.nil rfl rfl rfl)
  refine vq (.clo 182 [] [(.ref (i6 a1c0) [] [])]) (ld_ref (i := ⟨.other, 1, 8, (.raw .nilFunc)⟩) rfl rfl hl1) hl1.c (vp (b8 a0) rfl ?_)
  obtain ⟨r2, hr3, h⟩ := bind_some h
  refine a_call (args := [(b8 a0), (.ref (i6 a1c0) [] [])]) (u := []) (r := (.bool r2)) rfl rfl (impl_isPoly_c1_of_p_ok a0 a1c0 r2 hr3) rfl (vp (.bool (!r2)) rfl (vp (.bool (!r2)) rfl (nx _ rfl (a_ret ?_))))
  refine ⟨.inr rfl, ?_⟩
  rw [Try.results203]
  cases h
  exact ⟨_, _, _, _, _, rfl, trivial, .inl ⟨rfl, .inl rfl⟩, rfl, rfl⟩
def slices_IndexFunc_byte_byte_of_impl_areAll_byte__c1_p_c : ACode := (.seq (.region 0 [q 4 (.asg 0 (.const (.int .i64 0)) 3)] false) (.seq (.seq (.region 1 [q 6 (.mov (t 0)), q 7 (.blt 0 .len [(t 6)] [22]), q 8 (.mov (.const (.int .i64 0)))] false) (.block 0 (.loop (.seq (.region 2 [q 9 (.bin .lss 3 (t 8) (t 7))] false) (.seq (.cond (t 9) .skip (.exit 0)) (.seq (.block 1 (.seq (.region 3 [q 10 (.mov (t 8)), q 5 (.asg 0 (t 10) 3)] false) (.seq (.region 4 [q 11 (.mov (t 1)), q 12 (.mov (t 0)), q 13 (.mov (t 5)), q 14 (.indexAddr 22 (t 12) (t 13)), q 15 (.load 5 (t 14)), q 16 (.call 0 (t 11) [(t 15)])] false) (.cond (t 16) (.seq (.region 5 [q 17 (.mov (t 5)), q 4 (.asg 0 (t 17) 3)] false) .ret) .skip)))) (.region 6 [q 18 (.bin .add 3 (t 8) (.const (.int .i64 1))), q 8 (.mov (t 18))] false))))))) (.seq (.region 7 [q 4 (.asg 0 (.const (.int .i64 (-1))) 3)] false) .ret)))
def slices_IndexFunc_byte_byte_of_impl_areAll_byte__c1_p_L : Live := [(0, [0, 1]), (1, [0, 1]), (2, [0, 1, 7, 8]), (3, [0, 1, 7, 8]), (4, [0, 1, 5, 7, 8]), (5, [5]), (6, [0, 1, 7, 8]), (7, []), (100009, [0, 1, 7, 8, 9]), (100016, [0, 1, 5, 7, 8, 16])]
noncomputable def slices_IndexFunc_byte_byte_of_impl_areAll_byte__c1_p_l1 (a0 : (List Int)) (a1c0c0 : Int) (x33 : Int) : Option (Int ⊕ (Unit ⊕ Int)) :=
  (if (decide (x33 < (a0.length : Int))) then (ifp (0 ≤ x33 ∧ x33 < ((a0.length : Nat) : Int)) ((Option.bind (impl_areAll_byte__c1_of_p (rd a0 x33.toNat) a1c0c0) fun r46 => (if r46 then (some (.inr (.inr x33))) else (some (.inl (IntKind.i64.wrap (x33 + 1)))))))) else (some (.inr (((.inl ()))))))
noncomputable def slices_IndexFunc_byte_byte_of_impl_areAll_byte__c1_p (a0 : (List Int)) (a1c0c0 : Int) : Option Int :=
  (Option.bind (α := (Unit ⊕ Int)) ((loopM (fun s : Int => slices_IndexFunc_byte_byte_of_impl_areAll_byte__c1_p_l1 a0 a1c0c0 s) 0)) fun z => match z with | .inl _ => (some (-1)) | .inr r50 => (some r50))
theorem slices_IndexFunc_byte_byte_of_impl_areAll_byte__c1_p_ok (a0 : (List Int)) (a1c0c0 : Int) (r : Int) (h : slices_IndexFunc_byte_byte_of_impl_areAll_byte__c1_p a0 a1c0c0 = some r) : Den Try.prog 209 [(eSu8 a0), (.clo 203 [] [(.ref (.clo 182 [] [(.ref (i6 a1c0c0) [] [])]) [] [])])] { r := (i6 r) } := by
  refine den_of (rs := [(i6 r)]) (ac := slices_IndexFunc_byte_byte_of_impl_areAll_byte__c1_p_c) (L := slices_IndexFunc_byte_byte_of_impl_areAll_byte__c1_p_L) (n := 19) (m := []) (c := Try.f209.body.getD .skip) good Try.func209 (by kernel_rfl) (by kernel_rfl) Try.ntmps209 rfl rfl (by kernel_rfl) rfl rfl ?_
  refine a_st (σ' := ⟨[(0, (eSu8 a0)), (1, (.clo 203 [] [(.ref (.clo 182 [] [(.ref (i6 a1c0c0) [] [])]) [] [])]))], []⟩) (by kernel_rfl) ?_
  unfold slices_IndexFunc_byte_byte_of_impl_areAll_byte__c1_p_c
  refine sr (vp (i6 0) rfl (nx ⟨[(0, (eSu8 a0)), (1, (.clo 203 [] [(.ref (.clo 182 [] [(.ref (i6 a1c0c0) [] [])]) [] [])]))], []⟩ (by kernel_rfl) ?_))
  obtain ⟨y24, hy25, hk26⟩ := bind_some h
  clear h
  refine a_join (emb := fun (s : Unit) => ⟨[], []⟩) (pre := fun s => (.inl s) = y24) ?_ ?_
  · rintro _ rfl
    have h := hk26
    refine a_st (σ' := ⟨[], []⟩) (by kernel_rfl) (sr (vp (i6 (-1)) rfl (nx _ rfl (a_ret ?_))))
    refine ⟨.inr rfl, ?_⟩
    rw [Try.results209]
    cases h
    exact ⟨_, _, _, _, _, rfl, trivial, .inl ⟨rfl, .inl rfl⟩, rfl, rfl⟩
  · have h := hy25
    refine sr (vp (eSu8 a0) rfl (vq (i6 (a0.length : Int)) (len_run rfl rfl) trivial (vp (i6 0) rfl (nx ⟨[(0, (eSu8 a0)), (1, (.clo 203 [] [(.ref (.clo 182 [] [(.ref (i6 a1c0c0) [] [])]) [] [])])), (7, (i6 (a0.length : Int))), (8, (i6 0))], []⟩ (by kernel_rfl) (a_block ?_)))))
    refine a_loop (emb := fun (s : Int) => ⟨[(0, (eSu8 a0)), (1, (.clo 203 [] [(.ref (.clo 182 [] [(.ref (i6 a1c0c0) [] [])]) [] [])])), (7, (i6 (a0.length : Int))), (8, (i6 s))], []⟩) (body := (fun s : Int => slices_IndexFunc_byte_byte_of_impl_areAll_byte__c1_p_l1 a0 a1c0c0 s)) (G := fun q => some q = some y24) h rfl ?_ (by kernel_rfl)
    rintro X40 x33 x41 h hX42
    have h : slices_IndexFunc_byte_byte_of_impl_areAll_byte__c1_p_l1 a0 a1c0c0 x33 = some x41 := h
    refine a_st (σ' := ⟨[(0, (eSu8 a0)), (1, (.clo 203 [] [(.ref (.clo 182 [] [(.ref (i6 a1c0c0) [] [])]) [] [])])), (7, (i6 (a0.length : Int))), (8, (i6 x33))], []⟩) (by kernel_rfl) (sr (vp (.bool ((decide (x33 < (a0.length : Int))))) rfl (nx ⟨[(0, (eSu8 a0)), (1, (.clo 203 [] [(.ref (.clo 182 [] [(.ref (i6 a1c0c0) [] [])]) [] [])])), (7, (i6 (a0.length : Int))), (8, (i6 x33)), (9, (.bool ((decide (x33 < (a0.length : Int))))))], []⟩ (by kernel_rfl) (a_seq ?_))))
    cases hb43 : (decide (x33 < (a0.length : Int)))
    · have h := ite_f hb43 h
      refine a_cond_f rfl (a_exit (t_exit ?_))
      cases h
      have h := hX42
      refine t_exit (b_exit ?_)
      exact j_leaf () (Option.some.inj h) (by kernel_rfl)
    · have h := ite_t hb43 h
      refine a_cond_t rfl (a_skip (a_next (σ' := ⟨[(0, (eSu8 a0)), (1, (.clo 203 [] [(.ref (.clo 182 [] [(.ref (i6 a1c0c0) [] [])]) [] [])])), (7, (i6 (a0.length : Int))), (8, (i6 x33))], []⟩) (by kernel_rfl) (a_seq (a_block (sr (vp (i6 x33) rfl (vp (i6 x33) rfl (nx ⟨[(0, (eSu8 a0)), (1, (.clo 203 [] [(.ref (.clo 182 [] [(.ref (i6 a1c0c0) [] [])]) [] [])])), (5, (i6 x33)), (7, (i6 (a0.length : Int))), (8, (i6 x33))], []⟩ (by kernel_rfl) (sr ?_)))))))))
      refine vp (.clo 203 [] [(.ref (.clo 182 [] [(.ref (i6 a1c0c0) [] [])]) [] [])]) rfl (vp (eSu8 a0) rfl (vp (i6 x33) rfl ?_))
      obtain ⟨hc44, h⟩ := ifp_some h
      refine vq (.ref (.row 1 (a0.map (AV.int .u8))) [x33.toNat] [x33.toNat * 1]) rfl (lmap hc44) ?_
      have hl45 : LdOk [x33.toNat] (.row 1 (a0.map (AV.int .u8))) [x33.toNat * 1] 1 false (b8 (rd a0 x33.toNat)) := (.row (llt hc44) rfl (.nil rfl rfl rfl))
      refine vq (b8 (rd a0 x33.toNat)) (ld_ref (i := ⟨.int .u8, 1, 1, (.int .u8 0)⟩) rfl rfl hl45) hl45.c ?_
      obtain ⟨r46, hr47, h⟩ := bind_some h
      refine a_call (args := [(b8 (rd a0 x33.toNat)), (.ref (.clo 182 [] [(.ref (i6 a1c0c0) [] [])]) [] [])]) (u := []) (r := (.bool r46)) rfl rfl (impl_areAll_byte__c1_of_p_ok (rd a0 x33.toNat) a1c0c0 r46 hr47) rfl (nx ⟨[(0, (eSu8 a0)), (1, (.clo 203 [] [(.ref (.clo 182 [] [(.ref (i6 a1c0c0) [] [])]) [] [])])), (5, (i6 x33)), (7, (i6 (a0.length : Int))), (8, (i6 x33)), (16, (.bool r46))], []⟩ (by kernel_rfl) ?_)
      cases hb48 : r46
      · have h := ite_f hb48 h
        refine a_cond_f rfl (a_skip (b_norm (a_next (σ' := ⟨[(0, (eSu8 a0)), (1, (.clo 203 [] [(.ref (.clo 182 [] [(.ref (i6 a1c0c0) [] [])]) [] [])])), (7, (i6 (a0.length : Int))), (8, (i6 x33))], []⟩) (by kernel_rfl) (a_region (vp (i6 (IntKind.i64.wrap (x33 + 1))) rfl (vp (i6 (IntKind.i64.wrap (x33 + 1))) rfl (a_nil ?_)))))))
        cases h
        exact a_again (by kernel_rfl) hX42
      · have h := ite_t hb48 h
        refine a_cond_t rfl (sr (vp (i6 x33) rfl (vp (i6 x33) rfl (nx _ rfl (a_ret (b_ret (t_ret ?_)))))))
        cases h
        have h := hX42
        refine t_ret (b_ret (t_ret ?_))
        cases h
        have h := hk26
        refine ⟨.inr rfl, ?_⟩
        rw [Try.results209]
        cases h
        exact ⟨_, _, _, _, _, rfl, trivial, .inl ⟨rfl, .inl rfl⟩, rfl, rfl⟩
def slices_ContainsFunc_byte_byte_of_impl_areAll_byte__c1_p_c : ACode := (.seq (.region 0 [q 4 (.asg 0 (.const (.bool false)) 4)] false) (.seq (.region 1 [q 5 (.mov (t 0)), q 6 (.mov (t 1)), q 7 (.call 0 (.func 209) [(t 5), (t 6)]), q 8 (.bin .geq 3 (t 7) (.const (.int .i64 0))), q 4 (.asg 0 (t 8) 4)] false) .ret))
def slices_ContainsFunc_byte_byte_of_impl_areAll_byte__c1_p_L : Live := [(0, [0, 1]), (1, [0, 1])]
noncomputable def slices_ContainsFunc_byte_byte_of_impl_areAll_byte__c1_p (a0 : (List Int)) (a1c0c0 : Int) : Option Bool :=
  (Option.bind (slices_IndexFunc_byte_byte_of_impl_areAll_byte__c1_p a0 a1c0c0) fun r1 => (some ((decide (r1 ≥ 0)))))
theorem slices_ContainsFunc_byte_byte_of_impl_areAll_byte__c1_p_ok (a0 : (List Int)) (a1c0c0 : Int) (r : Bool) (h : slices_ContainsFunc_byte_byte_of_impl_areAll_byte__c1_p a0 a1c0c0 = some r) : Den Try.prog 202 [(eSu8 a0), (.clo 203 [] [(.ref (.clo 182 [] [(.ref (i6 a1c0c0) [] [])]) [] [])])] { r := (.bool r) } := by
  refine den_of (rs := [(.bool r)]) (ac := slices_ContainsFunc_byte_byte_of_impl_areAll_byte__c1_p_c) (L := slices_ContainsFunc_byte_byte_of_impl_areAll_byte__c1_p_L) (n := 9) (m := []) (c := Try.f202.body.getD .skip) good Try.func202 (by kernel_rfl) (by kernel_rfl) Try.ntmps202 rfl rfl (by kernel_rfl) rfl rfl ?_
  refine a_st (σ' := ⟨[(0, (eSu8 a0)), (1, (.clo 203 [] [(.ref (.clo 182 [] [(.ref (i6 a1c0c0) [] [])]) [] [])]))], []⟩) (by kernel_rfl) ?_
  unfold slices_ContainsFunc_byte_byte_of_impl_areAll_byte__c1_p_c
  refine sr (vp (.bool false) rfl (nx ⟨[(0, (eSu8 a0)), (1, (.clo 203 [] [(.ref (.clo 182 [] [(.ref (i6 a1c0c0) [] [])]) [] [])]))], []⟩ (by kernel_rfl) (sr (vp (eSu8 a0) rfl (vp (.clo 203 [] [(.ref (.clo 182 [] [(.ref (i6 a1c0c0) [] [])]) [] [])]) rfl ?_)))))
  obtain ⟨r1, hr2, h⟩ := bind_some h
  refine a_call (args := [(eSu8 a0), (.clo 203 [] [(.ref (.clo 182 [] [(.ref (i6 a1c0c0) [] [])]) [] [])])]) (u := []) (r := (i6 r1)) rfl rfl (slices_IndexFunc_byte_byte_of_impl_areAll_byte__c1_p_ok a0 a1c0c0 r1 hr2) rfl (vp (.bool ((decide (r1 ≥ 0)))) rfl (vp (.bool ((decide (r1 ≥ 0)))) rfl (nx _ rfl (a_ret ?_))))
  refine ⟨.inr rfl, ?_⟩
  rw [Try.results202]
  cases h
  exact ⟨_, _, _, _, _, rfl, trivial, .inl ⟨rfl, .inl rfl⟩, rfl, rfl⟩
def impl_areAll_byte_of_impl_isPoly_c1_p_c : ACode := (.seq (.region 0 [q 3 (.box 149 (t 1)), q 4 (.asg 0 (.const (.bool false)) 4)] false) (.seq (.region 1 [q 5 (.mov (t 0)), q 6 (.mkfn 203 [] [(t 3)]), q 7 (.call 0 (.func 202) [(t 5), (t 6)]), q 8 (.un .not (t 7)), q 4 (.asg 0 (t 8) 4)] false) .ret))
def impl_areAll_byte_of_impl_isPoly_c1_p_L : Live := [(0, [0, 1]), (1, [0, 3])]
noncomputable def impl_areAll_byte_of_impl_isPoly_c1_p (a0 : (List Int)) (a1c0 : Int) : Option Bool :=
  (Option.bind (slices_ContainsFunc_byte_byte_of_impl_areAll_byte__c1_p a0 a1c0) fun r1 => (some (!r1)))
theorem impl_areAll_byte_of_impl_isPoly_c1_p_ok (a0 : (List Int)) (a1c0 : Int) (r : Bool) (h : impl_areAll_byte_of_impl_isPoly_c1_p a0 a1c0 = some r) : Den Try.prog 181 [(eSu8 a0), (.clo 182 [] [(.ref (i6 a1c0) [] [])])] { r := (.bool r) } := by
  refine den_of (rs := [(.bool r)]) (ac := impl_areAll_byte_of_impl_isPoly_c1_p_c) (L := impl_areAll_byte_of_impl_isPoly_c1_p_L) (n := 9) (m := []) (c := Try.f181.body.getD .skip) good Try.func181 (by kernel_rfl) (by kernel_rfl) Try.ntmps181 rfl rfl (by kernel_rfl) rfl rfl ?_
  refine a_st (σ' := ⟨[(0, (eSu8 a0)), (1, (.clo 182 [] [(.ref (i6 a1c0) [] [])]))], []⟩) (by kernel_rfl) ?_
  unfold impl_areAll_byte_of_impl_isPoly_c1_p_c
  refine sr (vo 1300 (.clo 182 [] [(.ref (i6 a1c0) [] [])]) rfl rfl (vp (.bool false) rfl (nx ⟨[(0, (eSu8 a0)), (3, (ow 3))], [(3, (bk (.clo 182 [] [(.ref (i6 a1c0) [] [])])))]⟩ (by kernel_rfl) (sr (vp (eSu8 a0) rfl (vu (.clo 203 [] [(.ref (.clo 182 [] [(.ref (i6 a1c0) [] [])]) [] [])]) [(3, (bf (.clo 182 [] [(.ref (i6 a1c0) [] [])])))] rfl trivial rfl ?_))))))
  obtain ⟨r1, hr2, h⟩ := bind_some h
  refine a_call (args := [(eSu8 a0), (.clo 203 [] [(.ref (.clo 182 [] [(.ref (i6 a1c0) [] [])]) [] [])])]) (u := []) (r := (.bool r1)) rfl rfl (slices_ContainsFunc_byte_byte_of_impl_areAll_byte__c1_p_ok a0 a1c0 r1 hr2) rfl (vp (.bool (!r1)) rfl (vp (.bool (!r1)) rfl (nx _ rfl (a_ret ?_))))
  refine ⟨.inr rfl, ?_⟩
  rw [Try.results181]
  cases h
  exact ⟨_, _, _, _, _, rfl, trivial, .inl ⟨rfl, .inl rfl⟩, rfl, rfl⟩
def impl_isPoly_c : ACode := (.seq (.region 0 [q 2 (.box 2 (t 0)), q 3 (.box 25 (t 1)), q 4 (.asg 0 (.const (.bool false)) 4)] false) (.seq (.region 1 [q 5 (.slice 25 (t 3) none none none), q 6 (.mkfn 182 [] [(t 2)]), q 7 (.call 0 (.func 181) [(t 5), (t 6)]), q 4 (.asg 0 (t 7) 4)] false) .ret))
def impl_isPoly_L : Live := [(0, [0, 1]), (1, [2, 3])]
noncomputable def impl_isPoly (a0 : Int) (a1 : (Vec Int 64)) : Option Bool :=
  (Option.bind (impl_areAll_byte_of_impl_isPoly_c1_p a1.1 a0) fun r1 => (some r1))
theorem impl_isPoly_ok (a0 : Int) (a1 : (Vec Int 64)) (r : Bool) (h : impl_isPoly a0 a1 = some r) : Den Try.prog 107 [(i6 a0), (eA64u8 a1)] { r := (.bool r) } := by
  refine den_of (rs := [(.bool r)]) (ac := impl_isPoly_c) (L := impl_isPoly_L) (n := 8) (m := []) (c := Try.f107.body.getD .skip) good Try.func107 (by kernel_rfl) (by kernel_rfl) Try.ntmps107 rfl rfl (by kernel_rfl) rfl rfl ?_
  refine a_st (σ' := ⟨[(0, (i6 a0)), (1, (eA64u8 a1))], []⟩) (by kernel_rfl) ?_
  unfold impl_isPoly_c
  refine sr (vo 1200 (i6 a0) rfl rfl (vo 1300 (eA64u8 a1) rfl rfl (vp (.bool false) rfl (nx ⟨[(2, (ow 2)), (3, (ow 3))], [(2, (bk (i6 a0))), (3, (bk (eA64u8 a1)))]⟩ (by kernel_rfl) (sr (vu (.sl 1 true (a1.1.map (AV.int .u8))) [(3, (bf (eA64u8 a1)))] rfl ⟨rfl, trivial, rfl, rfl⟩ rfl (vu (.clo 182 [] [(.ref (i6 a0) [] [])]) [(2, (bf (i6 a0)))] rfl trivial rfl ?_)))))))
  obtain ⟨r1, hr2, h⟩ := bind_some h
  refine a_call (args := [(.sl 1 true (a1.1.map (AV.int .u8))), (.clo 182 [] [(.ref (i6 a0) [] [])])]) (u := []) (r := (.bool r1)) rfl rfl (Den.args (impl_areAll_byte_of_impl_isPoly_c1_p_ok a1.1 a0 r1 hr2) rfl rfl (.cons (.loose _) (.cons (.refl _) .nil))) rfl (vp (.bool r1) rfl (nx _ rfl (a_ret ?_)))
  refine ⟨.inr rfl, ?_⟩
  rw [Try.results107]
  cases h
  exact ⟨_, _, _, _, _, rfl, trivial, .inl ⟨rfl, .inl rfl⟩, rfl, rfl⟩
def impl_polysCode_c1_of_p_c : ACode := (.seq (.region 0 [q 2 (.box 25 (t 0)), q 3 (.asg 0 (.const (.bool false)) 4)] false) (.seq (.region 1 [q 4 (.load 2 (t 1)), q 5 (.load 25 (t 2)), q 6 (.call 0 (.func 107) [(t 4), (t 5)]), q 3 (.asg 0 (t 6) 4)] false) .ret))
def impl_polysCode_c1_of_p_L : Live := [(0, [0, 1]), (1, [1, 2])]
noncomputable def impl_polysCode_c1_of_p (a0 : (Vec Int 64)) (a1 : Int) : Option Bool :=
  (Option.bind (impl_isPoly a1 a0) fun r3 => (some r3))
theorem impl_polysCode_c1_of_p_ok (a0 : (Vec Int 64)) (a1 : Int) (r : Bool) (h : impl_polysCode_c1_of_p a0 a1 = some r) : Den Try.prog 179 [(eA64u8 a0), (.ref (i6 a1) [] [])] { r := (.bool r) } := by
  refine den_of (rs := [(.bool r)]) (ac := impl_polysCode_c1_of_p_c) (L := impl_polysCode_c1_of_p_L) (n := 7) (m := []) (c := Try.f179.body.getD .skip) good Try.func179 (by kernel_rfl) (by kernel_rfl) Try.ntmps179 rfl rfl (by kernel_rfl) rfl rfl ?_
  refine a_st (σ' := ⟨[(0, (eA64u8 a0)), (1, (.ref (i6 a1) [] []))], []⟩) (by kernel_rfl) ?_
  unfold impl_polysCode_c1_of_p_c
  refine sr (vo 1200 (eA64u8 a0) rfl rfl (vp (.bool false) rfl (nx ⟨[(1, (.ref (i6 a1) [] [])), (2, (ow 2))], [(2, (bk (eA64u8 a0)))]⟩ (by kernel_rfl) (sr ?_))))
  have hl1 : LdOk [] (i6 a1) [] 1 false (i6 a1) := (.nil rfl rfl rfl)
  refine vq (i6 a1) (ld_ref (i := ⟨.int .i64, 1, 8, (.int .i64 0)⟩) rfl rfl hl1) hl1.c (vl (eA64u8 a0) rfl rfl rfl rfl rfl rfl ?_)
  obtain ⟨r3, hr4, h⟩ := bind_some h
  refine a_call (args := [(i6 a1), (eA64u8 a0)]) (u := []) (r := (.bool r3)) rfl rfl (impl_isPoly_ok a1 a0 r3 hr4) rfl (vp (.bool r3) rfl (nx _ rfl (a_ret ?_)))
  refine ⟨.inr rfl, ?_⟩
  rw [Try.results179]
  cases h
  exact ⟨_, _, _, _, _, rfl, trivial, .inl ⟨rfl, .inl rfl⟩, rfl, rfl⟩
def impl_areAll_impl_Poly__c1_of_p_c : ACode := (.seq (.region 0 [q 2 (.box 25 (t 0)), q 3 (.asg 0 (.const (.bool false)) 4)] false) (.seq (.region 1 [q 4 (.load 147 (t 1)), q 5 (.load 25 (t 2)), q 6 (.call 0 (t 4) [(t 5)]), q 7 (.un .not (t 6)), q 3 (.asg 0 (t 7) 4)] false) .ret))
def impl_areAll_impl_Poly__c1_of_p_L : Live := [(0, [0, 1]), (1, [1, 2])]
noncomputable def impl_areAll_impl_Poly__c1_of_p (a0 : (Vec Int 64)) (a1c0 : Int) : Option Bool :=
  (Option.bind (impl_polysCode_c1_of_p a0 a1c0) fun r3 => (some (!r3)))
theorem impl_areAll_impl_Poly__c1_of_p_ok (a0 : (Vec Int 64)) (a1c0 : Int) (r : Bool) (h : impl_areAll_impl_Poly__c1_of_p a0 a1c0 = some r) : Den Try.prog 201 [(eA64u8 a0), (.ref (.clo 179 [] [(.ref (i6 a1c0) [] [])]) [] [])] { r := (.bool r) } := by
  refine den_of (rs := [(.bool r)]) (ac := impl_areAll_impl_Poly__c1_of_p_c) (L := impl_areAll_impl_Poly__c1_of_p_L) (n := 8) (m := []) (c := Try.f201.body.getD .skip) good Try.func201 (by kernel_rfl) (by kernel_rfl) Try.ntmps201 rfl rfl (by kernel_rfl) rfl rfl ?_
  refine a_st (σ' := ⟨[(0, (eA64u8 a0)), (1, (.ref (.clo 179 [] [(.ref (i6 a1c0) [] [])]) [] []))], []⟩) (by kernel_rfl) ?_
  unfold impl_areAll_impl_Poly__c1_of_p_c
  refine sr (vo 1200 (eA64u8 a0) rfl rfl (vp (.bool false) rfl (nx ⟨[(1, (.ref (.clo 179 [] [(.ref (i6 a1c0) [] [])]) [] [])), (2, (ow 2))], [(2, (bk (eA64u8 a0)))]⟩ (by kernel_rfl) (sr ?_))))
  have hl1 : LdOk [] (.clo 179 [] [(.ref (i6 a1c0) [] [])]) [] 1 false (.clo 179 [] [(.ref (i6 a1c0) [] [])]) := (.nil rfl rfl rfl)
  refine vq (.clo 179 [] [(.ref (i6 a1c0) [] [])]) (ld_ref (i := ⟨.other, 1, 8, (.raw .nilFunc)⟩) rfl rfl hl1) hl1.c (vl (eA64u8 a0) rfl rfl rfl rfl rfl rfl ?_)
  obtain ⟨r3, hr4, h⟩ := bind_some h
  refine a_call (args := [(eA64u8 a0), (.ref (i6 a1c0) [] [])]) (u := []) (r := (.bool r3)) rfl rfl (impl_polysCode_c1_of_p_ok a0 a1c0 r3 hr4) rfl (vp (.bool (!r3)) rfl (vp (.bool (!r3)) rfl (nx _ rfl (a_ret ?_))))
  refine ⟨.inr rfl, ?_⟩
  rw [Try.results201]
  cases h
  exact ⟨_, _, _, _, _, rfl, trivial, .inl ⟨rfl, .inl rfl⟩, rfl, rfl⟩
def slices_IndexFunc_impl_Poly_impl_Poly_of_impl_areAll_impl_Poly__c1_p_c : ACode := (.seq (.region 0 [q 4 (.asg 0 (.const (.int .i64 0)) 3)] false) (.seq (.seq (.region 1 [q 6 (.mov (t 0)), q 7 (.blt 0 .len [(t 6)] [55]), q 8 (.mov (.const (.int .i64 0)))] false) (.block 0 (.loop (.seq (.region 2 [q 9 (.bin .lss 3 (t 8) (t 7))] false) (.seq (.cond (t 9) .skip (.exit 0)) (.seq (.block 1 (.seq (.region 3 [q 10 (.mov (t 8)), q 5 (.asg 0 (t 10) 3)] false) (.seq (.region 4 [q 11 (.mov (t 1)), q 12 (.mov (t 0)), q 13 (.mov (t 5)), q 14 (.indexAddr 55 (t 12) (t 13)), q 15 (.load 25 (t 14)), q 16 (.call 0 (t 11) [(t 15)])] false) (.cond (t 16) (.seq (.region 5 [q 17 (.mov (t 5)), q 4 (.asg 0 (t 17) 3)] false) .ret) .skip)))) (.region 6 [q 18 (.bin .add 3 (t 8) (.const (.int .i64 1))), q 8 (.mov (t 18))] false))))))) (.seq (.region 7 [q 4 (.asg 0 (.const (.int .i64 (-1))) 3)] false) .ret)))
def slices_IndexFunc_impl_Poly_impl_Poly_of_impl_areAll_impl_Poly__c1_p_L : Live := [(0, [0, 1]), (1, [0, 1]), (2, [0, 1, 7, 8]), (3, [0, 1, 7, 8]), (4, [0, 1, 5, 7, 8]), (5, [5]), (6, [0, 1, 7, 8]), (7, []), (100009, [0, 1, 7, 8, 9]), (100016, [0, 1, 5, 7, 8, 16])]
noncomputable def slices_IndexFunc_impl_Poly_impl_Poly_of_impl_areAll_impl_Poly__c1_p_l1 (a0 : (List (Vec Int 64))) (a1c0c0 : Int) (x33 : Int) : Option (Int ⊕ (Unit ⊕ Int)) :=
  (if (decide (x33 < (a0.length : Int))) then (ifp (0 ≤ x33 ∧ x33 < ((a0.length : Nat) : Int)) ((Option.bind (impl_areAll_impl_Poly__c1_of_p (rd a0 x33.toNat) a1c0c0) fun r46 => (if r46 then (some (.inr (.inr x33))) else (some (.inl (IntKind.i64.wrap (x33 + 1)))))))) else (some (.inr (((.inl ()))))))
noncomputable def slices_IndexFunc_impl_Poly_impl_Poly_of_impl_areAll_impl_Poly__c1_p (a0 : (List (Vec Int 64))) (a1c0c0 : Int) : Option Int :=
  (Option.bind (α := (Unit ⊕ Int)) ((loopM (fun s : Int => slices_IndexFunc_impl_Poly_impl_Poly_of_impl_areAll_impl_Poly__c1_p_l1 a0 a1c0c0 s) 0)) fun z => match z with | .inl _ => (some (-1)) | .inr r50 => (some r50))
theorem slices_IndexFunc_impl_Poly_impl_Poly_of_impl_areAll_impl_Poly__c1_p_ok (a0 : (List (Vec Int 64))) (a1c0c0 : Int) (r : Int) (h : slices_IndexFunc_impl_Poly_impl_Poly_of_impl_areAll_impl_Poly__c1_p a0 a1c0c0 = some r) : Den Try.prog 208 [(eSA64u8 a0), (.clo 201 [] [(.ref (.clo 179 [] [(.ref (i6 a1c0c0) [] [])]) [] [])])] { r := (i6 r) } := by
  refine den_of (rs := [(i6 r)]) (ac := slices_IndexFunc_impl_Poly_impl_Poly_of_impl_areAll_impl_Poly__c1_p_c) (L := slices_IndexFunc_impl_Poly_impl_Poly_of_impl_areAll_impl_Poly__c1_p_L) (n := 19) (m := []) (c := Try.f208.body.getD .skip) good Try.func208 (by kernel_rfl) (by kernel_rfl) Try.ntmps208 rfl rfl (by kernel_rfl) rfl rfl ?_
  refine a_st (σ' := ⟨[(0, (eSA64u8 a0)), (1, (.clo 201 [] [(.ref (.clo 179 [] [(.ref (i6 a1c0c0) [] [])]) [] [])]))], []⟩) (by kernel_rfl) ?_
  unfold slices_IndexFunc_impl_Poly_impl_Poly_of_impl_areAll_impl_Poly__c1_p_c
  refine sr (vp (i6 0) rfl (nx ⟨[(0, (eSA64u8 a0)), (1, (.clo 201 [] [(.ref (.clo 179 [] [(.ref (i6 a1c0c0) [] [])]) [] [])]))], []⟩ (by kernel_rfl) ?_))
  obtain ⟨y24, hy25, hk26⟩ := bind_some h
  clear h
  refine a_join (emb := fun (s : Unit) => ⟨[], []⟩) (pre := fun s => (.inl s) = y24) ?_ ?_
  · rintro _ rfl
    have h := hk26
    refine a_st (σ' := ⟨[], []⟩) (by kernel_rfl) (sr (vp (i6 (-1)) rfl (nx _ rfl (a_ret ?_))))
    refine ⟨.inr rfl, ?_⟩
    rw [Try.results208]
    cases h
    exact ⟨_, _, _, _, _, rfl, trivial, .inl ⟨rfl, .inl rfl⟩, rfl, rfl⟩
  · have h := hy25
    refine sr (vp (eSA64u8 a0) rfl (vq (i6 (a0.length : Int)) (len_run rfl rfl) trivial (vp (i6 0) rfl (nx ⟨[(0, (eSA64u8 a0)), (1, (.clo 201 [] [(.ref (.clo 179 [] [(.ref (i6 a1c0c0) [] [])]) [] [])])), (7, (i6 (a0.length : Int))), (8, (i6 0))], []⟩ (by kernel_rfl) (a_block ?_)))))
    refine a_loop (emb := fun (s : Int) => ⟨[(0, (eSA64u8 a0)), (1, (.clo 201 [] [(.ref (.clo 179 [] [(.ref (i6 a1c0c0) [] [])]) [] [])])), (7, (i6 (a0.length : Int))), (8, (i6 s))], []⟩) (body := (fun s : Int => slices_IndexFunc_impl_Poly_impl_Poly_of_impl_areAll_impl_Poly__c1_p_l1 a0 a1c0c0 s)) (G := fun q => some q = some y24) h rfl ?_ (by kernel_rfl)
    rintro X40 x33 x41 h hX42
    have h : slices_IndexFunc_impl_Poly_impl_Poly_of_impl_areAll_impl_Poly__c1_p_l1 a0 a1c0c0 x33 = some x41 := h
    refine a_st (σ' := ⟨[(0, (eSA64u8 a0)), (1, (.clo 201 [] [(.ref (.clo 179 [] [(.ref (i6 a1c0c0) [] [])]) [] [])])), (7, (i6 (a0.length : Int))), (8, (i6 x33))], []⟩) (by kernel_rfl) (sr (vp (.bool ((decide (x33 < (a0.length : Int))))) rfl (nx ⟨[(0, (eSA64u8 a0)), (1, (.clo 201 [] [(.ref (.clo 179 [] [(.ref (i6 a1c0c0) [] [])]) [] [])])), (7, (i6 (a0.length : Int))), (8, (i6 x33)), (9, (.bool ((decide (x33 < (a0.length : Int))))))], []⟩ (by kernel_rfl) (a_seq ?_))))
    cases hb43 : (decide (x33 < (a0.length : Int)))
    · have h := ite_f hb43 h
      refine a_cond_f rfl (a_exit (t_exit ?_))
      cases h
      have h := hX42
      refine t_exit (b_exit ?_)
      exact j_leaf () (Option.some.inj h) (by kernel_rfl)
    · have h := ite_t hb43 h
      refine a_cond_t rfl (a_skip (a_next (σ' := ⟨[(0, (eSA64u8 a0)), (1, (.clo 201 [] [(.ref (.clo 179 [] [(.ref (i6 a1c0c0) [] [])]) [] [])])), (7, (i6 (a0.length : Int))), (8, (i6 x33))], []⟩) (by kernel_rfl) (a_seq (a_block (sr (vp (i6 x33) rfl (vp (i6 x33) rfl (nx ⟨[(0, (eSA64u8 a0)), (1, (.clo 201 [] [(.ref (.clo 179 [] [(.ref (i6 a1c0c0) [] [])]) [] [])])), (5, (i6 x33)), (7, (i6 (a0.length : Int))), (8, (i6 x33))], []⟩ (by kernel_rfl) (sr ?_)))))))))
      refine vp (.clo 201 [] [(.ref (.clo 179 [] [(.ref (i6 a1c0c0) [] [])]) [] [])]) rfl (vp (eSA64u8 a0) rfl (vp (i6 x33) rfl ?_))
      obtain ⟨hc44, h⟩ := ifp_some h
      refine vq (.ref (.row 64 (a0.map eA64u8)) [x33.toNat] [x33.toNat * 64]) rfl (lmap hc44) ?_
      have hl45 : LdOk [x33.toNat] (.row 64 (a0.map eA64u8)) [x33.toNat * 64] 64 true (eA64u8 (rd a0 x33.toNat)) := (.row (llt hc44) rfl (.nil rfl rfl rfl))
      refine vq (eA64u8 (rd a0 x33.toNat)) (ld_ref (i := ⟨.arr 64 5, 64, 64, (eA64u8 (vrep 64 (0 : Int)))⟩) rfl rfl hl45) hl45.c ?_
      obtain ⟨r46, hr47, h⟩ := bind_some h
      refine a_call (args := [(eA64u8 (rd a0 x33.toNat)), (.ref (.clo 179 [] [(.ref (i6 a1c0c0) [] [])]) [] [])]) (u := []) (r := (.bool r46)) rfl rfl (impl_areAll_impl_Poly__c1_of_p_ok (rd a0 x33.toNat) a1c0c0 r46 hr47) rfl (nx ⟨[(0, (eSA64u8 a0)), (1, (.clo 201 [] [(.ref (.clo 179 [] [(.ref (i6 a1c0c0) [] [])]) [] [])])), (5, (i6 x33)), (7, (i6 (a0.length : Int))), (8, (i6 x33)), (16, (.bool r46))], []⟩ (by kernel_rfl) ?_)
      cases hb48 : r46
      · have h := ite_f hb48 h
        refine a_cond_f rfl (a_skip (b_norm (a_next (σ' := ⟨[(0, (eSA64u8 a0)), (1, (.clo 201 [] [(.ref (.clo 179 [] [(.ref (i6 a1c0c0) [] [])]) [] [])])), (7, (i6 (a0.length : Int))), (8, (i6 x33))], []⟩) (by kernel_rfl) (a_region (vp (i6 (IntKind.i64.wrap (x33 + 1))) rfl (vp (i6 (IntKind.i64.wrap (x33 + 1))) rfl (a_nil ?_)))))))
        cases h
        exact a_again (by kernel_rfl) hX42
      · have h := ite_t hb48 h
        refine a_cond_t rfl (sr (vp (i6 x33) rfl (vp (i6 x33) rfl (nx _ rfl (a_ret (b_ret (t_ret ?_)))))))
        cases h
        have h := hX42
        refine t_ret (b_ret (t_ret ?_))
        cases h
        have h := hk26
        refine ⟨.inr rfl, ?_⟩
        rw [Try.results208]
        cases h
        exact ⟨_, _, _, _, _, rfl, trivial, .inl ⟨rfl, .inl rfl⟩, rfl, rfl⟩
def slices_ContainsFunc_impl_Poly_impl_Poly_of_impl_areAll_impl_Poly__c1_p_c : ACode := (.seq (.region 0 [q 4 (.asg 0 (.const (.bool false)) 4)] false) (.seq (.region 1 [q 5 (.mov (t 0)), q 6 (.mov (t 1)), q 7 (.call 0 (.func 208) [(t 5), (t 6)]), q 8 (.bin .geq 3 (t 7) (.const (.int .i64 0))), q 4 (.asg 0 (t 8) 4)] false) .ret))
def slices_ContainsFunc_impl_Poly_impl_Poly_of_impl_areAll_impl_Poly__c1_p_L : Live := [(0, [0, 1]), (1, [0, 1])]
noncomputable def slices_ContainsFunc_impl_Poly_impl_Poly_of_impl_areAll_impl_Poly__c1_p (a0 : (List (Vec Int 64))) (a1c0c0 : Int) : Option Bool :=
  (Option.bind (slices_IndexFunc_impl_Poly_impl_Poly_of_impl_areAll_impl_Poly__c1_p a0 a1c0c0) fun r1 => (some ((decide (r1 ≥ 0)))))
theorem slices_ContainsFunc_impl_Poly_impl_Poly_of_impl_areAll_impl_Poly__c1_p_ok (a0 : (List (Vec Int 64))) (a1c0c0 : Int) (r : Bool) (h : slices_ContainsFunc_impl_Poly_impl_Poly_of_impl_areAll_impl_Poly__c1_p a0 a1c0c0 = some r) : Den Try.prog 200 [(eSA64u8 a0), (.clo 201 [] [(.ref (.clo 179 [] [(.ref (i6 a1c0c0) [] [])]) [] [])])] { r := (.bool r) } := by
  refine den_of (rs := [(.bool r)]) (ac := slices_ContainsFunc_impl_Poly_impl_Poly_of_impl_areAll_impl_Poly__c1_p_c) (L := slices_ContainsFunc_impl_Poly_impl_Poly_of_impl_areAll_impl_Poly__c1_p_L) (n := 9) (m := []) (c := Try.f200.body.getD .skip) good Try.func200 (by kernel_rfl) (by kernel_rfl) Try.ntmps200 rfl rfl (by kernel_rfl) rfl rfl ?_
  refine a_st (σ' := ⟨[(0, (eSA64u8 a0)), (1, (.clo 201 [] [(.ref (.clo 179 [] [(.ref (i6 a1c0c0) [] [])]) [] [])]))], []⟩) (by kernel_rfl) ?_
  unfold slices_ContainsFunc_impl_Poly_impl_Poly_of_impl_areAll_impl_Poly__c1_p_c
  refine sr (vp (.bool false) rfl (nx ⟨[(0, (eSA64u8 a0)), (1, (.clo 201 [] [(.ref (.clo 179 [] [(.ref (i6 a1c0c0) [] [])]) [] [])]))], []⟩ (by kernel_rfl) (sr (vp (eSA64u8 a0) rfl (vp (.clo 201 [] [(.ref (.clo 179 [] [(.ref (i6 a1c0c0) [] [])]) [] [])]) rfl ?_)))))
  obtain ⟨r1, hr2, h⟩ := bind_some h
  refine a_call (args := [(eSA64u8 a0), (.clo 201 [] [(.ref (.clo 179 [] [(.ref (i6 a1c0c0) [] [])]) [] [])])]) (u := []) (r := (i6 r1)) rfl rfl (slices_IndexFunc_impl_Poly_impl_Poly_of_impl_areAll_impl_Poly__c1_p_ok a0 a1c0c0 r1 hr2) rfl (vp (.bool ((decide (r1 ≥ 0)))) rfl (vp (.bool ((decide (r1 ≥ 0)))) rfl (nx _ rfl (a_ret ?_))))
  refine ⟨.inr rfl, ?_⟩
  rw [Try.results200]
  cases h
  exact ⟨_, _, _, _, _, rfl, trivial, .inl ⟨rfl, .inl rfl⟩, rfl, rfl⟩
def impl_areAll_impl_Poly_of_impl_polysCode_c1_p_c : ACode := (.seq (.region 0 [q 3 (.box 147 (t 1)), q 4 (.asg 0 (.const (.bool false)) 4)] false) (.seq (.region 1 [q 5 (.mov (t 0)), q 6 (.mkfn 201 [] [(t 3)]), q 7 (.call 0 (.func 200) [(t 5), (t 6)]), q 8 (.un .not (t 7)), q 4 (.asg 0 (t 8) 4)] false) .ret))
def impl_areAll_impl_Poly_of_impl_polysCode_c1_p_L : Live := [(0, [0, 1]), (1, [0, 3])]
noncomputable def impl_areAll_impl_Poly_of_impl_polysCode_c1_p (a0 : (List (Vec Int 64))) (a1c0 : Int) : Option Bool :=
  (Option.bind (slices_ContainsFunc_impl_Poly_impl_Poly_of_impl_areAll_impl_Poly__c1_p a0 a1c0) fun r1 => (some (!r1)))
theorem impl_areAll_impl_Poly_of_impl_polysCode_c1_p_ok (a0 : (List (Vec Int 64))) (a1c0 : Int) (r : Bool) (h : impl_areAll_impl_Poly_of_impl_polysCode_c1_p a0 a1c0 = some r) : Den Try.prog 178 [(eSA64u8 a0), (.clo 179 [] [(.ref (i6 a1c0) [] [])])] { r := (.bool r) } := by
  refine den_of (rs := [(.bool r)]) (ac := impl_areAll_impl_Poly_of_impl_polysCode_c1_p_c) (L := impl_areAll_impl_Poly_of_impl_polysCode_c1_p_L) (n := 9) (m := []) (c := Try.f178.body.getD .skip) good Try.func178 (by kernel_rfl) (by kernel_rfl) Try.ntmps178 rfl rfl (by kernel_rfl) rfl rfl ?_
  refine a_st (σ' := ⟨[(0, (eSA64u8 a0)), (1, (.clo 179 [] [(.ref (i6 a1c0) [] [])]))], []⟩) (by kernel_rfl) ?_
  unfold impl_areAll_impl_Poly_of_impl_polysCode_c1_p_c
  refine sr (vo 1300 (.clo 179 [] [(.ref (i6 a1c0) [] [])]) rfl rfl (vp (.bool false) rfl (nx ⟨[(0, (eSA64u8 a0)), (3, (ow 3))], [(3, (bk (.clo 179 [] [(.ref (i6 a1c0) [] [])])))]⟩ (by kernel_rfl) (sr (vp (eSA64u8 a0) rfl (vu (.clo 201 [] [(.ref (.clo 179 [] [(.ref (i6 a1c0) [] [])]) [] [])]) [(3, (bf (.clo 179 [] [(.ref (i6 a1c0) [] [])])))] rfl trivial rfl ?_))))))
  obtain ⟨r1, hr2, h⟩ := bind_some h
  refine a_call (args := [(eSA64u8 a0), (.clo 201 [] [(.ref (.clo 179 [] [(.ref (i6 a1c0) [] [])]) [] [])])]) (u := []) (r := (.bool r1)) rfl rfl (slices_ContainsFunc_impl_Poly_impl_Poly_of_impl_areAll_impl_Poly__c1_p_ok a0 a1c0 r1 hr2) rfl (vp (.bool (!r1)) rfl (vp (.bool (!r1)) rfl (nx _ rfl (a_ret ?_))))
  refine ⟨.inr rfl, ?_⟩
  rw [Try.results178]
  cases h
  exact ⟨_, _, _, _, _, rfl, trivial, .inl ⟨rfl, .inl rfl⟩, rfl, rfl⟩
def impl_polysCode_c : ACode := (.seq (.region 0 [q 2 (.box 2 (t 0)), q 4 (.asg 0 (.const (.int .i64 0)) 2)] false) (.seq (.seq (.region 1 [q 5 (.load 2 (t 2)), q 6 (.call 0 (.func 106) [(t 5)]), q 7 (.un .not (t 6)), q 8 (.mov (t 7)), ⟨some 9, .mov (t 1), some (8, false), []⟩, ⟨some 10, .mkfn 179 [] [(t 2)], some (8, false), []⟩, ⟨some 11, .call 0 (.func 178) [(t 9), (t 10)], some (8, false), []⟩, ⟨some 12, .un .not (t 11), some (8, false), []⟩, q 13 (.pick (t 8) (.const (.bool true)) (t 12))] false) (.cond (t 13) (.seq (.region 2 [q 4 (.asg 0 (.const (.int .i64 1)) 2)] false) .ret) .skip)) (.seq (.region 3 [q 4 (.asg 0 (.const (.int .i64 0)) 2)] false) .ret)))
def impl_polysCode_L : Live := [(0, [0, 1]), (1, [1, 2]), (2, []), (3, []), (100013, [13])]
noncomputable def impl_polysCode (a0 : Int) (a1 : (List (Vec Int 64))) : Option Int :=
  (Option.bind (α := Bool) ((Option.bind (impl_isPrime a0) fun r12 => (if (!r12) then (some true) else (Option.bind (impl_areAll_impl_Poly_of_impl_polysCode_c1_p a1 a0) fun r15 => (some (!r15)))))) fun x7 => (if x7 then (some 1) else (some 0)))
theorem impl_polysCode_ok (a0 : Int) (a1 : (List (Vec Int 64))) (r : Int) (h : impl_polysCode a0 a1 = some r) : Den Try.prog 100 [(i6 a0), (eSA64u8 a1)] { r := (i6 r) } := by
  refine den_of (rs := [(i6 r)]) (ac := impl_polysCode_c) (L := impl_polysCode_L) (n := 14) (m := []) (c := Try.f100.body.getD .skip) good Try.func100 (by kernel_rfl) (by kernel_rfl) Try.ntmps100 rfl rfl (by kernel_rfl) rfl rfl ?_
  refine a_st (σ' := ⟨[(0, (i6 a0)), (1, (eSA64u8 a1))], []⟩) (by kernel_rfl) ?_
  unfold impl_polysCode_c
  refine sr (vo 1200 (i6 a0) rfl rfl (vp (i6 0) rfl (nx ⟨[(1, (eSA64u8 a1)), (2, (ow 2))], [(2, (bk (i6 a0)))]⟩ (by kernel_rfl) (a_seq ?_))))
  obtain ⟨y8, hy9, hk10⟩ := bind_some h
  clear h
  refine a_join (emb := fun (s : Bool) => ⟨[(13, (.bool s))], []⟩) (pre := fun s => s = y8) ?_ ?_
  · rintro x7 rfl
    have h := hk10
    refine a_st (σ' := ⟨[(13, (.bool x7))], []⟩) (by kernel_rfl) ?_
    cases hb17 : x7
    · have h := ite_f hb17 h
      refine a_cond_f rfl (a_skip (a_next (σ' := ⟨[], []⟩) (by kernel_rfl) (sr (vp (i6 0) rfl (nx _ rfl (a_ret ?_))))))
      refine ⟨.inr rfl, ?_⟩
      rw [Try.results100]
      cases h
      exact ⟨_, _, _, _, _, rfl, trivial, .inl ⟨rfl, .inl rfl⟩, rfl, rfl⟩
    · have h := ite_t hb17 h
      refine a_cond_t rfl (sr (vp (i6 1) rfl (nx _ rfl (a_ret (t_ret ?_)))))
      refine ⟨.inr rfl, ?_⟩
      rw [Try.results100]
      cases h
      exact ⟨_, _, _, _, _, rfl, trivial, .inl ⟨rfl, .inl rfl⟩, rfl, rfl⟩
  · have h := hy9
    refine a_region (vl (i6 a0) rfl rfl rfl rfl rfl rfl ?_)
    obtain ⟨r12, hr13, h⟩ := bind_some h
    refine a_call (args := [(i6 a0)]) (u := []) (r := (.bool r12)) rfl rfl (impl_isPrime_ok a0 r12 hr13) rfl (vp (.bool (!r12)) rfl (vp (.bool (!r12)) rfl ?_))
    cases hb14 : (!r12)
    · have h := ite_f hb14 h
      refine gp (eSA64u8 a1) rfl rfl (a_gval rfl (v := (.clo 179 [] [(.ref (i6 a0) [] [])])) (u := [(2, (bf (i6 a0)))]) rfl trivial rfl ?_)
      obtain ⟨r15, hr16, h⟩ := bind_some h
      refine a_gcall rfl (args := [(eSA64u8 a1), (.clo 179 [] [(.ref (i6 a0) [] [])])]) (u := []) (r := (.bool r15)) rfl rfl (impl_areAll_impl_Poly_of_impl_polysCode_c1_p_ok a1 a0 r15 hr16) rfl (gp (.bool (!r15)) rfl rfl (vp (.bool (!r15)) rfl (a_nil ?_)))
      exact j_leaf (!r15) (Option.some.inj h) (by kernel_rfl)
    · have h := ite_t hb14 h
      refine a_gskip rfl (a_gskip rfl (a_gskip rfl (a_gskip rfl (vp (.bool true) rfl (a_nil ?_)))))
      exact j_leaf true (Option.some.inj h) (by kernel_rfl)
def impl_rowOf_c : ACode := (.seq (.region 0 [q 1 (.box 25 (t 0)), q 2 (.asg 1 (.const (.slice none 0 0)) 80)] false) (.seq (.region 1 [q 3 (.asg 2 (.const (.slice none 0 0)) 80)] false) (.seq (.seq (.region 2 [q 6 (.load 25 (t 1)), q 7 (.mov (.const (.int .i64 0)))] false) (.block 0 (.loop (.seq (.region 3 [q 8 (.bin .lss 3 (t 7) (.const (.int .i64 64)))] false) (.seq (.cond (t 8) .skip (.exit 0)) (.seq (.block 1 (.seq (.region 4 [q 9 (.index 25 (t 6) (t 7)), q 5 (.asg 0 (t 9) 5)] false) (.region 5 [q 10 (.mov (t 3)), q 11 (.mov (t 5)), q 12 (.conv 5 2 (t 11)), q 13 (.bslice 0 80 1 [(0, (t 12))]), q 14 (.blt 0 .append [(t 10), (t 13)] [80, 80]), q 3 (.asg 2 (t 14) 80)] false))) (.region 6 [q 15 (.bin .add 3 (t 7) (.const (.int .i64 1))), q 7 (.mov (t 15))] false))))))) (.seq (.region 7 [q 16 (.mov (t 3)), q 17 (.call 0 (.func 180) [(t 16)]), q 2 (.asg 1 (t 17) 80)] false) .ret))))
def impl_rowOf_L : Live := [(0, [0]), (1, [1]), (2, [1, 3]), (3, [3, 6, 7]), (4, [3, 6, 7]), (5, [3, 5, 6, 7]), (6, [3, 6, 7]), (7, [3]), (100008, [3, 6, 7, 8])]
noncomputable def impl_rowOf_l1 (a0 : (Vec Int 64)) (x25 : Int) (x26 : (List Int)) : Option ((Int × (List Int)) ⊕ (List Int)) :=
  (if (decide (x25 < 64)) then (ifp (0 ≤ x25 ∧ x25 < ((64 : Nat) : Int)) ((ifp ((x26.length + ([IntKind.i64.wrap (rd a0.1 x25.toNat)] : List Int).length) * 8 ≤ 140737488355328) ((some (.inl ((IntKind.i64.wrap (x25 + 1), (x26 ++ ([IntKind.i64.wrap (rd a0.1 x25.toNat)])))))))))) else (some (.inr x26)))
noncomputable def impl_rowOf (a0 : (Vec Int 64)) : Option (List Int) :=
  (Option.bind (α := (List Int)) ((loopM (fun s : (Int × (List Int)) => impl_rowOf_l1 a0 s.1 s.2) (0, []))) fun x17 => (Option.bind (impl_row_trimmed x17) fun r37 => (some r37)))
theorem impl_rowOf_ok (a0 : (Vec Int 64)) (r : (List Int)) (h : impl_rowOf a0 = some r) : Den Try.prog 103 [(eA64u8 a0)] { r := (eSi64 r) } := by
  refine den_of (rs := [(eSi64 r)]) (ac := impl_rowOf_c) (L := impl_rowOf_L) (n := 18) (m := [(2, 1), (3, 2)]) (c := Try.f103.body.getD .skip) good Try.func103 (by kernel_rfl) (by kernel_rfl) Try.ntmps103 rfl rfl (by kernel_rfl) rfl rfl ?_
  refine a_st (σ' := ⟨[(0, (eA64u8 a0))], []⟩) (by kernel_rfl) ?_
  unfold impl_rowOf_c
  refine sr (vo 1100 (eA64u8 a0) rfl rfl (vp (eSi64 ([])) rfl (nx ⟨[(1, (ow 1))], [(1, (bk (eA64u8 a0)))]⟩ (by kernel_rfl) (sr (vu (.osl 1300) [(1300, (bk (.row 1 (([]).map (AV.int .i64)))))] rfl trivial rfl (nx ⟨[(1, (ow 1)), (3, (.osl 3))], [(1, (bk (eA64u8 a0))), (3, (bk (.row 1 (([]).map (AV.int .i64)))))]⟩ (by kernel_rfl) ?_))))))
  obtain ⟨y18, hy19, hk20⟩ := bind_some h
  clear h
  refine a_join (emb := fun (s : (List Int)) => ⟨[(3, (.osl 3))], [(3, (bk (.row 1 (s.map (AV.int .i64)))))]⟩) (pre := fun s => s = y18) ?_ ?_
  · rintro x17 rfl
    have h := hk20
    refine a_st (σ' := ⟨[(3, (.osl 3))], [(3, (bk (.row 1 (x17.map (AV.int .i64)))))]⟩) (by kernel_rfl) (sr (vp (.osl 3) rfl ?_))
    obtain ⟨r37, hr38, h⟩ := bind_some h
    refine a_call (args := [(eSi64 x17)]) (u := [(3, (bf (.row 1 (x17.map (AV.int .i64)))))]) (r := (eSi64 r37)) rfl rfl (impl_row_trimmed_ok x17 r37 hr38) rfl (vp (eSi64 r37) rfl (nx _ rfl (a_ret ?_)))
    refine ⟨.inr rfl, ?_⟩
    rw [Try.results103]
    cases h
    exact ⟨_, _, _, _, _, rfl, trivial, .inl ⟨rfl, .inl rfl⟩, rfl, rfl⟩
  · have h := hy19
    refine sr (vl (eA64u8 a0) rfl rfl rfl rfl rfl rfl (vp (i6 0) rfl (nx ⟨[(3, (.osl 3)), (6, (eA64u8 a0)), (7, (i6 0))], [(3, (bk (.row 1 (([]).map (AV.int .i64)))))]⟩ (by kernel_rfl) (a_block ?_))))
    refine a_loop (emb := fun (s : (Int × (List Int))) => ⟨[(3, (.osl 3)), (6, (eA64u8 a0)), (7, (i6 s.1))], [(3, (bk (.row 1 (s.2.map (AV.int .i64)))))]⟩) (body := (fun s : (Int × (List Int)) => impl_rowOf_l1 a0 s.1 s.2)) (G := fun q => some q = some y18) h rfl ?_ (by kernel_rfl)
    rintro X30 ⟨x25, x26⟩ x31 h hX32
    have h : impl_rowOf_l1 a0 x25 x26 = some x31 := h
    refine a_st (σ' := ⟨[(3, (.osl 3)), (6, (eA64u8 a0)), (7, (i6 x25))], [(3, (bk (.row 1 (x26.map (AV.int .i64)))))]⟩) (by kernel_rfl) (sr (vp (.bool ((decide (x25 < 64)))) rfl (nx ⟨[(3, (.osl 3)), (6, (eA64u8 a0)), (7, (i6 x25)), (8, (.bool ((decide (x25 < 64)))))], [(3, (bk (.row 1 (x26.map (AV.int .i64)))))]⟩ (by kernel_rfl) (a_seq ?_))))
    cases hb33 : (decide (x25 < 64))
    · have h := ite_f hb33 h
      refine a_cond_f rfl (a_exit (t_exit ?_))
      cases h
      have h := hX32
      refine t_exit (b_exit ?_)
      exact j_leaf x26 (Option.some.inj h) (by kernel_rfl)
    · have h := ite_t hb33 h
      refine a_cond_t rfl (a_skip (a_next (σ' := ⟨[(3, (.osl 3)), (6, (eA64u8 a0)), (7, (i6 x25))], [(3, (bk (.row 1 (x26.map (AV.int .i64)))))]⟩) (by kernel_rfl) (a_seq (a_block (sr ?_)))))
      obtain ⟨hc34, h⟩ := ifp_some h
      refine vq (b8 (rd a0.1 x25.toNat)) (ix_run (i := ⟨.int .u8, 1, 1, (.int .u8 0)⟩) (f := (AV.int .u8)) rfl rfl rfl rfl (vlt a0 hc34)) ⟨hc34.1, hc34.2, rfl, rfl, rfl, rfl⟩ (vp (b8 (rd a0.1 x25.toNat)) rfl (nx ⟨[(3, (.osl 3)), (5, (b8 (rd a0.1 x25.toNat))), (6, (eA64u8 a0)), (7, (i6 x25))], [(3, (bk (.row 1 (x26.map (AV.int .i64)))))]⟩ (by kernel_rfl) (a_region (vp (.osl 3) rfl (vp (b8 (rd a0.1 x25.toNat)) rfl (vp (i6 (IntKind.i64.wrap (rd a0.1 x25.toNat))) rfl (vq (.sl 1 true (([IntKind.i64.wrap (rd a0.1 x25.toNat)]).map (AV.int .i64))) rfl ⟨(Nat.le_of_ble_eq_true rfl), (Nat.le_of_ble_eq_true rfl), (all_cons ⟨(Nat.le_of_ble_eq_true rfl), rfl⟩ all_nil)⟩ ?_)))))))
      obtain ⟨hc35, h⟩ := ifp_some h
      refine vu (.osl 2400) [(2400, (bk (.row 1 (((x26 ++ ([IntKind.i64.wrap (rd a0.1 x25.toNat)]))).map (AV.int .i64))))), (3, none)] (app_run (i := ⟨.int .i64, 1, 8, (.int .i64 0)⟩) (f := (AV.int .i64)) (l := x26) (l2 := [IntKind.i64.wrap (rd a0.1 x25.toNat)]) rfl rfl rfl rfl (fun _ => rfl) rfl rfl) (app_c (f := (AV.int .i64)) (s := 1) (sz := 1) (by' := 8) (u := []) (id := 3) hc35 (.inr rfl) rfl rfl rfl) rfl (vp (.osl 2400) rfl (a_nil (b_norm (a_next (σ' := ⟨[(3, (.osl 3)), (6, (eA64u8 a0)), (7, (i6 x25))], [(3, (bk (.row 1 (((x26 ++ ([IntKind.i64.wrap (rd a0.1 x25.toNat)]))).map (AV.int .i64)))))]⟩) (by kernel_rfl) (a_region (vp (i6 (IntKind.i64.wrap (x25 + 1))) rfl (vp (i6 (IntKind.i64.wrap (x25 + 1))) rfl (a_nil ?_))))))))
      cases h
      exact a_again (by kernel_rfl) hX32
def impl_isNumber_c : ACode := (.seq (.region 0 [q 2 (.asg 0 (.const (.bool false)) 4)] false) (.seq (.region 1 [q 3 (.mov (t 0)), q 4 (.call 0 (.func 139) [(t 3), (.const (.int .i64 0)), (.const (.int .i64 1000000000000))]), q 2 (.asg 0 (t 4) 4)] false) .ret))
def impl_isNumber_L : Live := [(0, [0]), (1, [0])]
noncomputable def impl_isNumber (a0 : Int) : Option Bool :=
  (Option.bind (impl_within a0 0 1000000000000) fun r1 => (some r1))
theorem impl_isNumber_ok (a0 : Int) (r : Bool) (h : impl_isNumber a0 = some r) : Den Try.prog 118 [(i6 a0)] { r := (.bool r) } := by
  refine den_of (rs := [(.bool r)]) (ac := impl_isNumber_c) (L := impl_isNumber_L) (n := 5) (m := []) (c := Try.f118.body.getD .skip) good Try.func118 (by kernel_rfl) (by kernel_rfl) Try.ntmps118 rfl rfl (by kernel_rfl) rfl rfl ?_
  refine a_st (σ' := ⟨[(0, (i6 a0))], []⟩) (by kernel_rfl) ?_
  unfold impl_isNumber_c
  refine sr (vp (.bool false) rfl (nx ⟨[(0, (i6 a0))], []⟩ (by kernel_rfl) (sr (vp (i6 a0) rfl ?_))))
  obtain ⟨r1, hr2, h⟩ := bind_some h
  refine a_call (args := [(i6 a0), (i6 0), (i6 1000000000000)]) (u := []) (r := (.bool r1)) rfl rfl (impl_within_ok a0 0 1000000000000 r1 hr2) rfl (vp (.bool r1) rfl (nx _ rfl (a_ret ?_)))
  refine ⟨.inr rfl, ?_⟩
  rw [Try.results118]
  cases h
  exact ⟨_, _, _, _, _, rfl, trivial, .inl ⟨rfl, .inl rfl⟩, rfl, rfl⟩
def slices_Clone_impl_row_int64_fresh_c : ACode := (.seq (.region 0 [q 2 (.asg 2 (.const (.slice none 0 0)) 80)] false) (.seq (.seq (.region 1 [q 3 (.mov (t 0)), q 4 (.bin .eql 80 (t 3) (.const (.slice none 0 0)))] false) (.cond (t 4) (.seq (.region 2 [q 2 (.asg 2 (.const (.slice none 0 0)) 80)] false) .ret) .skip)) (.seq (.region 3 [q 5 (.bslice 0 80 0 []), q 6 (.mov (t 0)), q 7 (.blt 0 .append [(t 5), (t 6)] [80, 80]), q 2 (.asg 2 (t 7) 80)] false) .ret)))
def slices_Clone_impl_row_int64_fresh_L : Live := [(0, [0]), (1, [0]), (2, []), (3, [0]), (100004, [0, 4])]
noncomputable def slices_Clone_impl_row_int64_fresh (a0 : (List Int)) : Option (List Int) :=
  (ifc (a0 = [] → ((some ([]))) = ((ifp ((([] : List Int).length + a0.length) * 8 ≤ 140737488355328) ((some ((([] : List Int) ++ a0))))))) ((ifp ((([] : List Int).length + a0.length) * 8 ≤ 140737488355328) ((some ((([] : List Int) ++ a0)))))))
theorem slices_Clone_impl_row_int64_fresh_ok (a0 : (List Int)) (r : (List Int)) (h : slices_Clone_impl_row_int64_fresh a0 = some r) : Den Try.prog 184 [(eSi64 a0)] { r := (.osl 2000000), ms := [], fs := [(1, r.map (AV.int .i64))] } := by
  refine den_ofX (rs := [(.osl 2000000)]) (ac := slices_Clone_impl_row_int64_fresh_c) (L := slices_Clone_impl_row_int64_fresh_L) (n := 8) (m := [(2, 2)]) (c := Try.f184.body.getD .skip) good Try.func184 (by kernel_rfl) (by kernel_rfl) Try.ntmps184 rfl rfl (by kernel_rfl) rfl ?_
  refine a_st (σ' := ⟨[(0, (eSi64 a0))], []⟩) (by kernel_rfl) ?_
  unfold slices_Clone_impl_row_int64_fresh_c
  refine sr (vu (.osl 1200) [(1200, (bk (.row 1 (([]).map (AV.int .i64)))))] rfl trivial rfl (nx ⟨[(0, (eSi64 a0))], []⟩ (by kernel_rfl) (a_seq (sr (vp (eSi64 a0) rfl ?_)))))
  obtain ⟨hq2, h⟩ := ifc_some h
  refine a_split (v := .bool true) (v' := .bool false) rfl rfl (fun hn3 => ?_) ?_
  · have h := (hq2 (List.map_eq_nil_iff.1 hn3)).trans h
    refine nx ⟨[(0, (eSi64 a0)), (4, (.bool true))], []⟩ (by kernel_rfl) (a_cond_t rfl (sr (vu (.osl 1200) [(1200, (bk (.row 1 (([]).map (AV.int .i64)))))] rfl trivial rfl (nx _ rfl (a_ret (t_ret ?_))))))
    refine ⟨.inr rfl, ?_⟩
    rw [Try.results184]
    cases h
    exact ⟨[some 1200], ⟨_, _, _, _, _, rfl, trivial, rfl, .inr (.inl ⟨_, _, _, _, _, rfl, rfl, rfl, rfl, rfl, rfl, ⟨rfl, rfl, rfl⟩⟩)⟩, rfl, rfl⟩
  · skip
    refine nx ⟨[(0, (eSi64 a0)), (4, (.bool false))], []⟩ (by kernel_rfl) (a_cond_f rfl (a_skip (a_next (σ' := ⟨[(0, (eSi64 a0))], []⟩) (by kernel_rfl) (sr (vq (.sl 1 true (([]).map (AV.int .i64))) rfl ⟨(Nat.le_of_ble_eq_true rfl), (Nat.le_of_ble_eq_true rfl), all_nil⟩ (vp (eSi64 a0) rfl ?_))))))
    obtain ⟨hc1, h⟩ := ifp_some h
    refine vu (.osl 1700) [(1700, (bk (.row 1 (((([] : List Int) ++ a0)).map (AV.int .i64)))))] (appt_run (i := ⟨.int .i64, 1, 8, (.int .i64 0)⟩) (f := (AV.int .i64)) (l := []) (l2 := a0) rfl rfl rfl rfl (fun _ => rfl) rfl) (appt_c (f := (AV.int .i64)) (s := 1) (sz := 1) (sz' := 1) (by' := 8) hc1 (.inl rfl) (.inl rfl) (.inr rfl) rfl rfl) rfl (vp (.osl 1700) rfl (nx _ rfl (a_ret ?_)))
    refine ⟨.inr rfl, ?_⟩
    rw [Try.results184]
    cases h
    exact ⟨[some 1700], ⟨_, _, _, _, _, rfl, trivial, rfl, .inr (.inl ⟨_, _, _, _, _, rfl, rfl, rfl, rfl, rfl, rfl, ⟨rfl, rfl, rfl⟩⟩)⟩, rfl, rfl⟩
def impl_row_lead_c : ACode := (.seq (.region 0 [q 2 (.asg 0 (.const (.int .i64 0)) 2)] false) (.seq (.seq (.region 1 [q 3 (.mov (t 0)), q 4 (.blt 0 .len [(t 3)] [80]), q 5 (.bin .eql 3 (t 4) (.const (.int .i64 0)))] false) (.cond (t 5) (.seq (.region 2 [q 2 (.asg 0 (.const (.int .i64 0)) 2)] false) .ret) .skip)) (.seq (.region 3 [q 6 (.mov (t 0)), q 7 (.mov (t 0)), q 8 (.blt 0 .len [(t 7)] [80]), q 9 (.bin .sub 3 (t 8) (.const (.int .i64 1))), q 10 (.indexAddr 80 (t 6) (t 9)), q 11 (.load 2 (t 10)), q 2 (.asg 0 (t 11) 2)] false) .ret)))
def impl_row_lead_L : Live := [(0, [0]), (1, [0]), (2, []), (3, [0]), (100005, [0, 5])]
noncomputable def impl_row_lead (a0 : (List Int)) : Option Int :=
  (if ((a0.length : Int) == 0) then (some 0) else (ifp (0 ≤ IntKind.i64.wrap ((a0.length : Int) - 1) ∧ IntKind.i64.wrap ((a0.length : Int) - 1) < ((a0.length : Nat) : Int)) ((some ((rd a0 (IntKind.i64.wrap ((a0.length : Int) - 1)).toNat))))))
theorem impl_row_lead_ok (a0 : (List Int)) (r : Int) (h : impl_row_lead a0 = some r) : Den Try.prog 186 [(eSi64 a0)] { r := (i6 r) } := by
  refine den_of (rs := [(i6 r)]) (ac := impl_row_lead_c) (L := impl_row_lead_L) (n := 12) (m := []) (c := Try.f186.body.getD .skip) good Try.func186 (by kernel_rfl) (by kernel_rfl) Try.ntmps186 rfl rfl (by kernel_rfl) rfl rfl ?_
  refine a_st (σ' := ⟨[(0, (eSi64 a0))], []⟩) (by kernel_rfl) ?_
  unfold impl_row_lead_c
  refine sr (vp (i6 0) rfl (nx ⟨[(0, (eSi64 a0))], []⟩ (by kernel_rfl) (a_seq (sr (vp (eSi64 a0) rfl (vq (i6 (a0.length : Int)) (len_run rfl rfl) trivial (vp (.bool (((a0.length : Int) == 0))) rfl (nx ⟨[(0, (eSi64 a0)), (5, (.bool (((a0.length : Int) == 0))))], []⟩ (by kernel_rfl) ?_))))))))
  cases hb1 : ((a0.length : Int) == 0)
  · have h := ite_f hb1 h
    refine a_cond_f rfl (a_skip (a_next (σ' := ⟨[(0, (eSi64 a0))], []⟩) (by kernel_rfl) (sr (vp (eSi64 a0) rfl (vp (eSi64 a0) rfl (vq (i6 (a0.length : Int)) (len_run rfl rfl) trivial (vp (i6 (IntKind.i64.wrap ((a0.length : Int) - 1))) rfl ?_)))))))
    obtain ⟨hc2, h⟩ := ifp_some h
    refine vq (.ref (.row 1 (a0.map (AV.int .i64))) [(IntKind.i64.wrap ((a0.length : Int) - 1)).toNat] [(IntKind.i64.wrap ((a0.length : Int) - 1)).toNat * 1]) rfl (lmap hc2) ?_
    have hl3 : LdOk [(IntKind.i64.wrap ((a0.length : Int) - 1)).toNat] (.row 1 (a0.map (AV.int .i64))) [(IntKind.i64.wrap ((a0.length : Int) - 1)).toNat * 1] 1 false (i6 ((rd a0 (IntKind.i64.wrap ((a0.length : Int) - 1)).toNat))) := (.row (llt hc2) rfl (.nil rfl rfl rfl))
    refine vq (i6 ((rd a0 (IntKind.i64.wrap ((a0.length : Int) - 1)).toNat))) (ld_ref (i := ⟨.int .i64, 1, 8, (.int .i64 0)⟩) rfl rfl hl3) hl3.c (vp (i6 ((rd a0 (IntKind.i64.wrap ((a0.length : Int) - 1)).toNat))) rfl (nx _ rfl (a_ret ?_)))
    refine ⟨.inr rfl, ?_⟩
    rw [Try.results186]
    cases h
    exact ⟨_, _, _, _, _, rfl, trivial, .inl ⟨rfl, .inl rfl⟩, rfl, rfl⟩
  · have h := ite_t hb1 h
    refine a_cond_t rfl (sr (vp (i6 0) rfl (nx _ rfl (a_ret (t_ret ?_)))))
    refine ⟨.inr rfl, ?_⟩
    rw [Try.results186]
    cases h
    exact ⟨_, _, _, _, _, rfl, trivial, .inl ⟨rfl, .inl rfl⟩, rfl, rfl⟩
end Go.Proofs.Ytkbnegemdlnncaa
