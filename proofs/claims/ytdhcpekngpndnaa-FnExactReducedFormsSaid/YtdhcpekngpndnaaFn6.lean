/- Functions of the program: plain Lean functions, and that the program computes them. Printed by gen.py. -/
import Derived.Test.YtdhcpekngpndnaaFnT
import Derived.Test.YtdhcpekngpndnaaFn4
import Derived.Test.YtdhcpekngpndnaaFn5
namespace Go.Proofs.Ytdhcpekngpndnaa
open Go.Abs Go.Proofs
set_option linter.unusedSimpArgs false
set_option linter.unusedVariables false
set_option maxHeartbeats 16000000
attribute [local irreducible] Abs.acode Abs.aops Abs.aopsT Abs.thenK Abs.blockK

def impl_curve_forms_c : ACode := (.seq (.region 0 [q 1 (.box 68 (t 0)), q 2 (.asg 1 (.const (.slice none 0 0)) 64)] false) (.seq (.region 1 [q 3 (.asg 2 (.const (.slice none 0 0)) 64)] false) (.seq (.seq (.region 2 [q 9 (.load 68 (t 1)), q 10 (.call 0 (.func 129) [(t 9)]), q 11 (.bin .add 2 (t 10) (.const (.int .i64 1))), q 12 (.mov (.const (.int .i64 0)))] false) (.block 0 (.loop (.seq (.region 3 [q 13 (.bin .lss 2 (t 12) (t 11))] false) (.seq (.cond (t 13) .skip (.exit 0)) (.seq (.block 1 (.seq (.region 4 [q 14 (.mov (t 12)), q 4 (.asg 0 (t 14) 2)] false) (.seq (.region 5 [q 15 (.fieldAddr 68 (t 1) 0), q 16 (.load 65 (t 15)), q 17 (.mov (t 4)), q 18 (.call 0 (.func 107) [(t 16), (t 17)]), q 19 (.blt 0 .len [(t 18)] [82]), q 20 (.mov (.const (.int .i64 0)))] false) (.block 2 (.loop (.seq (.region 6 [q 21 (.bin .lss 3 (t 20) (t 19))] false) (.seq (.cond (t 21) .skip (.exit 2)) (.seq (.block 3 (.seq (.region 7 [q 22 (.indexAddr 82 (t 18) (t 20)), q 23 (.load 66 (t 22)), q 6 (.asg 1 (t 23) 66)] false) (.seq (.region 8 [q 24 (.fieldAddr 68 (t 1) 0), q 25 (.load 65 (t 24)), q 26 (.mov (t 4)), q 27 (.call 0 (.func 73) [(t 25), (t 26), (.const (.int .i64 1099511627776))]), q 28 (.mov (.const (.int .i64 0)))] false) (.block 4 (.loop (.seq (.region 9 [q 29 (.bin .lss 2 (t 28) (t 27))] false) (.seq (.cond (t 29) .skip (.exit 4)) (.seq (.block 5 (.seq (.region 10 [q 30 (.mov (t 28)), q 7 (.asg 0 (t 30) 2)] false) (.seq (.region 11 [q 31 (.mov (t 6)), q 32 (.fieldAddr 68 (t 1) 0), q 33 (.load 65 (t 32)), q 34 (.mov (t 7)), q 35 (.call 0 (.func 72) [(t 33), (t 34)]), q 36 (.build 72 [(0, (t 31)), (1, (t 35))]), q 8 (.alloc 72), ⟨none, .store 72 (t 8) (t 36), none, []⟩] false) (.seq (.region 12 [q 37 (.load 68 (t 1)), q 38 (.load 72 (t 8)), q 39 (.call 0 (.func 130) [(t 37), (t 38)])] false) (.cond (t 39) (.region 13 [q 40 (.mov (t 3)), q 41 (.load 72 (t 8)), q 42 (.bslice 0 64 1 [(0, (t 41))]), q 43 (.blt 0 .append [(t 40), (t 42)] [64, 64]), q 3 (.asg 2 (t 43) 64)] false) .skip))))) (.region 14 [q 44 (.bin .add 2 (t 28) (.const (.int .i64 1))), q 28 (.mov (t 44))] false))))))))) (.region 15 [q 45 (.bin .add 3 (t 20) (.const (.int .i64 1))), q 20 (.mov (t 45))] false))))))))) (.region 16 [q 46 (.bin .add 2 (t 12) (.const (.int .i64 1))), q 12 (.mov (t 46))] false))))))) (.seq (.region 17 [q 47 (.mov (t 3)), q 2 (.asg 1 (t 47) 64)] false) .ret))))
def impl_curve_forms_L : Live := [(0, [0]), (1, [1]), (2, [1, 3]), (3, [1, 3, 11, 12]), (4, [1, 3, 11, 12]), (5, [1, 3, 4, 11, 12]), (6, [1, 3, 4, 11, 12, 18, 19, 20]), (7, [1, 3, 4, 11, 12, 18, 19, 20]), (8, [1, 3, 4, 6, 11, 12, 18, 19, 20]), (9, [1, 3, 4, 6, 11, 12, 18, 19, 20, 27, 28]), (10, [1, 3, 4, 6, 11, 12, 18, 19, 20, 27, 28]), (11, [1, 3, 4, 6, 7, 11, 12, 18, 19, 20, 27, 28]), (12, [1, 3, 4, 6, 8, 11, 12, 18, 19, 20, 27, 28]), (13, [1, 3, 4, 6, 8, 11, 12, 18, 19, 20, 27, 28]), (14, [1, 3, 4, 6, 11, 12, 18, 19, 20, 27, 28]), (15, [1, 3, 4, 11, 12, 18, 19, 20]), (16, [1, 3, 11, 12]), (17, [3]), (100013, [1, 3, 11, 12, 13]), (100021, [1, 3, 4, 11, 12, 18, 19, 20, 21]), (100029, [1, 3, 4, 6, 11, 12, 18, 19, 20, 27, 28, 29]), (100039, [1, 3, 4, 6, 8, 11, 12, 18, 19, 20, 27, 28, 39])]
noncomputable def impl_curve_forms_l3 (r6874 : Int) (a0 : (Int × (List Int))) (r6389 : (List (List Int))) (x6580 : Int) (x6903 : Int) (x6904 : (List ((List Int) × (List Int)))) : Option ((Int × (List ((List Int) × (List Int)))) ⊕ (List ((List Int) × (List Int)))) :=
  (if (decide (x6903 < r6874)) then (Option.bind (α := (List ((List Int) × (List Int)))) ((Option.bind (impl_prime_numbered a0.1 x6903) fun r6952 => (Option.bind (impl_curve_isForm a0 (((rd r6389 x6580.toNat), r6952))) fun r6957 => (if r6957 then (ifp ((x6904.length + ([((rd r6389 x6580.toNat), r6952)] : List ((List Int) × (List Int))).length) * 48 ≤ 140737488355328) ((some ((x6904 ++ ([((rd r6389 x6580.toNat), r6952)])))))) else (some x6904))))) fun x6947 => (some (.inl ((IntKind.i64.wrap (x6903 + 1), x6947))))) else (some (.inr x6904)))
noncomputable def impl_curve_forms_l2 (r6389 : (List (List Int))) (a0 : (Int × (List Int))) (x4645 : Int) (x6580 : Int) (x6581 : (List ((List Int) × (List Int)))) : Option ((Int × (List ((List Int) × (List Int)))) ⊕ (List ((List Int) × (List Int)))) :=
  (if (decide (x6580 < (r6389.length : Int))) then (Option.bind (α := (List ((List Int) × (List Int)))) ((ifp (0 ≤ x6580 ∧ x6580 < ((r6389.length : Nat) : Int)) ((Option.bind (impl_prime_norm a0.1 x4645 1099511627776) fun r6874 => (loopM (fun s : (Int × (List ((List Int) × (List Int)))) => impl_curve_forms_l3 r6874 a0 r6389 x6580 s.1 s.2) (0, x6581)))))) fun x6867 => (some (.inl ((IntKind.i64.wrap (x6580 + 1), x6867))))) else (some (.inr x6581)))
noncomputable def impl_curve_forms_l1 (r3486 : Int) (a0 : (Int × (List Int))) (x4645 : Int) (x4646 : (List ((List Int) × (List Int)))) : Option ((Int × (List ((List Int) × (List Int)))) ⊕ (List ((List Int) × (List Int)))) :=
  (if (decide (x4645 < (IntKind.i64.wrap (r3486 + 1)))) then (Option.bind (α := (List ((List Int) × (List Int)))) ((Option.bind (impl_prime_monics a0.1 x4645) fun r6389 => (loopM (fun s : (Int × (List ((List Int) × (List Int)))) => impl_curve_forms_l2 r6389 a0 x4645 s.1 s.2) (0, x4646)))) fun x6384 => (some (.inl ((IntKind.i64.wrap (x4645 + 1), x6384))))) else (some (.inr x4646)))
noncomputable def impl_curve_forms (a0 : (Int × (List Int))) : Option (List ((List Int) × (List Int))) :=
  (Option.bind (α := (List ((List Int) × (List Int)))) ((Option.bind (impl_curve_genus a0) fun r3486 => (loopM (fun s : (Int × (List ((List Int) × (List Int)))) => impl_curve_forms_l1 r3486 a0 s.1 s.2) (0, [])))) fun x3481 => (some x3481))
theorem impl_curve_forms_ok (a0 : (Int × (List Int))) (r : (List ((List Int) × (List Int)))) (h : impl_curve_forms a0 = some r) : Den Try.prog 54 [(eT_i64_Si64_Z a0)] { r := (eST_Si64_Si64_Z r) } := by
  refine den_of (rs := [(eST_Si64_Si64_Z r)]) (ac := impl_curve_forms_c) (L := impl_curve_forms_L) (n := 48) (m := [(2, 1), (3, 2), (6, 1)]) (c := Try.f54.body.getD .skip) good Try.func54 (by kernel_rfl) (by kernel_rfl) Try.ntmps54 rfl rfl (by kernel_rfl) rfl rfl ?_
  refine a_st (σ' := ⟨[(0, (eT_i64_Si64_Z a0))], []⟩) (by kernel_rfl) ?_
  unfold impl_curve_forms_c
  refine sr (vo 1100 (eT_i64_Si64_Z a0) rfl rfl (vp (eST_Si64_Si64_Z ([])) rfl (nx ⟨[(1, (ow 1))], [(1, (bk (eT_i64_Si64_Z a0)))]⟩ (by kernel_rfl) (sr (vu (.osl 1300) [(1300, (bk (.row 2 (([]).map eT_Si64_Si64_Z))))] rfl trivial rfl (nx ⟨[(1, (ow 1)), (3, (.osl 3))], [(1, (bk (eT_i64_Si64_Z a0))), (3, (bk (.row 2 (([]).map eT_Si64_Si64_Z))))]⟩ (by kernel_rfl) ?_))))))
  obtain ⟨y3482, hy3483, hk3484⟩ := bind_some h
  clear h
  refine a_join (emb := fun (s : (List ((List Int) × (List Int)))) => ⟨[(3, (.osl 3))], [(3, (bk (.row 2 (s.map eT_Si64_Si64_Z))))]⟩) (pre := fun s => s = y3482) ?_ ?_
  · rintro x3481 rfl
    have h := hk3484
    refine a_st (σ' := ⟨[(3, (.osl 3))], [(3, (bk (.row 2 (x3481.map eT_Si64_Si64_Z))))]⟩) (by kernel_rfl) (sr (vp (.osl 3) rfl (vu (eST_Si64_Si64_Z x3481) [(3, (bf (.row 2 (x3481.map eT_Si64_Si64_Z))))] rfl trivial rfl (nx _ rfl (a_ret ?_)))))
    refine ⟨.inr rfl, ?_⟩
    rw [Try.results54]
    cases h
    exact ⟨_, _, _, _, _, rfl, trivial, .inl ⟨rfl, .inl rfl⟩, rfl, rfl⟩
  · have h := hy3483
    refine sr (vl (eT_i64_Si64_Z a0) rfl rfl rfl rfl rfl rfl ?_)
    obtain ⟨r3486, hr3487, h⟩ := bind_some h
    refine a_call (args := [(eT_i64_Si64_Z a0)]) (u := []) (r := (i6 r3486)) rfl rfl (impl_curve_genus_ok a0 r3486 hr3487) rfl (vp (i6 (IntKind.i64.wrap (r3486 + 1))) rfl (vp (i6 0) rfl (nx ⟨[(1, (ow 1)), (3, (.osl 3)), (11, (i6 (IntKind.i64.wrap (r3486 + 1)))), (12, (i6 0))], [(1, (bk (eT_i64_Si64_Z a0))), (3, (bk (.row 2 (([]).map eT_Si64_Si64_Z))))]⟩ (by kernel_rfl) (a_block ?_))))
    refine a_loop (emb := fun (s : (Int × (List ((List Int) × (List Int))))) => ⟨[(1, (ow 1)), (3, (.osl 3)), (11, (i6 (IntKind.i64.wrap (r3486 + 1)))), (12, (i6 s.1))], [(1, (bk (eT_i64_Si64_Z a0))), (3, (bk (.row 2 (s.2.map eT_Si64_Si64_Z))))]⟩) (body := (fun s : (Int × (List ((List Int) × (List Int)))) => impl_curve_forms_l1 r3486 a0 s.1 s.2)) (G := fun q => some q = some y3482) h rfl ?_ (by kernel_rfl)
    rintro X5804 ⟨x4645, x4646⟩ x5805 h hX5806
    have h : impl_curve_forms_l1 r3486 a0 x4645 x4646 = some x5805 := h
    refine a_st (σ' := ⟨[(1, (ow 1)), (3, (.osl 3)), (11, (i6 (IntKind.i64.wrap (r3486 + 1)))), (12, (i6 x4645))], [(1, (bk (eT_i64_Si64_Z a0))), (3, (bk (.row 2 (x4646.map eT_Si64_Si64_Z))))]⟩) (by kernel_rfl) (sr (vp (.bool ((decide (x4645 < (IntKind.i64.wrap (r3486 + 1)))))) rfl (nx ⟨[(1, (ow 1)), (3, (.osl 3)), (11, (i6 (IntKind.i64.wrap (r3486 + 1)))), (12, (i6 x4645)), (13, (.bool ((decide (x4645 < (IntKind.i64.wrap (r3486 + 1)))))))], [(1, (bk (eT_i64_Si64_Z a0))), (3, (bk (.row 2 (x4646.map eT_Si64_Si64_Z))))]⟩ (by kernel_rfl) (a_seq ?_))))
    cases hb5807 : (decide (x4645 < (IntKind.i64.wrap (r3486 + 1))))
    · have h := ite_f hb5807 h
      refine a_cond_f rfl (a_exit (t_exit ?_))
      cases h
      have h := hX5806
      refine t_exit (b_exit ?_)
      exact j_leaf x4646 (Option.some.inj h) (by kernel_rfl)
    · have h := ite_t hb5807 h
      refine a_cond_t rfl (a_skip (a_next (σ' := ⟨[(1, (ow 1)), (3, (.osl 3)), (11, (i6 (IntKind.i64.wrap (r3486 + 1)))), (12, (i6 x4645))], [(1, (bk (eT_i64_Si64_Z a0))), (3, (bk (.row 2 (x4646.map eT_Si64_Si64_Z))))]⟩) (by kernel_rfl) ?_))
      obtain ⟨y6385, hy6386, hk6387⟩ := bind_some h
      clear h
      refine a_join (emb := fun (s : (List ((List Int) × (List Int)))) => ⟨[(1, (ow 1)), (3, (.osl 3)), (11, (i6 (IntKind.i64.wrap (r3486 + 1)))), (12, (i6 x4645))], [(1, (bk (eT_i64_Si64_Z a0))), (3, (bk (.row 2 (s.map eT_Si64_Si64_Z))))]⟩) (pre := fun s => s = y6385) ?_ ?_
      · rintro x6384 rfl
        have h := hk6387
        refine a_st (σ' := ⟨[(1, (ow 1)), (3, (.osl 3)), (11, (i6 (IntKind.i64.wrap (r3486 + 1)))), (12, (i6 x4645))], [(1, (bk (eT_i64_Si64_Z a0))), (3, (bk (.row 2 (x6384.map eT_Si64_Si64_Z))))]⟩) (by kernel_rfl) (a_region (vp (i6 (IntKind.i64.wrap (x4645 + 1))) rfl (vp (i6 (IntKind.i64.wrap (x4645 + 1))) rfl (a_nil ?_))))
        cases h
        exact a_again (by kernel_rfl) hX5806
      · have h := hy6386
        refine a_block (sr (vp (i6 x4645) rfl (vp (i6 x4645) rfl (nx ⟨[(1, (ow 1)), (3, (.osl 3)), (4, (i6 x4645)), (11, (i6 (IntKind.i64.wrap (r3486 + 1)))), (12, (i6 x4645))], [(1, (bk (eT_i64_Si64_Z a0))), (3, (bk (.row 2 (x4646.map eT_Si64_Si64_Z))))]⟩ (by kernel_rfl) (sr (vb (.own 1 [0] [0]) rfl rfl ?_))))))
        have hl6388 : LdOk [0] (eT_i64_Si64_Z a0) [0] 1 false (i6 a0.1) := (.fld rfl rfl rfl rfl (.nil rfl rfl rfl))
        refine vq (i6 a0.1) (ld_own (i := ⟨.int .i64, 1, 8, (.int .i64 0)⟩) rfl rfl rfl hl6388) hl6388.c (vp (i6 x4645) rfl ?_)
        obtain ⟨r6389, hr6390, h⟩ := bind_some h
        refine a_call (args := [(i6 a0.1), (i6 x4645)]) (u := []) (r := (eSSi64 r6389)) rfl rfl (impl_prime_monics_ok a0.1 x4645 r6389 hr6390) rfl (vq (i6 (r6389.length : Int)) (len_run rfl rfl) trivial (vp (i6 0) rfl (nx ⟨[(1, (ow 1)), (3, (.osl 3)), (4, (i6 x4645)), (11, (i6 (IntKind.i64.wrap (r3486 + 1)))), (12, (i6 x4645)), (18, (eSSi64 r6389)), (19, (i6 (r6389.length : Int))), (20, (i6 0))], [(1, (bk (eT_i64_Si64_Z a0))), (3, (bk (.row 2 (x4646.map eT_Si64_Si64_Z))))]⟩ (by kernel_rfl) (a_block ?_))))
        refine a_loop (emb := fun (s : (Int × (List ((List Int) × (List Int))))) => ⟨[(1, (ow 1)), (3, (.osl 3)), (4, (i6 x4645)), (11, (i6 (IntKind.i64.wrap (r3486 + 1)))), (12, (i6 x4645)), (18, (eSSi64 r6389)), (19, (i6 (r6389.length : Int))), (20, (i6 s.1))], [(1, (bk (eT_i64_Si64_Z a0))), (3, (bk (.row 2 (s.2.map eT_Si64_Si64_Z))))]⟩) (body := (fun s : (Int × (List ((List Int) × (List Int)))) => impl_curve_forms_l2 r6389 a0 x4645 s.1 s.2)) (G := fun q => some q = some y6385) h rfl ?_ (by kernel_rfl)
        rintro X6771 ⟨x6580, x6581⟩ x6772 h hX6773
        have h : impl_curve_forms_l2 r6389 a0 x4645 x6580 x6581 = some x6772 := h
        refine a_st (σ' := ⟨[(1, (ow 1)), (3, (.osl 3)), (4, (i6 x4645)), (11, (i6 (IntKind.i64.wrap (r3486 + 1)))), (12, (i6 x4645)), (18, (eSSi64 r6389)), (19, (i6 (r6389.length : Int))), (20, (i6 x6580))], [(1, (bk (eT_i64_Si64_Z a0))), (3, (bk (.row 2 (x6581.map eT_Si64_Si64_Z))))]⟩) (by kernel_rfl) (sr (vp (.bool ((decide (x6580 < (r6389.length : Int))))) rfl (nx ⟨[(1, (ow 1)), (3, (.osl 3)), (4, (i6 x4645)), (11, (i6 (IntKind.i64.wrap (r3486 + 1)))), (12, (i6 x4645)), (18, (eSSi64 r6389)), (19, (i6 (r6389.length : Int))), (20, (i6 x6580)), (21, (.bool ((decide (x6580 < (r6389.length : Int))))))], [(1, (bk (eT_i64_Si64_Z a0))), (3, (bk (.row 2 (x6581.map eT_Si64_Si64_Z))))]⟩ (by kernel_rfl) (a_seq ?_))))
        cases hb6774 : (decide (x6580 < (r6389.length : Int)))
        · have h := ite_f hb6774 h
          refine a_cond_f rfl (a_exit (t_exit ?_))
          cases h
          have h := hX6773
          refine t_exit (b_exit (b_norm ?_))
          exact j_leaf x6581 (Option.some.inj h) (by kernel_rfl)
        · have h := ite_t hb6774 h
          refine a_cond_t rfl (a_skip (a_next (σ' := ⟨[(1, (ow 1)), (3, (.osl 3)), (4, (i6 x4645)), (11, (i6 (IntKind.i64.wrap (r3486 + 1)))), (12, (i6 x4645)), (18, (eSSi64 r6389)), (19, (i6 (r6389.length : Int))), (20, (i6 x6580))], [(1, (bk (eT_i64_Si64_Z a0))), (3, (bk (.row 2 (x6581.map eT_Si64_Si64_Z))))]⟩) (by kernel_rfl) ?_))
          obtain ⟨y6868, hy6869, hk6870⟩ := bind_some h
          clear h
          refine a_join (emb := fun (s : (List ((List Int) × (List Int)))) => ⟨[(1, (ow 1)), (3, (.osl 3)), (4, (i6 x4645)), (11, (i6 (IntKind.i64.wrap (r3486 + 1)))), (12, (i6 x4645)), (18, (eSSi64 r6389)), (19, (i6 (r6389.length : Int))), (20, (i6 x6580))], [(1, (bk (eT_i64_Si64_Z a0))), (3, (bk (.row 2 (s.map eT_Si64_Si64_Z))))]⟩) (pre := fun s => s = y6868) ?_ ?_
          · rintro x6867 rfl
            have h := hk6870
            refine a_st (σ' := ⟨[(1, (ow 1)), (3, (.osl 3)), (4, (i6 x4645)), (11, (i6 (IntKind.i64.wrap (r3486 + 1)))), (12, (i6 x4645)), (18, (eSSi64 r6389)), (19, (i6 (r6389.length : Int))), (20, (i6 x6580))], [(1, (bk (eT_i64_Si64_Z a0))), (3, (bk (.row 2 (x6867.map eT_Si64_Si64_Z))))]⟩) (by kernel_rfl) (a_region (vp (i6 (IntKind.i64.wrap (x6580 + 1))) rfl (vp (i6 (IntKind.i64.wrap (x6580 + 1))) rfl (a_nil ?_))))
            cases h
            exact a_again (by kernel_rfl) hX6773
          · have h := hy6869
            refine a_block (sr ?_)
            obtain ⟨hc6871, h⟩ := ifp_some h
            refine vq (.ref (.row 1 (r6389.map eSi64)) [x6580.toNat] [x6580.toNat * 1]) rfl (lmap hc6871) ?_
            have hl6872 : LdOk [x6580.toNat] (.row 1 (r6389.map eSi64)) [x6580.toNat * 1] 1 false (eSi64 (rd r6389 x6580.toNat)) := (.row (llt hc6871) rfl (.nil rfl rfl rfl))
            refine vq (eSi64 (rd r6389 x6580.toNat)) (ld_ref (i := ⟨.slice 2, 1, 24, (eSi64 [])⟩) rfl rfl hl6872) hl6872.c (vp (eSi64 (rd r6389 x6580.toNat)) rfl (nx ⟨[(1, (ow 1)), (3, (.osl 3)), (4, (i6 x4645)), (6, (eSi64 (rd r6389 x6580.toNat))), (11, (i6 (IntKind.i64.wrap (r3486 + 1)))), (12, (i6 x4645)), (18, (eSSi64 r6389)), (19, (i6 (r6389.length : Int))), (20, (i6 x6580))], [(1, (bk (eT_i64_Si64_Z a0))), (3, (bk (.row 2 (x6581.map eT_Si64_Si64_Z))))]⟩ (by kernel_rfl) (sr (vb (.own 1 [0] [0]) rfl rfl ?_))))
            have hl6873 : LdOk [0] (eT_i64_Si64_Z a0) [0] 1 false (i6 a0.1) := (.fld rfl rfl rfl rfl (.nil rfl rfl rfl))
            refine vq (i6 a0.1) (ld_own (i := ⟨.int .i64, 1, 8, (.int .i64 0)⟩) rfl rfl rfl hl6873) hl6873.c (vp (i6 x4645) rfl ?_)
            obtain ⟨r6874, hr6875, h⟩ := bind_some h
            refine a_call (args := [(i6 a0.1), (i6 x4645), (i6 1099511627776)]) (u := []) (r := (i6 r6874)) rfl rfl (impl_prime_norm_ok a0.1 x4645 1099511627776 r6874 hr6875) rfl (vp (i6 0) rfl (nx ⟨[(1, (ow 1)), (3, (.osl 3)), (4, (i6 x4645)), (6, (eSi64 (rd r6389 x6580.toNat))), (11, (i6 (IntKind.i64.wrap (r3486 + 1)))), (12, (i6 x4645)), (18, (eSSi64 r6389)), (19, (i6 (r6389.length : Int))), (20, (i6 x6580)), (27, (i6 r6874)), (28, (i6 0))], [(1, (bk (eT_i64_Si64_Z a0))), (3, (bk (.row 2 (x6581.map eT_Si64_Si64_Z))))]⟩ (by kernel_rfl) (a_block ?_)))
            refine a_loop (emb := fun (s : (Int × (List ((List Int) × (List Int))))) => ⟨[(1, (ow 1)), (3, (.osl 3)), (4, (i6 x4645)), (6, (eSi64 (rd r6389 x6580.toNat))), (11, (i6 (IntKind.i64.wrap (r3486 + 1)))), (12, (i6 x4645)), (18, (eSSi64 r6389)), (19, (i6 (r6389.length : Int))), (20, (i6 x6580)), (27, (i6 r6874)), (28, (i6 s.1))], [(1, (bk (eT_i64_Si64_Z a0))), (3, (bk (.row 2 (s.2.map eT_Si64_Si64_Z))))]⟩) (body := (fun s : (Int × (List ((List Int) × (List Int)))) => impl_curve_forms_l3 r6874 a0 r6389 x6580 s.1 s.2)) (G := fun q => some q = some y6868) h rfl ?_ (by kernel_rfl)
            rintro X6932 ⟨x6903, x6904⟩ x6933 h hX6934
            have h : impl_curve_forms_l3 r6874 a0 r6389 x6580 x6903 x6904 = some x6933 := h
            refine a_st (σ' := ⟨[(1, (ow 1)), (3, (.osl 3)), (4, (i6 x4645)), (6, (eSi64 (rd r6389 x6580.toNat))), (11, (i6 (IntKind.i64.wrap (r3486 + 1)))), (12, (i6 x4645)), (18, (eSSi64 r6389)), (19, (i6 (r6389.length : Int))), (20, (i6 x6580)), (27, (i6 r6874)), (28, (i6 x6903))], [(1, (bk (eT_i64_Si64_Z a0))), (3, (bk (.row 2 (x6904.map eT_Si64_Si64_Z))))]⟩) (by kernel_rfl) (sr (vp (.bool ((decide (x6903 < r6874)))) rfl (nx ⟨[(1, (ow 1)), (3, (.osl 3)), (4, (i6 x4645)), (6, (eSi64 (rd r6389 x6580.toNat))), (11, (i6 (IntKind.i64.wrap (r3486 + 1)))), (12, (i6 x4645)), (18, (eSSi64 r6389)), (19, (i6 (r6389.length : Int))), (20, (i6 x6580)), (27, (i6 r6874)), (28, (i6 x6903)), (29, (.bool ((decide (x6903 < r6874)))))], [(1, (bk (eT_i64_Si64_Z a0))), (3, (bk (.row 2 (x6904.map eT_Si64_Si64_Z))))]⟩ (by kernel_rfl) (a_seq ?_))))
            cases hb6935 : (decide (x6903 < r6874))
            · have h := ite_f hb6935 h
              refine a_cond_f rfl (a_exit (t_exit ?_))
              cases h
              have h := hX6934
              refine t_exit (b_exit (b_norm ?_))
              exact j_leaf x6904 (Option.some.inj h) (by kernel_rfl)
            · have h := ite_t hb6935 h
              refine a_cond_t rfl (a_skip (a_next (σ' := ⟨[(1, (ow 1)), (3, (.osl 3)), (4, (i6 x4645)), (6, (eSi64 (rd r6389 x6580.toNat))), (11, (i6 (IntKind.i64.wrap (r3486 + 1)))), (12, (i6 x4645)), (18, (eSSi64 r6389)), (19, (i6 (r6389.length : Int))), (20, (i6 x6580)), (27, (i6 r6874)), (28, (i6 x6903))], [(1, (bk (eT_i64_Si64_Z a0))), (3, (bk (.row 2 (x6904.map eT_Si64_Si64_Z))))]⟩) (by kernel_rfl) ?_))
              obtain ⟨y6948, hy6949, hk6950⟩ := bind_some h
              clear h
              refine a_join (emb := fun (s : (List ((List Int) × (List Int)))) => ⟨[(1, (ow 1)), (3, (.osl 3)), (4, (i6 x4645)), (6, (eSi64 (rd r6389 x6580.toNat))), (11, (i6 (IntKind.i64.wrap (r3486 + 1)))), (12, (i6 x4645)), (18, (eSSi64 r6389)), (19, (i6 (r6389.length : Int))), (20, (i6 x6580)), (27, (i6 r6874)), (28, (i6 x6903))], [(1, (bk (eT_i64_Si64_Z a0))), (3, (bk (.row 2 (s.map eT_Si64_Si64_Z))))]⟩) (pre := fun s => s = y6948) ?_ ?_
              · rintro x6947 rfl
                have h := hk6950
                refine a_st (σ' := ⟨[(1, (ow 1)), (3, (.osl 3)), (4, (i6 x4645)), (6, (eSi64 (rd r6389 x6580.toNat))), (11, (i6 (IntKind.i64.wrap (r3486 + 1)))), (12, (i6 x4645)), (18, (eSSi64 r6389)), (19, (i6 (r6389.length : Int))), (20, (i6 x6580)), (27, (i6 r6874)), (28, (i6 x6903))], [(1, (bk (eT_i64_Si64_Z a0))), (3, (bk (.row 2 (x6947.map eT_Si64_Si64_Z))))]⟩) (by kernel_rfl) (a_region (vp (i6 (IntKind.i64.wrap (x6903 + 1))) rfl (vp (i6 (IntKind.i64.wrap (x6903 + 1))) rfl (a_nil ?_))))
                cases h
                exact a_again (by kernel_rfl) hX6934
              · have h := hy6949
                refine a_block (sr (vp (i6 x6903) rfl (vp (i6 x6903) rfl (nx ⟨[(1, (ow 1)), (3, (.osl 3)), (4, (i6 x4645)), (6, (eSi64 (rd r6389 x6580.toNat))), (7, (i6 x6903)), (11, (i6 (IntKind.i64.wrap (r3486 + 1)))), (12, (i6 x4645)), (18, (eSSi64 r6389)), (19, (i6 (r6389.length : Int))), (20, (i6 x6580)), (27, (i6 r6874)), (28, (i6 x6903))], [(1, (bk (eT_i64_Si64_Z a0))), (3, (bk (.row 2 (x6904.map eT_Si64_Si64_Z))))]⟩ (by kernel_rfl) (sr (vp (eSi64 (rd r6389 x6580.toNat)) rfl (vb (.own 1 [0] [0]) rfl rfl ?_)))))))
                have hl6951 : LdOk [0] (eT_i64_Si64_Z a0) [0] 1 false (i6 a0.1) := (.fld rfl rfl rfl rfl (.nil rfl rfl rfl))
                refine vq (i6 a0.1) (ld_own (i := ⟨.int .i64, 1, 8, (.int .i64 0)⟩) rfl rfl rfl hl6951) hl6951.c (vp (i6 x6903) rfl ?_)
                obtain ⟨r6952, hr6953, h⟩ := bind_some h
                refine a_call (args := [(i6 a0.1), (i6 x6903)]) (u := []) (r := (eSi64 r6952)) rfl rfl (impl_prime_numbered_ok a0.1 x6903 r6952 hr6953) rfl (vq (eT_Si64_Si64_Z (((rd r6389 x6580.toNat), r6952))) rfl ⟨rfl, (all_cons ⟨(Nat.le_of_ble_eq_true rfl), rfl⟩ (all_cons ⟨(Nat.le_of_ble_eq_true rfl), rfl⟩ all_nil))⟩ (vo 1800 (eT_Si64_Si64_Z ([], [])) rfl rfl (vs (eT_Si64_Si64_Z (((rd r6389 x6580.toNat), r6952))) rfl rfl (fun _ => rfl) rfl rfl rfl rfl rfl rfl (nx ⟨[(1, (ow 1)), (3, (.osl 3)), (4, (i6 x4645)), (6, (eSi64 (rd r6389 x6580.toNat))), (8, (ow 8)), (11, (i6 (IntKind.i64.wrap (r3486 + 1)))), (12, (i6 x4645)), (18, (eSSi64 r6389)), (19, (i6 (r6389.length : Int))), (20, (i6 x6580)), (27, (i6 r6874)), (28, (i6 x6903))], [(1, (bk (eT_i64_Si64_Z a0))), (3, (bk (.row 2 (x6904.map eT_Si64_Si64_Z)))), (8, (bk (eT_Si64_Si64_Z (((rd r6389 x6580.toNat), r6952)))))]⟩ (by kernel_rfl) (sr (vl (eT_i64_Si64_Z a0) rfl rfl rfl rfl rfl rfl (vl (eT_Si64_Si64_Z (((rd r6389 x6580.toNat), r6952))) rfl rfl rfl rfl rfl rfl ?_)))))))
                obtain ⟨r6957, hr6958, h⟩ := bind_some h
                refine a_call (args := [(eT_i64_Si64_Z a0), (eT_Si64_Si64_Z (((rd r6389 x6580.toNat), r6952)))]) (u := []) (r := (.bool r6957)) rfl rfl (impl_curve_isForm_ok a0 (((rd r6389 x6580.toNat), r6952)) r6957 hr6958) rfl (nx ⟨[(1, (ow 1)), (3, (.osl 3)), (4, (i6 x4645)), (6, (eSi64 (rd r6389 x6580.toNat))), (8, (ow 8)), (11, (i6 (IntKind.i64.wrap (r3486 + 1)))), (12, (i6 x4645)), (18, (eSSi64 r6389)), (19, (i6 (r6389.length : Int))), (20, (i6 x6580)), (27, (i6 r6874)), (28, (i6 x6903)), (39, (.bool r6957))], [(1, (bk (eT_i64_Si64_Z a0))), (3, (bk (.row 2 (x6904.map eT_Si64_Si64_Z)))), (8, (bk (eT_Si64_Si64_Z (((rd r6389 x6580.toNat), r6952)))))]⟩ (by kernel_rfl) ?_)
                cases hb6959 : r6957
                · have h := ite_f hb6959 h
                  refine a_cond_f rfl (a_skip (b_norm ?_))
                  exact j_leaf x6904 (Option.some.inj h) (by kernel_rfl)
                · have h := ite_t hb6959 h
                  refine a_cond_t rfl (a_region (vp (.osl 3) rfl (vl (eT_Si64_Si64_Z (((rd r6389 x6580.toNat), r6952))) rfl rfl rfl rfl rfl rfl (vq (.sl 2 true (([((rd r6389 x6580.toNat), r6952)]).map eT_Si64_Si64_Z)) rfl ⟨(Nat.le_of_ble_eq_true rfl), (Nat.le_of_ble_eq_true rfl), (all_cons ⟨(Nat.le_of_ble_eq_true rfl), rfl⟩ all_nil)⟩ ?_))))
                  obtain ⟨hc6961, h⟩ := ifp_some h
                  refine vu (.osl 5300) [(5300, (bk (.row 2 (((x6904 ++ ([((rd r6389 x6580.toNat), r6952)]))).map eT_Si64_Si64_Z)))), (3, none)] (app_run (i := ⟨.struct [(0, 66), (1, 66)], 2, 48, (eT_Si64_Si64_Z ([], []))⟩) (f := eT_Si64_Si64_Z) (l := x6904) (l2 := [((rd r6389 x6580.toNat), r6952)]) rfl rfl rfl rfl (fun _ => rfl) rfl rfl) (app_c (f := eT_Si64_Si64_Z) (s := 2) (sz := 2) (by' := 48) (u := []) (id := 3) hc6961 (.inr rfl) rfl rfl rfl) rfl (vp (.osl 5300) rfl (a_nil (b_norm ?_)))
                  exact j_leaf ((x6904 ++ ([((rd r6389 x6580.toNat), r6952)]))) (Option.some.inj h) (by kernel_rfl)
def impl_row_poly_c : ACode := (.seq (.region 0 [q 2 (.alloc 26)] false) (.seq (.region 1 [q 3 (.alloc 26)] false) (.seq (.seq (.region 2 [q 6 (.mov (t 0)), q 7 (.blt 0 .len [(t 6)] [66]), q 8 (.mov (.const (.int .i64 0)))] false) (.block 0 (.loop (.seq (.region 3 [q 9 (.bin .lss 3 (t 8) (t 7))] false) (.seq (.cond (t 9) .skip (.exit 0)) (.seq (.block 1 (.seq (.region 4 [q 10 (.mov (t 8)), q 11 (.indexAddr 66 (t 6) (t 8)), q 12 (.load 2 (t 11)), q 4 (.asg 0 (t 10) 3), q 5 (.asg 0 (t 12) 2)] false) (.region 5 [q 13 (.mov (t 4)), q 14 (.mov (t 5)), q 15 (.conv 2 5 (t 14)), q 16 (.indexAddr 26 (t 3) (t 13)), ⟨none, .store 5 (t 16) (t 15), none, []⟩] false))) (.region 6 [q 17 (.bin .add 3 (t 8) (.const (.int .i64 1))), q 8 (.mov (t 17))] false))))))) (.seq (.region 7 [q 18 (.load 26 (t 3)), ⟨none, .store 26 (t 2) (t 18), none, []⟩] false) .ret))))
def impl_row_poly_L : Live := [(0, [0]), (1, [0, 2]), (2, [0, 2, 3]), (3, [2, 3, 6, 7, 8]), (4, [2, 3, 6, 7, 8]), (5, [2, 3, 4, 5, 6, 7, 8]), (6, [2, 3, 6, 7, 8]), (7, [2, 3]), (100009, [2, 3, 6, 7, 8, 9])]
noncomputable def impl_row_poly_l1 (a0 : (List Int)) (x31 : Int) (x32 : (Vec Int 64)) : Option ((Int × (Vec Int 64)) ⊕ (Vec Int 64)) :=
  (if (decide (x31 < (a0.length : Int))) then (ifp (0 ≤ x31 ∧ x31 < ((a0.length : Nat) : Int)) ((ifp (0 ≤ x31 ∧ x31 < ((64 : Nat) : Int)) ((some (.inl ((IntKind.i64.wrap (x31 + 1), (vset x32 x31.toNat (IntKind.u8.wrap (rd a0 x31.toNat))))))))))) else (some (.inr x32)))
noncomputable def impl_row_poly (a0 : (List Int)) : Option (Vec Int 64) :=
  (Option.bind (α := (Vec Int 64)) ((loopM (fun s : (Int × (Vec Int 64)) => impl_row_poly_l1 a0 s.1 s.2) (0, (vrep 64 (0 : Int))))) fun x22 => (some x22))
theorem impl_row_poly_ok (a0 : (List Int)) (r : (Vec Int 64)) (h : impl_row_poly a0 = some r) : Den Try.prog 131 [(eSi64 a0)] { r := (eA64u8 r) } := by
  refine den_of (rs := [(eA64u8 r)]) (ac := impl_row_poly_c) (L := impl_row_poly_L) (n := 19) (m := []) (c := Try.f131.body.getD .skip) good Try.func131 (by kernel_rfl) (by kernel_rfl) Try.ntmps131 rfl rfl (by kernel_rfl) rfl rfl ?_
  refine a_st (σ' := ⟨[(0, (eSi64 a0))], []⟩) (by kernel_rfl) ?_
  unfold impl_row_poly_c
  refine sr (vo 1200 (eA64u8 ((vrep 64 (0 : Int)))) rfl rfl (nx ⟨[(0, (eSi64 a0)), (2, (ow 2))], [(2, (bk (eA64u8 ((vrep 64 (0 : Int))))))]⟩ (by kernel_rfl) (sr (vo 1300 (eA64u8 ((vrep 64 (0 : Int)))) rfl rfl (nx ⟨[(0, (eSi64 a0)), (2, (ow 2)), (3, (ow 3))], [(2, (bk (eA64u8 ((vrep 64 (0 : Int)))))), (3, (bk (eA64u8 ((vrep 64 (0 : Int))))))]⟩ (by kernel_rfl) ?_)))))
  obtain ⟨y23, hy24, hk25⟩ := bind_some h
  clear h
  refine a_join (emb := fun (s : (Vec Int 64)) => ⟨[(2, (ow 2)), (3, (ow 3))], [(2, (bk (eA64u8 ((vrep 64 (0 : Int)))))), (3, (bk (eA64u8 s)))]⟩) (pre := fun s => s = y23) ?_ ?_
  · rintro x22 rfl
    have h := hk25
    refine a_st (σ' := ⟨[(2, (ow 2)), (3, (ow 3))], [(2, (bk (eA64u8 ((vrep 64 (0 : Int)))))), (3, (bk (eA64u8 x22)))]⟩) (by kernel_rfl) (sr (vl (eA64u8 x22) rfl rfl rfl rfl rfl rfl (vs (eA64u8 x22) rfl rfl (fun _ => rfl) rfl rfl rfl rfl rfl rfl (nx _ rfl (a_ret ?_)))))
    have hl49 : LdOk [] (eA64u8 x22) [] 64 true (eA64u8 x22) := (.nil rfl rfl rfl)
    refine ⟨.inr rfl, ?_⟩
    rw [Try.results131]
    cases h
    exact ⟨_, _, _, _, _, ld_own (i := ⟨.arr 64 5, 64, 64, (eA64u8 (vrep 64 (0 : Int)))⟩) rfl rfl rfl hl49, hl49.c, .inl ⟨rfl, .inl rfl⟩, rfl, rfl⟩
  · have h := hy24
    refine sr (vp (eSi64 a0) rfl (vq (i6 (a0.length : Int)) (len_run rfl rfl) trivial (vp (i6 0) rfl (nx ⟨[(2, (ow 2)), (3, (ow 3)), (6, (eSi64 a0)), (7, (i6 (a0.length : Int))), (8, (i6 0))], [(2, (bk (eA64u8 ((vrep 64 (0 : Int)))))), (3, (bk (eA64u8 ((vrep 64 (0 : Int))))))]⟩ (by kernel_rfl) (a_block ?_)))))
    refine a_loop (emb := fun (s : (Int × (Vec Int 64))) => ⟨[(2, (ow 2)), (3, (ow 3)), (6, (eSi64 a0)), (7, (i6 (a0.length : Int))), (8, (i6 s.1))], [(2, (bk (eA64u8 ((vrep 64 (0 : Int)))))), (3, (bk (eA64u8 s.2)))]⟩) (body := (fun s : (Int × (Vec Int 64)) => impl_row_poly_l1 a0 s.1 s.2)) (G := fun q => some q = some y23) h rfl ?_ (by kernel_rfl)
    rintro X38 ⟨x31, x32⟩ x39 h hX40
    have h : impl_row_poly_l1 a0 x31 x32 = some x39 := h
    refine a_st (σ' := ⟨[(2, (ow 2)), (3, (ow 3)), (6, (eSi64 a0)), (7, (i6 (a0.length : Int))), (8, (i6 x31))], [(2, (bk (eA64u8 ((vrep 64 (0 : Int)))))), (3, (bk (eA64u8 x32)))]⟩) (by kernel_rfl) (sr (vp (.bool ((decide (x31 < (a0.length : Int))))) rfl (nx ⟨[(2, (ow 2)), (3, (ow 3)), (6, (eSi64 a0)), (7, (i6 (a0.length : Int))), (8, (i6 x31)), (9, (.bool ((decide (x31 < (a0.length : Int))))))], [(2, (bk (eA64u8 ((vrep 64 (0 : Int)))))), (3, (bk (eA64u8 x32)))]⟩ (by kernel_rfl) (a_seq ?_))))
    cases hb41 : (decide (x31 < (a0.length : Int)))
    · have h := ite_f hb41 h
      refine a_cond_f rfl (a_exit (t_exit ?_))
      cases h
      have h := hX40
      refine t_exit (b_exit ?_)
      exact j_leaf x32 (Option.some.inj h) (by kernel_rfl)
    · have h := ite_t hb41 h
      refine a_cond_t rfl (a_skip (a_next (σ' := ⟨[(2, (ow 2)), (3, (ow 3)), (6, (eSi64 a0)), (7, (i6 (a0.length : Int))), (8, (i6 x31))], [(2, (bk (eA64u8 ((vrep 64 (0 : Int)))))), (3, (bk (eA64u8 x32)))]⟩) (by kernel_rfl) (a_seq (a_block (sr (vp (i6 x31) rfl ?_))))))
      obtain ⟨hc42, h⟩ := ifp_some h
      refine vq (.ref (.row 1 (a0.map (AV.int .i64))) [x31.toNat] [x31.toNat * 1]) rfl (lmap hc42) ?_
      have hl43 : LdOk [x31.toNat] (.row 1 (a0.map (AV.int .i64))) [x31.toNat * 1] 1 false (i6 (rd a0 x31.toNat)) := (.row (llt hc42) rfl (.nil rfl rfl rfl))
      refine vq (i6 (rd a0 x31.toNat)) (ld_ref (i := ⟨.int .i64, 1, 8, (.int .i64 0)⟩) rfl rfl hl43) hl43.c (vp (i6 x31) rfl (vp (i6 (rd a0 x31.toNat)) rfl (nx ⟨[(2, (ow 2)), (3, (ow 3)), (4, (i6 x31)), (5, (i6 (rd a0 x31.toNat))), (6, (eSi64 a0)), (7, (i6 (a0.length : Int))), (8, (i6 x31))], [(2, (bk (eA64u8 ((vrep 64 (0 : Int)))))), (3, (bk (eA64u8 x32)))]⟩ (by kernel_rfl) (a_region (vp (i6 x31) rfl (vp (i6 (rd a0 x31.toNat)) rfl (vp (b8 (IntKind.u8.wrap (rd a0 x31.toNat))) rfl ?_)))))))
      obtain ⟨hc44, h⟩ := ifp_some h
      refine vq (.own 3 [x31.toNat] [x31.toNat * 1]) rfl hc44 ?_
      have hs45 : StOk [x31.toNat] (eA64u8 x32) [x31.toNat * 1] 1 (b8 (IntKind.u8.wrap (rd a0 x31.toNat))) (eA64u8 ((vset x32 x31.toNat (IntKind.u8.wrap (rd a0 x31.toNat))))) := (.arr (y := IntKind.u8.wrap (rd a0 x31.toNat)) (vlt x32 hc44) rfl (.nil rfl rfl rfl rfl))
      refine vu .top [(3, (bk (eA64u8 ((vset x32 x31.toNat (IntKind.u8.wrap (rd a0 x31.toNat)))))))] (st_own (i := ⟨.int .u8, 1, 1, (.int .u8 0)⟩) rfl rfl (fun _ => rfl) rfl hs45) (hs45.c rfl) rfl (a_nil (b_norm (a_next (σ' := ⟨[(2, (ow 2)), (3, (ow 3)), (6, (eSi64 a0)), (7, (i6 (a0.length : Int))), (8, (i6 x31))], [(2, (bk (eA64u8 ((vrep 64 (0 : Int)))))), (3, (bk (eA64u8 ((vset x32 x31.toNat (IntKind.u8.wrap (rd a0 x31.toNat)))))))]⟩) (by kernel_rfl) (a_region (vp (i6 (IntKind.i64.wrap (x31 + 1))) rfl (vp (i6 (IntKind.i64.wrap (x31 + 1))) rfl (a_nil ?_)))))))
      cases h
      exact a_again (by kernel_rfl) hX40
def impl_form_told_c : ACode := (.seq (.region 0 [q 1 (.box 72 (t 0)), q 2 (.alloc 74)] false) (.seq (.region 1 [q 3 (.fieldAddr 72 (t 1) 0), ⟨some 4, .load 66 (t 3), none, [0]⟩, ⟨some 5, .call 0 (.func 131) [(t 4)], none, [1]⟩, q 6 (.fieldAddr 72 (t 1) 1), ⟨some 7, .load 66 (t 6), none, [3]⟩, ⟨some 8, .call 0 (.func 131) [(t 7)], none, [4, 2]⟩, ⟨some 9, .build 74 [(0, (t 5)), (1, (t 8))], none, [2, 5]⟩, ⟨none, .store 74 (t 2) (t 9), none, [6, 5, 0, 1, 2, 3, 4, 5, 6]⟩] true) .ret))
def impl_form_told_L : Live := [(0, [0]), (1, [1, 2])]
noncomputable def impl_form_told (a0 : ((List Int) × (List Int))) : Option ((Vec Int 64) × (Vec Int 64)) :=
  (Option.bind (impl_row_poly a0.1) fun r9 => (Option.bind (impl_row_poly a0.2) fun r12 => (some (r9, r12))))
theorem impl_form_told_ok (a0 : ((List Int) × (List Int))) (r : ((Vec Int 64) × (Vec Int 64))) (h : impl_form_told a0 = some r) : Den Try.prog 55 [(eT_Si64_Si64_Z a0)] { r := (eT_A64u8_A64u8_Z r) } := by
  refine den_of (rs := [(eT_A64u8_A64u8_Z r)]) (ac := impl_form_told_c) (L := impl_form_told_L) (n := 10) (m := []) (c := Try.f55.body.getD .skip) good Try.func55 (by kernel_rfl) (by kernel_rfl) Try.ntmps55 rfl rfl (by kernel_rfl) rfl rfl ?_
  refine a_st (σ' := ⟨[(0, (eT_Si64_Si64_Z a0))], []⟩) (by kernel_rfl) ?_
  unfold impl_form_told_c
  refine sr (vo 1100 (eT_Si64_Si64_Z a0) rfl rfl (vo 1200 (eT_A64u8_A64u8_Z (((vrep 64 (0 : Int)), (vrep 64 (0 : Int))))) rfl rfl (nx ⟨[(1, (ow 1)), (2, (ow 2))], [(1, (bk (eT_Si64_Si64_Z a0))), (2, (bk (eT_A64u8_A64u8_Z (((vrep 64 (0 : Int)), (vrep 64 (0 : Int)))))))]⟩ (by kernel_rfl) (a_seq (a_draw [⟨[1], [], [1], []⟩, ⟨[1], [], [], [0]⟩, ⟨[], [], [], [0, 1]⟩, ⟨[1], [], [1], []⟩, ⟨[1], [], [], [3]⟩, ⟨[], [], [], [0, 1, 2, 3, 4]⟩, ⟨[], [], [], [0, 1, 2, 3, 4, 5]⟩, ⟨[2], [2], [], [0, 1, 2, 3, 4, 5, 6]⟩] (by kernel_rfl) (d_cons (vb (.own 1 [0] [0]) rfl rfl (d_next (by kernel_rfl) (d_cons ?_)))))))))
  have hl8 : LdOk [0] (eT_Si64_Si64_Z a0) [0] 1 false (eSi64 a0.1) := (.fld rfl rfl rfl rfl (.nil rfl rfl rfl))
  refine vq (eSi64 a0.1) (ld_own (i := ⟨.slice 2, 1, 24, (eSi64 [])⟩) rfl rfl rfl hl8) hl8.c (d_next (by kernel_rfl) (d_cons ?_))
  obtain ⟨r9, hr10, h⟩ := bind_some h
  refine a_call (args := [(eSi64 a0.1)]) (u := []) (r := (eA64u8 r9)) rfl rfl (impl_row_poly_ok a0.1 r9 hr10) rfl (d_next (by kernel_rfl) (d_cons (vb (.own 1 [1] [1]) rfl rfl (d_next (by kernel_rfl) (d_cons ?_)))))
  have hl11 : LdOk [1] (eT_Si64_Si64_Z a0) [1] 1 false (eSi64 a0.2) := (.fld rfl rfl rfl rfl (.nil rfl rfl rfl))
  refine vq (eSi64 a0.2) (ld_own (i := ⟨.slice 2, 1, 24, (eSi64 [])⟩) rfl rfl rfl hl11) hl11.c (d_next (by kernel_rfl) (d_cons ?_))
  obtain ⟨r12, hr13, h⟩ := bind_some h
  refine a_call (args := [(eSi64 a0.2)]) (u := []) (r := (eA64u8 r12)) rfl rfl (impl_row_poly_ok a0.2 r12 hr13) rfl (d_next (by kernel_rfl) (d_cons (vq (eT_A64u8_A64u8_Z (r9, r12)) rfl ⟨rfl, (all_cons ⟨(Nat.le_of_ble_eq_true rfl), rfl⟩ (all_cons ⟨(Nat.le_of_ble_eq_true rfl), rfl⟩ all_nil))⟩ (d_next (by kernel_rfl) (d_cons (vs (eT_A64u8_A64u8_Z (r9, r12)) rfl rfl (fun _ => rfl) rfl rfl rfl rfl rfl rfl (d_next (by kernel_rfl) (d_nil (a_next rfl ?_)))))))))
  refine a_ret ?_
  have hl15 : LdOk [] (eT_A64u8_A64u8_Z (r9, r12)) [] 128 true (eT_A64u8_A64u8_Z (r9, r12)) := (.nil rfl rfl rfl)
  refine ⟨.inr rfl, ?_⟩
  rw [Try.results55]
  cases h
  exact ⟨_, _, _, _, _, ld_own (i := ⟨.struct [(0, 26), (64, 26)], 128, 128, (eT_A64u8_A64u8_Z ((vrep 64 (0 : Int)), (vrep 64 (0 : Int))))⟩) rfl rfl rfl hl15, hl15.c, .inl ⟨rfl, .inl rfl⟩, rfl, rfl⟩
def impl_ReducedForms_fresh_c : ACode := (.seq (.region 0 [q 3 (.box 26 (t 1)), q 4 (.asg 2 (.const (.slice none 0 0)) 23), q 5 (.asg 0 (.const (.int .i64 0)) 2)] false) (.seq (.seq (.region 1 [q 10 (.mov (t 0)), q 11 (.load 26 (t 3)), q 12 (.call 0 (.func 52) [(t 10), (t 11), (.const (.bool true)), (.const (.bool false)), (.const (.slice none 0 0))]), q 6 (.asg 0 (t 12) 2)] false) (.seq (.region 2 [q 13 (.mov (t 6)), q 14 (.bin .neq 2 (t 13) (.const (.int .i64 0)))] false) (.cond (t 14) (.seq (.region 3 [q 15 (.mov (t 6)), q 4 (.asg 2 (.const (.slice none 0 0)) 23), q 5 (.asg 0 (t 15) 2)] false) .ret) .skip))) (.seq (.region 4 [q 7 (.asg 2 (.const (.slice none 0 0)) 23)] false) (.seq (.seq (.region 5 [q 16 (.mov (t 0)), q 17 (.load 26 (t 3)), q 18 (.call 0 (.func 53) [(t 16), (t 17)]), q 19 (.call 0 (.func 54) [(t 18)]), q 20 (.blt 0 .len [(t 19)] [64]), q 21 (.mov (.const (.int .i64 0)))] false) (.block 0 (.loop (.seq (.region 6 [q 22 (.bin .lss 3 (t 21) (t 20))] false) (.seq (.cond (t 22) .skip (.exit 0)) (.seq (.block 1 (.seq (.region 7 [q 23 (.indexAddr 64 (t 19) (t 21)), q 24 (.load 72 (t 23)), q 9 (.alloc 72), ⟨none, .store 72 (t 9) (t 24), none, []⟩] false) (.region 8 [q 25 (.mov (t 7)), q 26 (.load 72 (t 9)), q 27 (.call 0 (.func 55) [(t 26)]), q 28 (.bslice 0 23 1 [(0, (t 27))]), q 29 (.blt 0 .append [(t 25), (t 28)] [23, 23]), q 7 (.asg 2 (t 29) 23)] false))) (.region 9 [q 30 (.bin .add 3 (t 21) (.const (.int .i64 1))), q 21 (.mov (t 30))] false))))))) (.seq (.region 10 [q 31 (.mov (t 7)), q 4 (.asg 2 (t 31) 23), q 5 (.asg 0 (.const (.int .i64 0)) 2)] false) .ret)))))
def impl_ReducedForms_fresh_L : Live := [(0, [0, 1]), (1, [0, 3]), (2, [0, 3, 6]), (3, [6]), (4, [0, 3]), (5, [0, 3, 7]), (6, [7, 19, 20, 21]), (7, [7, 19, 20, 21]), (8, [7, 9, 19, 20, 21]), (9, [7, 19, 20, 21]), (10, [7]), (100014, [0, 3, 6, 14]), (100022, [7, 19, 20, 21, 22])]
noncomputable def impl_ReducedForms_fresh_l1 (r47 : (List ((List Int) × (List Int)))) (x57 : Int) (x58 : (List ((Vec Int 64) × (Vec Int 64)))) : Option ((Int × (List ((Vec Int 64) × (Vec Int 64)))) ⊕ (List ((Vec Int 64) × (Vec Int 64)))) :=
  (if (decide (x57 < (r47.length : Int))) then (ifp (0 ≤ x57 ∧ x57 < ((r47.length : Nat) : Int)) ((Option.bind (impl_form_told (rd r47 x57.toNat)) fun r75 => (ifp ((x58.length + ([r75] : List ((Vec Int 64) × (Vec Int 64))).length) * 128 ≤ 140737488355328) ((some (.inl ((IntKind.i64.wrap (x57 + 1), (x58 ++ ([r75]))))))))))) else (some (.inr x58)))
noncomputable def impl_ReducedForms_fresh (a0 : Int) (a1 : (Vec Int 64)) : Option ((List ((Vec Int 64) × (Vec Int 64))) × Int) :=
  (Option.bind (impl_formCode a0 a1 true false ([])) fun r2 => (if (r2 != 0) then (some ([], r2)) else (Option.bind (α := (List ((Vec Int 64) × (Vec Int 64)))) ((Option.bind (impl_curveOf a0 a1) fun r45 => (Option.bind (impl_curve_forms r45) fun r47 => (loopM (fun s : (Int × (List ((Vec Int 64) × (Vec Int 64)))) => impl_ReducedForms_fresh_l1 r47 s.1 s.2) (0, []))))) fun x40 => (some (x40, 0)))))
theorem impl_ReducedForms_fresh_ok (a0 : Int) (a1 : (Vec Int 64)) (r : ((List ((Vec Int 64) × (Vec Int 64))) × Int)) (h : impl_ReducedForms_fresh a0 a1 = some r) : Den Try.prog 16 [(i6 a0), (eA64u8 a1)] { r := (.tuple [(.osl 2000000), (i6 r.2)]), ms := [], fs := [(128, r.1.map eT_A64u8_A64u8_Z)] } := by
  refine den_ofX (rs := [(.osl 2000000), (i6 r.2)]) (ac := impl_ReducedForms_fresh_c) (L := impl_ReducedForms_fresh_L) (n := 32) (m := [(4, 2), (7, 2)]) (c := Try.f16.body.getD .skip) good Try.func16 (by kernel_rfl) (by kernel_rfl) Try.ntmps16 rfl rfl (by kernel_rfl) rfl ?_
  refine a_st (σ' := ⟨[(0, (i6 a0)), (1, (eA64u8 a1))], []⟩) (by kernel_rfl) ?_
  unfold impl_ReducedForms_fresh_c
  refine sr (vo 1300 (eA64u8 a1) rfl rfl (vu (.osl 1400) [(1400, (bk (.row 128 (([]).map eT_A64u8_A64u8_Z))))] rfl trivial rfl (vp (i6 0) rfl (nx ⟨[(0, (i6 a0)), (3, (ow 3))], [(3, (bk (eA64u8 a1)))]⟩ (by kernel_rfl) (a_seq (sr (vp (i6 a0) rfl (vl (eA64u8 a1) rfl rfl rfl rfl rfl rfl ?_))))))))
  obtain ⟨r2, hr3, h⟩ := bind_some h
  refine a_call (args := [(i6 a0), (eA64u8 a1), (.bool true), (.bool false), (.sl 0 true [])]) (u := []) (r := (i6 r2)) rfl rfl (Den.args (impl_formCode_ok a0 a1 true false ([]) r2 hr3) rfl rfl (.cons (.refl _) (.cons (.refl _) (.cons (.refl _) (.cons (.refl _) (.cons (.nil _ _ _ _ (fun _ => rfl)) .nil)))))) rfl (vp (i6 r2) rfl (nx ⟨[(0, (i6 a0)), (3, (ow 3)), (6, (i6 r2))], [(3, (bk (eA64u8 a1)))]⟩ (by kernel_rfl) (sr (vp (i6 r2) rfl (vp (.bool (r2 != 0)) rfl (nx ⟨[(0, (i6 a0)), (3, (ow 3)), (6, (i6 r2)), (14, (.bool (r2 != 0)))], [(3, (bk (eA64u8 a1)))]⟩ (by kernel_rfl) ?_))))))
  cases hb4 : (r2 != 0)
  · have h := ite_f hb4 h
    refine a_cond_f rfl (a_skip (a_next (σ' := ⟨[(0, (i6 a0)), (3, (ow 3))], [(3, (bk (eA64u8 a1)))]⟩) (by kernel_rfl) (sr (vu (.osl 1700) [(1700, (bk (.row 128 (([]).map eT_A64u8_A64u8_Z))))] rfl trivial rfl (nx ⟨[(0, (i6 a0)), (3, (ow 3)), (7, (.osl 7))], [(3, (bk (eA64u8 a1))), (7, (bk (.row 128 (([]).map eT_A64u8_A64u8_Z))))]⟩ (by kernel_rfl) ?_)))))
    obtain ⟨y41, hy42, hk43⟩ := bind_some h
    clear h
    refine a_join (emb := fun (s : (List ((Vec Int 64) × (Vec Int 64)))) => ⟨[(7, (.osl 7))], [(7, (bk (.row 128 (s.map eT_A64u8_A64u8_Z))))]⟩) (pre := fun s => s = y41) ?_ ?_
    · rintro x40 rfl
      have h := hk43
      refine a_st (σ' := ⟨[(7, (.osl 7))], [(7, (bk (.row 128 (x40.map eT_A64u8_A64u8_Z))))]⟩) (by kernel_rfl) (sr (vp (.osl 7) rfl (vp (.osl 7) rfl (vp (i6 0) rfl (nx _ rfl (a_ret ?_))))))
      refine ⟨.inr rfl, ?_⟩
      rw [Try.results16]
      cases h
      exact ⟨[some 7], ⟨_, _, _, _, _, rfl, trivial, rfl, .inr (.inl ⟨_, _, _, _, _, rfl, rfl, rfl, rfl, rfl, ⟨_, _, _, _, _, rfl, trivial, rfl, .inl ⟨rfl, .inl rfl, ⟨rfl, rfl, rfl⟩⟩⟩⟩)⟩, rfl, rfl⟩
    · have h := hy42
      refine sr (vp (i6 a0) rfl (vl (eA64u8 a1) rfl rfl rfl rfl rfl rfl ?_))
      obtain ⟨r45, hr46, h⟩ := bind_some h
      refine a_call (args := [(i6 a0), (eA64u8 a1)]) (u := []) (r := (eT_i64_Si64_Z r45)) rfl rfl (impl_curveOf_ok a0 a1 r45 hr46) rfl ?_
      obtain ⟨r47, hr48, h⟩ := bind_some h
      refine a_call (args := [(eT_i64_Si64_Z r45)]) (u := []) (r := (eST_Si64_Si64_Z r47)) rfl rfl (impl_curve_forms_ok r45 r47 hr48) rfl (vq (i6 (r47.length : Int)) (len_run rfl rfl) trivial (vp (i6 0) rfl (nx ⟨[(7, (.osl 7)), (19, (eST_Si64_Si64_Z r47)), (20, (i6 (r47.length : Int))), (21, (i6 0))], [(7, (bk (.row 128 (([]).map eT_A64u8_A64u8_Z))))]⟩ (by kernel_rfl) (a_block ?_))))
      refine a_loop (emb := fun (s : (Int × (List ((Vec Int 64) × (Vec Int 64))))) => ⟨[(7, (.osl 7)), (19, (eST_Si64_Si64_Z r47)), (20, (i6 (r47.length : Int))), (21, (i6 s.1))], [(7, (bk (.row 128 (s.2.map eT_A64u8_A64u8_Z))))]⟩) (body := (fun s : (Int × (List ((Vec Int 64) × (Vec Int 64)))) => impl_ReducedForms_fresh_l1 r47 s.1 s.2)) (G := fun q => some q = some y41) h rfl ?_ (by kernel_rfl)
      rintro X67 ⟨x57, x58⟩ x68 h hX69
      have h : impl_ReducedForms_fresh_l1 r47 x57 x58 = some x68 := h
      refine a_st (σ' := ⟨[(7, (.osl 7)), (19, (eST_Si64_Si64_Z r47)), (20, (i6 (r47.length : Int))), (21, (i6 x57))], [(7, (bk (.row 128 (x58.map eT_A64u8_A64u8_Z))))]⟩) (by kernel_rfl) (sr (vp (.bool ((decide (x57 < (r47.length : Int))))) rfl (nx ⟨[(7, (.osl 7)), (19, (eST_Si64_Si64_Z r47)), (20, (i6 (r47.length : Int))), (21, (i6 x57)), (22, (.bool ((decide (x57 < (r47.length : Int))))))], [(7, (bk (.row 128 (x58.map eT_A64u8_A64u8_Z))))]⟩ (by kernel_rfl) (a_seq ?_))))
      cases hb70 : (decide (x57 < (r47.length : Int)))
      · have h := ite_f hb70 h
        refine a_cond_f rfl (a_exit (t_exit ?_))
        cases h
        have h := hX69
        refine t_exit (b_exit ?_)
        exact j_leaf x58 (Option.some.inj h) (by kernel_rfl)
      · have h := ite_t hb70 h
        refine a_cond_t rfl (a_skip (a_next (σ' := ⟨[(7, (.osl 7)), (19, (eST_Si64_Si64_Z r47)), (20, (i6 (r47.length : Int))), (21, (i6 x57))], [(7, (bk (.row 128 (x58.map eT_A64u8_A64u8_Z))))]⟩) (by kernel_rfl) (a_seq (a_block (sr ?_)))))
        obtain ⟨hc71, h⟩ := ifp_some h
        refine vq (.ref (.row 2 (r47.map eT_Si64_Si64_Z)) [x57.toNat] [x57.toNat * 2]) rfl (lmap hc71) ?_
        have hl72 : LdOk [x57.toNat] (.row 2 (r47.map eT_Si64_Si64_Z)) [x57.toNat * 2] 2 true (eT_Si64_Si64_Z (rd r47 x57.toNat)) := (.row (llt hc71) rfl (.nil rfl rfl rfl))
        refine vq (eT_Si64_Si64_Z (rd r47 x57.toNat)) (ld_ref (i := ⟨.struct [(0, 66), (1, 66)], 2, 48, (eT_Si64_Si64_Z ([], []))⟩) rfl rfl hl72) hl72.c (vo 1900 (eT_Si64_Si64_Z ([], [])) rfl rfl (vs (eT_Si64_Si64_Z (rd r47 x57.toNat)) rfl rfl (fun _ => rfl) rfl rfl rfl rfl rfl rfl (nx ⟨[(7, (.osl 7)), (9, (ow 9)), (19, (eST_Si64_Si64_Z r47)), (20, (i6 (r47.length : Int))), (21, (i6 x57))], [(7, (bk (.row 128 (x58.map eT_A64u8_A64u8_Z)))), (9, (bk (eT_Si64_Si64_Z (rd r47 x57.toNat))))]⟩ (by kernel_rfl) (a_region (vp (.osl 7) rfl (vl (eT_Si64_Si64_Z (rd r47 x57.toNat)) rfl rfl rfl rfl rfl rfl ?_))))))
        obtain ⟨r75, hr76, h⟩ := bind_some h
        refine a_call (args := [(eT_Si64_Si64_Z (rd r47 x57.toNat))]) (u := []) (r := (eT_A64u8_A64u8_Z r75)) rfl rfl (impl_form_told_ok (rd r47 x57.toNat) r75 hr76) rfl (vq (.sl 128 true (([r75]).map eT_A64u8_A64u8_Z)) rfl ⟨(Nat.le_of_ble_eq_true rfl), (Nat.le_of_ble_eq_true rfl), (all_cons ⟨(Nat.le_of_ble_eq_true rfl), rfl⟩ all_nil)⟩ ?_)
        obtain ⟨hc77, h⟩ := ifp_some h
        refine vu (.osl 3900) [(3900, (bk (.row 128 (((x58 ++ ([r75]))).map eT_A64u8_A64u8_Z)))), (7, none)] (app_run (i := ⟨.struct [(0, 26), (64, 26)], 128, 128, (eT_A64u8_A64u8_Z ((vrep 64 (0 : Int)), (vrep 64 (0 : Int))))⟩) (f := eT_A64u8_A64u8_Z) (l := x58) (l2 := [r75]) rfl rfl rfl rfl (fun _ => rfl) rfl rfl) (app_c (f := eT_A64u8_A64u8_Z) (s := 128) (sz := 128) (by' := 128) (u := []) (id := 7) hc77 (.inr rfl) rfl rfl rfl) rfl (vp (.osl 3900) rfl (a_nil (b_norm (a_next (σ' := ⟨[(7, (.osl 7)), (19, (eST_Si64_Si64_Z r47)), (20, (i6 (r47.length : Int))), (21, (i6 x57))], [(7, (bk (.row 128 (((x58 ++ ([r75]))).map eT_A64u8_A64u8_Z))))]⟩) (by kernel_rfl) (a_region (vp (i6 (IntKind.i64.wrap (x57 + 1))) rfl (vp (i6 (IntKind.i64.wrap (x57 + 1))) rfl (a_nil ?_))))))))
        cases h
        exact a_again (by kernel_rfl) hX69
  · have h := ite_t hb4 h
    refine a_cond_t rfl (sr (vp (i6 r2) rfl (vu (.osl 1400) [(1400, (bk (.row 128 (([]).map eT_A64u8_A64u8_Z))))] rfl trivial rfl (vp (i6 r2) rfl (nx _ rfl (a_ret (t_ret ?_)))))))
    refine ⟨.inr rfl, ?_⟩
    rw [Try.results16]
    cases h
    exact ⟨[some 1400], ⟨_, _, _, _, _, rfl, trivial, rfl, .inr (.inl ⟨_, _, _, _, _, rfl, rfl, rfl, rfl, rfl, ⟨_, _, _, _, _, rfl, trivial, rfl, .inl ⟨rfl, .inl rfl, ⟨rfl, rfl, rfl⟩⟩⟩⟩)⟩, rfl, rfl⟩
def laws_eqPoly_c : ACode := (.seq (.region 0 [q 2 (.box 26 (t 0)), q 3 (.box 26 (t 1)), q 4 (.asg 0 (.const (.bool false)) 4)] false) (.seq (.seq (.region 1 [q 5 (.asg 0 (.const (.int .i64 0)) 3)] false) (.block 0 (.loop (.seq (.seq (.region 2 [q 6 (.mov (t 5)), q 7 (.bin .lss 3 (t 6) (.const (.int .i64 64)))] false) (.cond (t 7) .skip (.exit 0))) (.seq (.block 1 (.seq (.region 4 [q 10 (.mov (t 5)), ⟨some 11, .indexAddr 26 (t 2) (t 10), none, [0]⟩, ⟨some 12, .load 5 (t 11), none, [1]⟩, q 13 (.mov (t 5)), ⟨some 14, .indexAddr 26 (t 3) (t 13), none, [3]⟩, ⟨some 15, .load 5 (t 14), none, [4]⟩, ⟨some 16, .bin .neq 5 (t 12) (t 15), none, [2, 5]⟩] true) (.cond (t 16) (.seq (.region 5 [q 4 (.asg 0 (.const (.bool false)) 4)] false) .ret) .skip))) (.region 3 [q 8 (.mov (t 5)), q 9 (.bin .add 3 (t 8) (.const (.int .i64 1))), q 5 (.asg 0 (t 9) 3)] false)))))) (.seq (.region 6 [q 4 (.asg 0 (.const (.bool true)) 4)] false) .ret)))
def laws_eqPoly_L : Live := [(0, [0, 1]), (1, [2, 3]), (2, [2, 3, 5]), (3, [2, 3, 5]), (4, [2, 3, 5]), (5, []), (6, []), (100007, [2, 3, 5, 7]), (100016, [2, 3, 5, 16])]
noncomputable def laws_eqPoly_l1 (a0 : (Vec Int 64)) (a1 : (Vec Int 64)) (x49 : Int) : Option (Int ⊕ (Unit ⊕ Bool)) :=
  (if (decide (x49 < 64)) then (ifp (0 ≤ x49 ∧ x49 < ((64 : Nat) : Int)) ((ifp (0 ≤ x49 ∧ x49 < ((64 : Nat) : Int)) ((if ((rd a0.1 x49.toNat) != (rd a1.1 x49.toNat)) then (some (.inr (.inr false))) else (some (.inl (IntKind.i64.wrap (x49 + 1))))))))) else (some (.inr (((.inl ()))))))
noncomputable def laws_eqPoly (a0 : (Vec Int 64)) (a1 : (Vec Int 64)) : Option Bool :=
  (Option.bind (α := (Unit ⊕ Bool)) ((loopM (fun s : Int => laws_eqPoly_l1 a0 a1 s) 0)) fun z => match z with | .inl _ => (some true) | .inr r74 => (some r74))
theorem laws_eqPoly_ok (a0 : (Vec Int 64)) (a1 : (Vec Int 64)) (r : Bool) (h : laws_eqPoly a0 a1 = some r) : Den Try.prog 34 [(eA64u8 a0), (eA64u8 a1)] { r := (.bool r) } := by
  refine den_of (rs := [(.bool r)]) (ac := laws_eqPoly_c) (L := laws_eqPoly_L) (n := 17) (m := []) (c := Try.f34.body.getD .skip) good Try.func34 (by kernel_rfl) (by kernel_rfl) Try.ntmps34 rfl rfl (by kernel_rfl) rfl rfl ?_
  refine a_st (σ' := ⟨[(0, (eA64u8 a0)), (1, (eA64u8 a1))], []⟩) (by kernel_rfl) ?_
  unfold laws_eqPoly_c
  refine sr (vo 1200 (eA64u8 a0) rfl rfl (vo 1300 (eA64u8 a1) rfl rfl (vp (.bool false) rfl (nx ⟨[(2, (ow 2)), (3, (ow 3))], [(2, (bk (eA64u8 a0))), (3, (bk (eA64u8 a1)))]⟩ (by kernel_rfl) ?_))))
  obtain ⟨y36, hy37, hk38⟩ := bind_some h
  clear h
  refine a_join (emb := fun (s : Unit) => ⟨[], []⟩) (pre := fun s => (.inl s) = y36) ?_ ?_
  · rintro _ rfl
    have h := hk38
    refine a_st (σ' := ⟨[], []⟩) (by kernel_rfl) (sr (vp (.bool true) rfl (nx _ rfl (a_ret ?_))))
    refine ⟨.inr rfl, ?_⟩
    rw [Try.results34]
    cases h
    exact ⟨_, _, _, _, _, rfl, trivial, .inl ⟨rfl, .inl rfl⟩, rfl, rfl⟩
  · have h := hy37
    refine sr (vp (i6 0) rfl (nx ⟨[(2, (ow 2)), (3, (ow 3)), (5, (i6 0))], [(2, (bk (eA64u8 a0))), (3, (bk (eA64u8 a1)))]⟩ (by kernel_rfl) (a_block ?_)))
    refine a_loop (emb := fun (s : Int) => ⟨[(2, (ow 2)), (3, (ow 3)), (5, (i6 s))], [(2, (bk (eA64u8 a0))), (3, (bk (eA64u8 a1)))]⟩) (body := (fun s : Int => laws_eqPoly_l1 a0 a1 s)) (G := fun q => some q = some y36) h rfl ?_ (by kernel_rfl)
    rintro X60 x49 x61 h hX62
    have h : laws_eqPoly_l1 a0 a1 x49 = some x61 := h
    refine a_st (σ' := ⟨[(2, (ow 2)), (3, (ow 3)), (5, (i6 x49))], [(2, (bk (eA64u8 a0))), (3, (bk (eA64u8 a1)))]⟩) (by kernel_rfl) (a_seq (sr (vp (i6 x49) rfl (vp (.bool ((decide (x49 < 64)))) rfl (nx ⟨[(2, (ow 2)), (3, (ow 3)), (5, (i6 x49)), (7, (.bool ((decide (x49 < 64)))))], [(2, (bk (eA64u8 a0))), (3, (bk (eA64u8 a1)))]⟩ (by kernel_rfl) ?_)))))
    cases hb63 : (decide (x49 < 64))
    · have h := ite_f hb63 h
      refine a_cond_f rfl (a_exit (t_exit ?_))
      cases h
      have h := hX62
      refine t_exit (b_exit ?_)
      exact j_leaf () (Option.some.inj h) (by kernel_rfl)
    · have h := ite_t hb63 h
      refine a_cond_t rfl (a_skip (a_next (σ' := ⟨[(2, (ow 2)), (3, (ow 3)), (5, (i6 x49))], [(2, (bk (eA64u8 a0))), (3, (bk (eA64u8 a1)))]⟩) (by kernel_rfl) (a_seq (a_block (a_seq (a_draw [⟨[], [], [], []⟩, ⟨[2], [], [2], [0]⟩, ⟨[2], [], [], [0, 1]⟩, ⟨[], [], [], []⟩, ⟨[3], [], [3], [3]⟩, ⟨[3], [], [], [3, 4]⟩, ⟨[], [], [], [0, 1, 2, 3, 4, 5]⟩] (by kernel_rfl) (dp (i6 x49) rfl (by kernel_rfl) (d_cons ?_))))))))
      obtain ⟨hc68, h⟩ := ifp_some h
      refine vq (.own 2 [x49.toNat] [x49.toNat * 1]) rfl hc68 (d_next (by kernel_rfl) (d_cons ?_))
      have hl69 : LdOk [x49.toNat] (eA64u8 a0) [x49.toNat * 1] 1 false (b8 (rd a0.1 x49.toNat)) := (.arr (vlt a0 hc68) rfl (.nil rfl rfl rfl))
      refine vq (b8 (rd a0.1 x49.toNat)) (ld_own (i := ⟨.int .u8, 1, 1, (.int .u8 0)⟩) rfl rfl rfl hl69) hl69.c (d_next (by kernel_rfl) (dp (i6 x49) rfl (by kernel_rfl) (d_cons ?_)))
      obtain ⟨hc70, h⟩ := ifp_some h
      refine vq (.own 3 [x49.toNat] [x49.toNat * 1]) rfl hc70 (d_next (by kernel_rfl) (d_cons ?_))
      have hl71 : LdOk [x49.toNat] (eA64u8 a1) [x49.toNat * 1] 1 false (b8 (rd a1.1 x49.toNat)) := (.arr (vlt a1 hc70) rfl (.nil rfl rfl rfl))
      refine vq (b8 (rd a1.1 x49.toNat)) (ld_own (i := ⟨.int .u8, 1, 1, (.int .u8 0)⟩) rfl rfl rfl hl71) hl71.c (d_next (by kernel_rfl) (dp (.bool (((rd a0.1 x49.toNat) != (rd a1.1 x49.toNat)))) rfl (by kernel_rfl) (d_nil (a_next (σ' := ⟨[(2, (ow 2)), (3, (ow 3)), (5, (i6 x49)), (16, (.bool (((rd a0.1 x49.toNat) != (rd a1.1 x49.toNat)))))], [(2, (bk (eA64u8 a0))), (3, (bk (eA64u8 a1)))]⟩) (by kernel_rfl) ?_))))
      cases hb72 : ((rd a0.1 x49.toNat) != (rd a1.1 x49.toNat))
      · have h := ite_f hb72 h
        refine a_cond_f rfl (a_skip (b_norm (a_next (σ' := ⟨[(2, (ow 2)), (3, (ow 3)), (5, (i6 x49))], [(2, (bk (eA64u8 a0))), (3, (bk (eA64u8 a1)))]⟩) (by kernel_rfl) (a_region (vp (i6 x49) rfl (vp (i6 (IntKind.i64.wrap (x49 + 1))) rfl (vp (i6 (IntKind.i64.wrap (x49 + 1))) rfl (a_nil ?_))))))))
        cases h
        exact a_again (by kernel_rfl) hX62
      · have h := ite_t hb72 h
        refine a_cond_t rfl (sr (vp (.bool false) rfl (nx _ rfl (a_ret (b_ret (t_ret ?_))))))
        cases h
        have h := hX62
        refine t_ret (b_ret (t_ret ?_))
        cases h
        have h := hk38
        refine ⟨.inr rfl, ?_⟩
        rw [Try.results34]
        cases h
        exact ⟨_, _, _, _, _, rfl, trivial, .inl ⟨rfl, .inl rfl⟩, rfl, rfl⟩
def laws_eqForm_c : ACode := (.seq (.region 0 [q 2 (.box 74 (t 0)), q 3 (.box 74 (t 1)), q 4 (.asg 0 (.const (.bool false)) 4)] false) (.seq (.seq (.region 1 [q 5 (.fieldAddr 74 (t 2) 0), q 6 (.load 26 (t 5)), q 7 (.fieldAddr 74 (t 3) 0), q 8 (.load 26 (t 7)), q 9 (.call 0 (.func 34) [(t 6), (t 8)]), q 10 (.un .not (t 9))] false) (.cond (t 10) (.seq (.region 2 [q 4 (.asg 0 (.const (.bool false)) 4)] false) .ret) .skip)) (.seq (.seq (.region 3 [q 11 (.fieldAddr 74 (t 2) 1), q 12 (.load 26 (t 11)), q 13 (.fieldAddr 74 (t 3) 1), q 14 (.load 26 (t 13)), q 15 (.call 0 (.func 34) [(t 12), (t 14)]), q 16 (.un .not (t 15))] false) (.cond (t 16) (.seq (.region 4 [q 4 (.asg 0 (.const (.bool false)) 4)] false) .ret) .skip)) (.seq (.region 5 [q 4 (.asg 0 (.const (.bool true)) 4)] false) .ret))))
def laws_eqForm_L : Live := [(0, [0, 1]), (1, [2, 3]), (2, []), (3, [2, 3]), (4, []), (5, []), (100010, [2, 3, 10]), (100016, [16])]
noncomputable def laws_eqForm (a0 : ((Vec Int 64) × (Vec Int 64))) (a1 : ((Vec Int 64) × (Vec Int 64))) : Option Bool :=
  (Option.bind (laws_eqPoly a0.1 a1.1) fun r3 => (if (!r3) then (some false) else (Option.bind (laws_eqPoly a0.2 a1.2) fun r8 => (if (!r8) then (some false) else (some true)))))
theorem laws_eqForm_ok (a0 : ((Vec Int 64) × (Vec Int 64))) (a1 : ((Vec Int 64) × (Vec Int 64))) (r : Bool) (h : laws_eqForm a0 a1 = some r) : Den Try.prog 56 [(eT_A64u8_A64u8_Z a0), (eT_A64u8_A64u8_Z a1)] { r := (.bool r) } := by
  refine den_of (rs := [(.bool r)]) (ac := laws_eqForm_c) (L := laws_eqForm_L) (n := 17) (m := []) (c := Try.f56.body.getD .skip) good Try.func56 (by kernel_rfl) (by kernel_rfl) Try.ntmps56 rfl rfl (by kernel_rfl) rfl rfl ?_
  refine a_st (σ' := ⟨[(0, (eT_A64u8_A64u8_Z a0)), (1, (eT_A64u8_A64u8_Z a1))], []⟩) (by kernel_rfl) ?_
  unfold laws_eqForm_c
  refine sr (vo 1200 (eT_A64u8_A64u8_Z a0) rfl rfl (vo 1300 (eT_A64u8_A64u8_Z a1) rfl rfl (vp (.bool false) rfl (nx ⟨[(2, (ow 2)), (3, (ow 3))], [(2, (bk (eT_A64u8_A64u8_Z a0))), (3, (bk (eT_A64u8_A64u8_Z a1)))]⟩ (by kernel_rfl) (a_seq (sr (vb (.own 2 [0] [0]) rfl rfl ?_)))))))
  have hl1 : LdOk [0] (eT_A64u8_A64u8_Z a0) [0] 64 true (eA64u8 a0.1) := (.fld rfl rfl rfl rfl (.nil rfl rfl rfl))
  refine vq (eA64u8 a0.1) (ld_own (i := ⟨.arr 64 5, 64, 64, (eA64u8 (vrep 64 (0 : Int)))⟩) rfl rfl rfl hl1) hl1.c (vb (.own 3 [0] [0]) rfl rfl ?_)
  have hl2 : LdOk [0] (eT_A64u8_A64u8_Z a1) [0] 64 true (eA64u8 a1.1) := (.fld rfl rfl rfl rfl (.nil rfl rfl rfl))
  refine vq (eA64u8 a1.1) (ld_own (i := ⟨.arr 64 5, 64, 64, (eA64u8 (vrep 64 (0 : Int)))⟩) rfl rfl rfl hl2) hl2.c ?_
  obtain ⟨r3, hr4, h⟩ := bind_some h
  refine a_call (args := [(eA64u8 a0.1), (eA64u8 a1.1)]) (u := []) (r := (.bool r3)) rfl rfl (laws_eqPoly_ok a0.1 a1.1 r3 hr4) rfl (vp (.bool (!r3)) rfl (nx ⟨[(2, (ow 2)), (3, (ow 3)), (10, (.bool (!r3)))], [(2, (bk (eT_A64u8_A64u8_Z a0))), (3, (bk (eT_A64u8_A64u8_Z a1)))]⟩ (by kernel_rfl) ?_))
  cases hb5 : (!r3)
  · have h := ite_f hb5 h
    refine a_cond_f rfl (a_skip (a_next (σ' := ⟨[(2, (ow 2)), (3, (ow 3))], [(2, (bk (eT_A64u8_A64u8_Z a0))), (3, (bk (eT_A64u8_A64u8_Z a1)))]⟩) (by kernel_rfl) (a_seq (sr (vb (.own 2 [1] [64]) rfl rfl ?_)))))
    have hl6 : LdOk [1] (eT_A64u8_A64u8_Z a0) [64] 64 true (eA64u8 a0.2) := (.fld rfl rfl rfl rfl (.nil rfl rfl rfl))
    refine vq (eA64u8 a0.2) (ld_own (i := ⟨.arr 64 5, 64, 64, (eA64u8 (vrep 64 (0 : Int)))⟩) rfl rfl rfl hl6) hl6.c (vb (.own 3 [1] [64]) rfl rfl ?_)
    have hl7 : LdOk [1] (eT_A64u8_A64u8_Z a1) [64] 64 true (eA64u8 a1.2) := (.fld rfl rfl rfl rfl (.nil rfl rfl rfl))
    refine vq (eA64u8 a1.2) (ld_own (i := ⟨.arr 64 5, 64, 64, (eA64u8 (vrep 64 (0 : Int)))⟩) rfl rfl rfl hl7) hl7.c ?_
    obtain ⟨r8, hr9, h⟩ := bind_some h
    refine a_call (args := [(eA64u8 a0.2), (eA64u8 a1.2)]) (u := []) (r := (.bool r8)) rfl rfl (laws_eqPoly_ok a0.2 a1.2 r8 hr9) rfl (vp (.bool (!r8)) rfl (nx ⟨[(16, (.bool (!r8)))], []⟩ (by kernel_rfl) ?_))
    cases hb10 : (!r8)
    · have h := ite_f hb10 h
      refine a_cond_f rfl (a_skip (a_next (σ' := ⟨[], []⟩) (by kernel_rfl) (sr (vp (.bool true) rfl (nx _ rfl (a_ret ?_))))))
      refine ⟨.inr rfl, ?_⟩
      rw [Try.results56]
      cases h
      exact ⟨_, _, _, _, _, rfl, trivial, .inl ⟨rfl, .inl rfl⟩, rfl, rfl⟩
    · have h := ite_t hb10 h
      refine a_cond_t rfl (sr (vp (.bool false) rfl (nx _ rfl (a_ret (t_ret ?_)))))
      refine ⟨.inr rfl, ?_⟩
      rw [Try.results56]
      cases h
      exact ⟨_, _, _, _, _, rfl, trivial, .inl ⟨rfl, .inl rfl⟩, rfl, rfl⟩
  · have h := ite_t hb5 h
    refine a_cond_t rfl (sr (vp (.bool false) rfl (nx _ rfl (a_ret (t_ret ?_)))))
    refine ⟨.inr rfl, ?_⟩
    rw [Try.results56]
    cases h
    exact ⟨_, _, _, _, _, rfl, trivial, .inl ⟨rfl, .inl rfl⟩, rfl, rfl⟩
def laws_eqFormS_c : ACode := (.seq (.region 0 [q 4 (.asg 0 (.const (.bool false)) 4)] false) (.seq (.seq (.region 1 [q 6 (.mov (t 0)), q 7 (.blt 0 .len [(t 6)] [23]), q 8 (.mov (t 1)), q 9 (.blt 0 .len [(t 8)] [23]), q 10 (.bin .neq 3 (t 7) (t 9))] false) (.cond (t 10) (.seq (.region 2 [q 4 (.asg 0 (.const (.bool false)) 4)] false) .ret) .skip)) (.seq (.seq (.region 3 [q 5 (.asg 0 (.const (.int .i64 0)) 3)] false) (.block 0 (.loop (.seq (.seq (.region 4 [q 11 (.mov (t 5)), q 12 (.mov (t 0)), q 13 (.blt 0 .len [(t 12)] [23]), q 14 (.bin .lss 3 (t 11) (t 13))] false) (.cond (t 14) .skip (.exit 0))) (.seq (.block 1 (.seq (.region 6 [q 17 (.mov (t 0)), q 18 (.mov (t 5)), ⟨some 19, .indexAddr 23 (t 17) (t 18), none, [0, 1]⟩, ⟨some 20, .load 74 (t 19), none, [2]⟩, q 21 (.mov (t 1)), q 22 (.mov (t 5)), ⟨some 23, .indexAddr 23 (t 21) (t 22), none, [4, 5]⟩, ⟨some 24, .load 74 (t 23), none, [6]⟩, ⟨some 25, .call 0 (.func 56) [(t 20), (t 24)], none, [3, 7]⟩, ⟨some 26, .un .not (t 25), none, [8]⟩] true) (.cond (t 26) (.seq (.region 7 [q 4 (.asg 0 (.const (.bool false)) 4)] false) .ret) .skip))) (.region 5 [q 15 (.mov (t 5)), q 16 (.bin .add 3 (t 15) (.const (.int .i64 1))), q 5 (.asg 0 (t 16) 3)] false)))))) (.seq (.region 8 [q 4 (.asg 0 (.const (.bool true)) 4)] false) .ret))))
def laws_eqFormS_L : Live := [(0, [0, 1]), (1, [0, 1]), (2, []), (3, [0, 1]), (4, [0, 1, 5]), (5, [0, 1, 5]), (6, [0, 1, 5]), (7, []), (8, []), (100010, [0, 1, 10]), (100014, [0, 1, 5, 14]), (100026, [0, 1, 5, 26])]
noncomputable def laws_eqFormS_l1 (a0 : (List ((Vec Int 64) × (Vec Int 64)))) (a1 : (List ((Vec Int 64) × (Vec Int 64)))) (x66 : Int) : Option (Int ⊕ (Unit ⊕ Bool)) :=
  (if (decide (x66 < (a0.length : Int))) then (ifp (0 ≤ x66 ∧ x66 < ((a0.length : Nat) : Int)) ((ifp (0 ≤ x66 ∧ x66 < ((a1.length : Nat) : Int)) ((Option.bind (laws_eqForm (rd a0 x66.toNat) (rd a1 x66.toNat)) fun r95 => (if (!r95) then (some (.inr (.inr false))) else (some (.inl (IntKind.i64.wrap (x66 + 1)))))))))) else (some (.inr (((.inl ()))))))
noncomputable def laws_eqFormS (a0 : (List ((Vec Int 64) × (Vec Int 64)))) (a1 : (List ((Vec Int 64) × (Vec Int 64)))) : Option Bool :=
  (if ((a0.length : Int) != (a1.length : Int)) then (some false) else (Option.bind (α := (Unit ⊕ Bool)) ((loopM (fun s : Int => laws_eqFormS_l1 a0 a1 s) 0)) fun z => match z with | .inl _ => (some true) | .inr r99 => (some r99)))
theorem laws_eqFormS_ok (a0 : (List ((Vec Int 64) × (Vec Int 64)))) (a1 : (List ((Vec Int 64) × (Vec Int 64)))) (r : Bool) (h : laws_eqFormS a0 a1 = some r) : Den Try.prog 17 [(eST_A64u8_A64u8_Z a0), (eST_A64u8_A64u8_Z a1)] { r := (.bool r) } := by
  refine den_of (rs := [(.bool r)]) (ac := laws_eqFormS_c) (L := laws_eqFormS_L) (n := 27) (m := []) (c := Try.f17.body.getD .skip) good Try.func17 (by kernel_rfl) (by kernel_rfl) Try.ntmps17 rfl rfl (by kernel_rfl) rfl rfl ?_
  refine a_st (σ' := ⟨[(0, (eST_A64u8_A64u8_Z a0)), (1, (eST_A64u8_A64u8_Z a1))], []⟩) (by kernel_rfl) ?_
  unfold laws_eqFormS_c
  refine sr (vp (.bool false) rfl (nx ⟨[(0, (eST_A64u8_A64u8_Z a0)), (1, (eST_A64u8_A64u8_Z a1))], []⟩ (by kernel_rfl) (a_seq (sr (vp (eST_A64u8_A64u8_Z a0) rfl (vq (i6 (a0.length : Int)) (len_run rfl rfl) trivial (vp (eST_A64u8_A64u8_Z a1) rfl (vq (i6 (a1.length : Int)) (len_run rfl rfl) trivial (vp (.bool (((a0.length : Int) != (a1.length : Int)))) rfl ?_)))))))))
  refine nx ⟨[(0, (eST_A64u8_A64u8_Z a0)), (1, (eST_A64u8_A64u8_Z a1)), (10, (.bool (((a0.length : Int) != (a1.length : Int)))))], []⟩ (by kernel_rfl) ?_
  cases hb1 : ((a0.length : Int) != (a1.length : Int))
  · have h := ite_f hb1 h
    refine a_cond_f rfl (a_skip (a_next (σ' := ⟨[(0, (eST_A64u8_A64u8_Z a0)), (1, (eST_A64u8_A64u8_Z a1))], []⟩) (by kernel_rfl) ?_))
    obtain ⟨y49, hy50, hk51⟩ := bind_some h
    clear h
    refine a_join (emb := fun (s : Unit) => ⟨[], []⟩) (pre := fun s => (.inl s) = y49) ?_ ?_
    · rintro _ rfl
      have h := hk51
      refine a_st (σ' := ⟨[], []⟩) (by kernel_rfl) (sr (vp (.bool true) rfl (nx _ rfl (a_ret ?_))))
      refine ⟨.inr rfl, ?_⟩
      rw [Try.results17]
      cases h
      exact ⟨_, _, _, _, _, rfl, trivial, .inl ⟨rfl, .inl rfl⟩, rfl, rfl⟩
    · have h := hy50
      refine sr (vp (i6 0) rfl (nx ⟨[(0, (eST_A64u8_A64u8_Z a0)), (1, (eST_A64u8_A64u8_Z a1)), (5, (i6 0))], []⟩ (by kernel_rfl) (a_block ?_)))
      refine a_loop (emb := fun (s : Int) => ⟨[(0, (eST_A64u8_A64u8_Z a0)), (1, (eST_A64u8_A64u8_Z a1)), (5, (i6 s))], []⟩) (body := (fun s : Int => laws_eqFormS_l1 a0 a1 s)) (G := fun q => some q = some y49) h rfl ?_ (by kernel_rfl)
      rintro X81 x66 x82 h hX83
      have h : laws_eqFormS_l1 a0 a1 x66 = some x82 := h
      refine a_st (σ' := ⟨[(0, (eST_A64u8_A64u8_Z a0)), (1, (eST_A64u8_A64u8_Z a1)), (5, (i6 x66))], []⟩) (by kernel_rfl) (a_seq (sr (vp (i6 x66) rfl (vp (eST_A64u8_A64u8_Z a0) rfl (vq (i6 (a0.length : Int)) (len_run rfl rfl) trivial (vp (.bool ((decide (x66 < (a0.length : Int))))) rfl (nx ⟨[(0, (eST_A64u8_A64u8_Z a0)), (1, (eST_A64u8_A64u8_Z a1)), (5, (i6 x66)), (14, (.bool ((decide (x66 < (a0.length : Int))))))], []⟩ (by kernel_rfl) ?_)))))))
      cases hb84 : (decide (x66 < (a0.length : Int)))
      · have h := ite_f hb84 h
        refine a_cond_f rfl (a_exit (t_exit ?_))
        cases h
        have h := hX83
        refine t_exit (b_exit ?_)
        exact j_leaf () (Option.some.inj h) (by kernel_rfl)
      · have h := ite_t hb84 h
        refine a_cond_t rfl (a_skip (a_next (σ' := ⟨[(0, (eST_A64u8_A64u8_Z a0)), (1, (eST_A64u8_A64u8_Z a1)), (5, (i6 x66))], []⟩) (by kernel_rfl) (a_seq (a_block (a_seq (a_draw [⟨[], [], [], []⟩, ⟨[], [], [], []⟩, ⟨[], [], [], [0, 1]⟩, ⟨[], [], [], [0, 1, 2]⟩, ⟨[], [], [], []⟩, ⟨[], [], [], []⟩, ⟨[], [], [], [4, 5]⟩, ⟨[], [], [], [4, 5, 6]⟩, ⟨[], [], [], [0, 1, 2, 3, 4, 5, 6, 7]⟩, ⟨[], [], [], [0, 1, 2, 3, 4, 5, 6, 7, 8]⟩] (by kernel_rfl) (dp (eST_A64u8_A64u8_Z a0) rfl (by kernel_rfl) (dp (i6 x66) rfl (by kernel_rfl) (d_cons ?_)))))))))
        obtain ⟨hc91, h⟩ := ifp_some h
        refine vq (.ref (.row 128 (a0.map eT_A64u8_A64u8_Z)) [x66.toNat] [x66.toNat * 128]) rfl (lmap hc91) (d_next (by kernel_rfl) (d_cons ?_))
        have hl92 : LdOk [x66.toNat] (.row 128 (a0.map eT_A64u8_A64u8_Z)) [x66.toNat * 128] 128 true (eT_A64u8_A64u8_Z (rd a0 x66.toNat)) := (.row (llt hc91) rfl (.nil rfl rfl rfl))
        refine vq (eT_A64u8_A64u8_Z (rd a0 x66.toNat)) (ld_ref (i := ⟨.struct [(0, 26), (64, 26)], 128, 128, (eT_A64u8_A64u8_Z ((vrep 64 (0 : Int)), (vrep 64 (0 : Int))))⟩) rfl rfl hl92) hl92.c (d_next (by kernel_rfl) (dp (eST_A64u8_A64u8_Z a1) rfl (by kernel_rfl) (dp (i6 x66) rfl (by kernel_rfl) (d_cons ?_))))
        obtain ⟨hc93, h⟩ := ifp_some h
        refine vq (.ref (.row 128 (a1.map eT_A64u8_A64u8_Z)) [x66.toNat] [x66.toNat * 128]) rfl (lmap hc93) (d_next (by kernel_rfl) (d_cons ?_))
        have hl94 : LdOk [x66.toNat] (.row 128 (a1.map eT_A64u8_A64u8_Z)) [x66.toNat * 128] 128 true (eT_A64u8_A64u8_Z (rd a1 x66.toNat)) := (.row (llt hc93) rfl (.nil rfl rfl rfl))
        refine vq (eT_A64u8_A64u8_Z (rd a1 x66.toNat)) (ld_ref (i := ⟨.struct [(0, 26), (64, 26)], 128, 128, (eT_A64u8_A64u8_Z ((vrep 64 (0 : Int)), (vrep 64 (0 : Int))))⟩) rfl rfl hl94) hl94.c (d_next (by kernel_rfl) (d_cons ?_))
        obtain ⟨r95, hr96, h⟩ := bind_some h
        refine a_call (args := [(eT_A64u8_A64u8_Z (rd a0 x66.toNat)), (eT_A64u8_A64u8_Z (rd a1 x66.toNat))]) (u := []) (r := (.bool r95)) rfl rfl (laws_eqForm_ok (rd a0 x66.toNat) (rd a1 x66.toNat) r95 hr96) rfl (d_next (by kernel_rfl) (dp (.bool (!r95)) rfl (by kernel_rfl) (d_nil (a_next (σ' := ⟨[(0, (eST_A64u8_A64u8_Z a0)), (1, (eST_A64u8_A64u8_Z a1)), (5, (i6 x66)), (26, (.bool (!r95)))], []⟩) (by kernel_rfl) ?_))))
        cases hb97 : (!r95)
        · have h := ite_f hb97 h
          refine a_cond_f rfl (a_skip (b_norm (a_next (σ' := ⟨[(0, (eST_A64u8_A64u8_Z a0)), (1, (eST_A64u8_A64u8_Z a1)), (5, (i6 x66))], []⟩) (by kernel_rfl) (a_region (vp (i6 x66) rfl (vp (i6 (IntKind.i64.wrap (x66 + 1))) rfl (vp (i6 (IntKind.i64.wrap (x66 + 1))) rfl (a_nil ?_))))))))
          cases h
          exact a_again (by kernel_rfl) hX83
        · have h := ite_t hb97 h
          refine a_cond_t rfl (sr (vp (.bool false) rfl (nx _ rfl (a_ret (b_ret (t_ret ?_))))))
          cases h
          have h := hX83
          refine t_ret (b_ret (t_ret ?_))
          cases h
          have h := hk51
          refine ⟨.inr rfl, ?_⟩
          rw [Try.results17]
          cases h
          exact ⟨_, _, _, _, _, rfl, trivial, .inl ⟨rfl, .inl rfl⟩, rfl, rfl⟩
  · have h := ite_t hb1 h
    refine a_cond_t rfl (sr (vp (.bool false) rfl (nx _ rfl (a_ret (t_ret ?_)))))
    refine ⟨.inr rfl, ?_⟩
    rw [Try.results17]
    cases h
    exact ⟨_, _, _, _, _, rfl, trivial, .inl ⟨rfl, .inl rfl⟩, rfl, rfl⟩
def laws_markFormS_of_mut_c : ACode := (.seq (.region 0 [q 4 (.asg 0 (.const (.int .i64 0)) 3)] false) (.seq (.seq (.region 1 [q 5 (.asg 0 (.const (.int .i64 0)) 3)] false) (.block 0 (.loop (.seq (.seq (.region 2 [q 8 (.mov (t 5)), q 9 (.mov (t 0)), q 10 (.blt 0 .len [(t 9)] [23]), q 11 (.bin .lss 3 (t 8) (t 10))] false) (.cond (t 11) .skip (.exit 0))) (.seq (.block 1 (.seq (.seq (.region 4 [q 6 (.asg 0 (.const (.int .i64 0)) 3)] false) (.block 2 (.loop (.seq (.seq (.region 5 [q 14 (.mov (t 6)), q 15 (.bin .lss 3 (t 14) (.const (.int .i64 64)))] false) (.cond (t 15) .skip (.exit 2))) (.seq (.block 3 (.seq (.region 7 [q 18 (.mov (t 0)), q 19 (.mov (t 5)), q 20 (.mov (t 6)), q 21 (.mov (t 1)), q 22 (.conv 3 5 (t 21)), q 23 (.indexAddr 23 (t 18) (t 19)), q 24 (.fieldAddr 74 (t 23) 0), q 25 (.indexAddr 26 (t 24) (t 20)), ⟨none, .store 5 (t 25) (t 22), none, []⟩] false) (.region 8 [q 26 (.mov (t 1)), q 27 (.bin .add 3 (t 26) (.const (.int .i64 1))), q 1 (.asg 0 (t 27) 3)] false))) (.region 6 [q 16 (.mov (t 6)), q 17 (.bin .add 3 (t 16) (.const (.int .i64 1))), q 6 (.asg 0 (t 17) 3)] false)))))) (.seq (.region 9 [q 7 (.asg 0 (.const (.int .i64 0)) 3)] false) (.block 4 (.loop (.seq (.seq (.region 10 [q 28 (.mov (t 7)), q 29 (.bin .lss 3 (t 28) (.const (.int .i64 64)))] false) (.cond (t 29) .skip (.exit 4))) (.seq (.block 5 (.seq (.region 12 [q 32 (.mov (t 0)), q 33 (.mov (t 5)), q 34 (.mov (t 7)), q 35 (.mov (t 1)), q 36 (.conv 3 5 (t 35)), q 37 (.indexAddr 23 (t 32) (t 33)), q 38 (.fieldAddr 74 (t 37) 1), q 39 (.indexAddr 26 (t 38) (t 34)), ⟨none, .store 5 (t 39) (t 36), none, []⟩] false) (.region 13 [q 40 (.mov (t 1)), q 41 (.bin .add 3 (t 40) (.const (.int .i64 1))), q 1 (.asg 0 (t 41) 3)] false))) (.region 11 [q 30 (.mov (t 7)), q 31 (.bin .add 3 (t 30) (.const (.int .i64 1))), q 7 (.asg 0 (t 31) 3)] false)))))))) (.region 3 [q 12 (.mov (t 5)), q 13 (.bin .add 3 (t 12) (.const (.int .i64 1))), q 5 (.asg 0 (t 13) 3)] false)))))) (.seq (.region 14 [q 42 (.mov (t 1)), q 4 (.asg 0 (t 42) 3)] false) .ret)))
def laws_markFormS_of_mut_L : Live := [(0, [0, 1]), (1, [0, 1]), (2, [0, 1, 5]), (3, [0, 1, 5]), (4, [0, 1, 5]), (5, [0, 1, 5, 6]), (6, [0, 1, 5, 6]), (7, [0, 1, 5, 6]), (8, [0, 1, 5, 6]), (9, [0, 1, 5]), (10, [0, 1, 5, 7]), (11, [0, 1, 5, 7]), (12, [0, 1, 5, 7]), (13, [0, 1, 5, 7]), (14, [1]), (100011, [0, 1, 5, 11]), (100015, [0, 1, 5, 6, 15]), (100029, [0, 1, 5, 7, 29])]
noncomputable def laws_markFormS_of_mut_l2 (x534 : Int) (x765 : Int) (x766 : Int) (x767 : (List ((Vec Int 64) × (Vec Int 64)))) : Option ((Int × Int × (List ((Vec Int 64) × (Vec Int 64)))) ⊕ (Int × (List ((Vec Int 64) × (Vec Int 64))))) :=
  (if (decide (x766 < 64)) then (ifp (0 ≤ x534 ∧ x534 < ((x767.length : Nat) : Int)) ((ifp (0 ≤ x766 ∧ x766 < ((64 : Nat) : Int)) ((some (.inl ((IntKind.i64.wrap (x765 + 1), IntKind.i64.wrap (x766 + 1), (x767.set x534.toNat (((vset ((rd x767 x534.toNat).1) x766.toNat (IntKind.u8.wrap x765)), (rd x767 x534.toNat).2))))))))))) else (some (.inr (x765, x767))))
noncomputable def laws_markFormS_of_mut_l3 (x534 : Int) (x784 : Int) (x785 : Int) (x786 : (List ((Vec Int 64) × (Vec Int 64)))) : Option ((Int × Int × (List ((Vec Int 64) × (Vec Int 64)))) ⊕ (Int × (List ((Vec Int 64) × (Vec Int 64))))) :=
  (if (decide (x785 < 64)) then (ifp (0 ≤ x534 ∧ x534 < ((x786.length : Nat) : Int)) ((ifp (0 ≤ x785 ∧ x785 < ((64 : Nat) : Int)) ((some (.inl ((IntKind.i64.wrap (x784 + 1), IntKind.i64.wrap (x785 + 1), (x786.set x534.toNat (((rd x786 x534.toNat).1, (vset ((rd x786 x534.toNat).2) x785.toNat (IntKind.u8.wrap x784))))))))))))) else (some (.inr (x784, x786))))
noncomputable def laws_markFormS_of_mut_l1  (x533 : Int) (x534 : Int) (x535 : (List ((Vec Int 64) × (Vec Int 64)))) : Option ((Int × Int × (List ((Vec Int 64) × (Vec Int 64)))) ⊕ (Int × (List ((Vec Int 64) × (Vec Int 64))))) :=
  (if (decide (x534 < (x535.length : Int))) then (Option.bind (α := (Int × (List ((Vec Int 64) × (Vec Int 64))))) ((Option.bind (α := (Int × (List ((Vec Int 64) × (Vec Int 64))))) ((loopM (fun s : (Int × Int × (List ((Vec Int 64) × (Vec Int 64)))) => laws_markFormS_of_mut_l2 x534 s.1 s.2.1 s.2.2) (x533, 0, x535))) fun ⟨x756, x757⟩ => (loopM (fun s : (Int × Int × (List ((Vec Int 64) × (Vec Int 64)))) => laws_markFormS_of_mut_l3 x534 s.1 s.2.1 s.2.2) (x756, 0, x757)))) fun ⟨x732, x733⟩ => (some (.inl ((x732, IntKind.i64.wrap (x534 + 1), x733))))) else (some (.inr (x533, x535))))
noncomputable def laws_markFormS_of_mut (a0 : (List ((Vec Int 64) × (Vec Int 64)))) (a1 : Int) : Option (Int × (List ((Vec Int 64) × (Vec Int 64)))) :=
  (Option.bind (α := (Int × (List ((Vec Int 64) × (Vec Int 64))))) ((loopM (fun s : (Int × Int × (List ((Vec Int 64) × (Vec Int 64)))) => laws_markFormS_of_mut_l1 s.1 s.2.1 s.2.2) (a1, 0, a0))) fun ⟨x398, x399⟩ => (some (x398, x399)))
theorem laws_markFormS_of_mut_ok (a0 : (List ((Vec Int 64) × (Vec Int 64)))) (a1 : Int) (r : (Int × (List ((Vec Int 64) × (Vec Int 64))))) (h : laws_markFormS_of_mut a0 a1 = some r) : Den Try.prog 18 [(.mutsl 128 (a0.map eT_A64u8_A64u8_Z)), (i6 a1)] { r := (i6 r.1), ms := [(.row 128 (r.2.map eT_A64u8_A64u8_Z))], fs := [] } := by
  refine den_ofX (rs := [(i6 r.1)]) (ac := laws_markFormS_of_mut_c) (L := laws_markFormS_of_mut_L) (n := 43) (m := []) (c := Try.f18.body.getD .skip) good Try.func18 (by kernel_rfl) (by kernel_rfl) Try.ntmps18 rfl rfl (by kernel_rfl) rfl ?_
  refine a_st (σ' := ⟨[(0, (.osl 1000000)), (1, (i6 a1))], [(1000000, (bk (.row 128 (a0.map eT_A64u8_A64u8_Z))))]⟩) (by kernel_rfl) ?_
  unfold laws_markFormS_of_mut_c
  refine sr (vp (i6 0) rfl (nx ⟨[(0, (.osl 1000000)), (1, (i6 a1))], [(1000000, (bk (.row 128 (a0.map eT_A64u8_A64u8_Z))))]⟩ (by kernel_rfl) ?_))
  obtain ⟨y400, hy401, hk402⟩ := bind_some h
  clear h
  refine a_join (emb := fun (s : (Int × (List ((Vec Int 64) × (Vec Int 64))))) => ⟨[(1, (i6 s.1))], [(1000000, (bk (.row 128 (s.2.map eT_A64u8_A64u8_Z))))]⟩) (pre := fun s => s = y400) ?_ ?_
  · rintro ⟨x398, x399⟩ rfl
    have h := hk402
    refine a_st (σ' := ⟨[(1, (i6 x398))], [(1000000, (bk (.row 128 (x399.map eT_A64u8_A64u8_Z))))]⟩) (by kernel_rfl) (sr (vp (i6 x398) rfl (vp (i6 x398) rfl (nx _ rfl (a_ret ?_)))))
    refine ⟨.inr rfl, ?_⟩
    rw [Try.results18]
    cases h
    exact ⟨[], ⟨_, _, _, _, _, rfl, trivial, rfl, .inl ⟨rfl, .inl rfl, ⟨rfl, rfl, rfl⟩⟩⟩, rfl, ⟨_, _, rfl, rfl, rfl⟩⟩
  · have h := hy401
    refine sr (vp (i6 0) rfl (nx ⟨[(0, (.osl 1000000)), (1, (i6 a1)), (5, (i6 0))], [(1000000, (bk (.row 128 (a0.map eT_A64u8_A64u8_Z))))]⟩ (by kernel_rfl) (a_block ?_)))
    refine a_loop (emb := fun (s : (Int × Int × (List ((Vec Int 64) × (Vec Int 64))))) => ⟨[(0, (.osl 1000000)), (1, (i6 s.1)), (5, (i6 s.2.1))], [(1000000, (bk (.row 128 (s.2.2.map eT_A64u8_A64u8_Z))))]⟩) (body := (fun s : (Int × Int × (List ((Vec Int 64) × (Vec Int 64)))) => laws_markFormS_of_mut_l1 s.1 s.2.1 s.2.2)) (G := fun q => some q = some y400) h rfl ?_ (by kernel_rfl)
    rintro X666 ⟨x533, x534, x535⟩ x667 h hX668
    have h : laws_markFormS_of_mut_l1 x533 x534 x535 = some x667 := h
    refine a_st (σ' := ⟨[(0, (.osl 1000000)), (1, (i6 x533)), (5, (i6 x534))], [(1000000, (bk (.row 128 (x535.map eT_A64u8_A64u8_Z))))]⟩) (by kernel_rfl) (a_seq (sr (vp (i6 x534) rfl (vp (.osl 1000000) rfl (vq (i6 (x535.length : Int)) (leno_run rfl rfl rfl) trivial (vp (.bool ((decide (x534 < (x535.length : Int))))) rfl (nx ⟨[(0, (.osl 1000000)), (1, (i6 x533)), (5, (i6 x534)), (11, (.bool ((decide (x534 < (x535.length : Int))))))], [(1000000, (bk (.row 128 (x535.map eT_A64u8_A64u8_Z))))]⟩ (by kernel_rfl) ?_)))))))
    cases hb669 : (decide (x534 < (x535.length : Int)))
    · have h := ite_f hb669 h
      refine a_cond_f rfl (a_exit (t_exit ?_))
      cases h
      have h := hX668
      refine t_exit (b_exit ?_)
      exact j_leaf (x533, x535) (Option.some.inj h) (by kernel_rfl)
    · have h := ite_t hb669 h
      refine a_cond_t rfl (a_skip (a_next (σ' := ⟨[(0, (.osl 1000000)), (1, (i6 x533)), (5, (i6 x534))], [(1000000, (bk (.row 128 (x535.map eT_A64u8_A64u8_Z))))]⟩) (by kernel_rfl) ?_))
      obtain ⟨y734, hy735, hk736⟩ := bind_some h
      clear h
      refine a_join (emb := fun (s : (Int × (List ((Vec Int 64) × (Vec Int 64))))) => ⟨[(0, (.osl 1000000)), (1, (i6 s.1)), (5, (i6 x534))], [(1000000, (bk (.row 128 (s.2.map eT_A64u8_A64u8_Z))))]⟩) (pre := fun s => s = y734) ?_ ?_
      · rintro ⟨x732, x733⟩ rfl
        have h := hk736
        refine a_st (σ' := ⟨[(0, (.osl 1000000)), (1, (i6 x732)), (5, (i6 x534))], [(1000000, (bk (.row 128 (x733.map eT_A64u8_A64u8_Z))))]⟩) (by kernel_rfl) (a_region (vp (i6 x534) rfl (vp (i6 (IntKind.i64.wrap (x534 + 1))) rfl (vp (i6 (IntKind.i64.wrap (x534 + 1))) rfl (a_nil ?_)))))
        cases h
        exact a_again (by kernel_rfl) hX668
      · have h := hy735
        refine a_block ?_
        obtain ⟨y758, hy759, hk760⟩ := bind_some h
        clear h
        refine a_join (emb := fun (s : (Int × (List ((Vec Int 64) × (Vec Int 64))))) => ⟨[(0, (.osl 1000000)), (1, (i6 s.1)), (5, (i6 x534))], [(1000000, (bk (.row 128 (s.2.map eT_A64u8_A64u8_Z))))]⟩) (pre := fun s => s = y758) ?_ ?_
        · rintro ⟨x756, x757⟩ rfl
          have h := hk760
          refine a_st (σ' := ⟨[(0, (.osl 1000000)), (1, (i6 x756)), (5, (i6 x534))], [(1000000, (bk (.row 128 (x757.map eT_A64u8_A64u8_Z))))]⟩) (by kernel_rfl) (sr (vp (i6 0) rfl (nx ⟨[(0, (.osl 1000000)), (1, (i6 x756)), (5, (i6 x534)), (7, (i6 0))], [(1000000, (bk (.row 128 (x757.map eT_A64u8_A64u8_Z))))]⟩ (by kernel_rfl) (a_block ?_))))
          refine a_loop (emb := fun (s : (Int × Int × (List ((Vec Int 64) × (Vec Int 64))))) => ⟨[(0, (.osl 1000000)), (1, (i6 s.1)), (5, (i6 x534)), (7, (i6 s.2.1))], [(1000000, (bk (.row 128 (s.2.2.map eT_A64u8_A64u8_Z))))]⟩) (body := (fun s : (Int × Int × (List ((Vec Int 64) × (Vec Int 64)))) => laws_markFormS_of_mut_l3 x534 s.1 s.2.1 s.2.2)) (G := fun q => some q = some y734) h rfl ?_ (by kernel_rfl)
          rintro X791 ⟨x784, x785, x786⟩ x792 h hX793
          have h : laws_markFormS_of_mut_l3 x534 x784 x785 x786 = some x792 := h
          refine a_st (σ' := ⟨[(0, (.osl 1000000)), (1, (i6 x784)), (5, (i6 x534)), (7, (i6 x785))], [(1000000, (bk (.row 128 (x786.map eT_A64u8_A64u8_Z))))]⟩) (by kernel_rfl) (a_seq (sr (vp (i6 x785) rfl (vp (.bool ((decide (x785 < 64)))) rfl (nx ⟨[(0, (.osl 1000000)), (1, (i6 x784)), (5, (i6 x534)), (7, (i6 x785)), (29, (.bool ((decide (x785 < 64)))))], [(1000000, (bk (.row 128 (x786.map eT_A64u8_A64u8_Z))))]⟩ (by kernel_rfl) ?_)))))
          cases hb794 : (decide (x785 < 64))
          · have h := ite_f hb794 h
            refine a_cond_f rfl (a_exit (t_exit ?_))
            cases h
            have h := hX793
            refine t_exit (b_exit (b_norm ?_))
            exact j_leaf (x784, x786) (Option.some.inj h) (by kernel_rfl)
          · have h := ite_t hb794 h
            refine a_cond_t rfl (a_skip (a_next (σ' := ⟨[(0, (.osl 1000000)), (1, (i6 x784)), (5, (i6 x534)), (7, (i6 x785))], [(1000000, (bk (.row 128 (x786.map eT_A64u8_A64u8_Z))))]⟩) (by kernel_rfl) (a_seq (a_block (sr (vp (.osl 1000000) rfl (vp (i6 x534) rfl (vp (i6 x785) rfl (vp (i6 x784) rfl ?_)))))))))
            refine vp (b8 (IntKind.u8.wrap x784)) rfl ?_
            obtain ⟨hc795, h⟩ := ifp_some h
            refine vq (.own 1000000 [x534.toNat] [x534.toNat * 128]) rfl (lmap hc795) (vb (.own 1000000 [x534.toNat, 1] [x534.toNat * 128, 64]) rfl rfl ?_)
            obtain ⟨hc796, h⟩ := ifp_some h
            refine vq (.own 1000000 [x534.toNat, 1, x785.toNat] [x534.toNat * 128, 64, x785.toNat * 1]) rfl hc796 ?_
            have hs797 : StOk [x534.toNat, 1, x785.toNat] (.row 128 (x786.map eT_A64u8_A64u8_Z)) [x534.toNat * 128, 64, x785.toNat * 1] 1 (b8 (IntKind.u8.wrap x784)) (.row 128 (((x786.set x534.toNat (((rd x786 x534.toNat).1, (vset ((rd x786 x534.toNat).2) x785.toNat (IntKind.u8.wrap x784)))))).map eT_A64u8_A64u8_Z)) := (.row (y := ((rd x786 x534.toNat).1, (vset ((rd x786 x534.toNat).2) x785.toNat (IntKind.u8.wrap x784)))) (llt hc795) rfl (.fld rfl rfl rfl rfl (.arr (y := IntKind.u8.wrap x784) (vlt ((rd x786 x534.toNat).2) hc796) rfl (.nil rfl rfl rfl rfl))))
            refine vu .top [(1000000, (bk (.row 128 (((x786.set x534.toNat (((rd x786 x534.toNat).1, (vset ((rd x786 x534.toNat).2) x785.toNat (IntKind.u8.wrap x784)))))).map eT_A64u8_A64u8_Z))))] (st_own (i := ⟨.int .u8, 1, 1, (.int .u8 0)⟩) rfl rfl (fun _ => rfl) rfl hs797) (hs797.c rfl) rfl (nx ⟨[(0, (.osl 1000000)), (1, (i6 x784)), (5, (i6 x534)), (7, (i6 x785))], [(1000000, (bk (.row 128 (((x786.set x534.toNat (((rd x786 x534.toNat).1, (vset ((rd x786 x534.toNat).2) x785.toNat (IntKind.u8.wrap x784)))))).map eT_A64u8_A64u8_Z))))]⟩ (by kernel_rfl) (a_region (vp (i6 x784) rfl (vp (i6 (IntKind.i64.wrap (x784 + 1))) rfl (vp (i6 (IntKind.i64.wrap (x784 + 1))) rfl (a_nil (b_norm (a_next (σ' := ⟨[(0, (.osl 1000000)), (1, (i6 (IntKind.i64.wrap (x784 + 1)))), (5, (i6 x534)), (7, (i6 x785))], [(1000000, (bk (.row 128 (((x786.set x534.toNat (((rd x786 x534.toNat).1, (vset ((rd x786 x534.toNat).2) x785.toNat (IntKind.u8.wrap x784)))))).map eT_A64u8_A64u8_Z))))]⟩) (by kernel_rfl) (a_region ?_)))))))))
            refine vp (i6 x785) rfl (vp (i6 (IntKind.i64.wrap (x785 + 1))) rfl (vp (i6 (IntKind.i64.wrap (x785 + 1))) rfl (a_nil ?_)))
            cases h
            exact a_again (by kernel_rfl) hX793
        · have h := hy759
          refine sr (vp (i6 0) rfl (nx ⟨[(0, (.osl 1000000)), (1, (i6 x533)), (5, (i6 x534)), (6, (i6 0))], [(1000000, (bk (.row 128 (x535.map eT_A64u8_A64u8_Z))))]⟩ (by kernel_rfl) (a_block ?_)))
          refine a_loop (emb := fun (s : (Int × Int × (List ((Vec Int 64) × (Vec Int 64))))) => ⟨[(0, (.osl 1000000)), (1, (i6 s.1)), (5, (i6 x534)), (6, (i6 s.2.1))], [(1000000, (bk (.row 128 (s.2.2.map eT_A64u8_A64u8_Z))))]⟩) (body := (fun s : (Int × Int × (List ((Vec Int 64) × (Vec Int 64)))) => laws_markFormS_of_mut_l2 x534 s.1 s.2.1 s.2.2)) (G := fun q => some q = some y758) h rfl ?_ (by kernel_rfl)
          rintro X772 ⟨x765, x766, x767⟩ x773 h hX774
          have h : laws_markFormS_of_mut_l2 x534 x765 x766 x767 = some x773 := h
          refine a_st (σ' := ⟨[(0, (.osl 1000000)), (1, (i6 x765)), (5, (i6 x534)), (6, (i6 x766))], [(1000000, (bk (.row 128 (x767.map eT_A64u8_A64u8_Z))))]⟩) (by kernel_rfl) (a_seq (sr (vp (i6 x766) rfl (vp (.bool ((decide (x766 < 64)))) rfl (nx ⟨[(0, (.osl 1000000)), (1, (i6 x765)), (5, (i6 x534)), (6, (i6 x766)), (15, (.bool ((decide (x766 < 64)))))], [(1000000, (bk (.row 128 (x767.map eT_A64u8_A64u8_Z))))]⟩ (by kernel_rfl) ?_)))))
          cases hb775 : (decide (x766 < 64))
          · have h := ite_f hb775 h
            refine a_cond_f rfl (a_exit (t_exit ?_))
            cases h
            have h := hX774
            refine t_exit (b_exit ?_)
            exact j_leaf (x765, x767) (Option.some.inj h) (by kernel_rfl)
          · have h := ite_t hb775 h
            refine a_cond_t rfl (a_skip (a_next (σ' := ⟨[(0, (.osl 1000000)), (1, (i6 x765)), (5, (i6 x534)), (6, (i6 x766))], [(1000000, (bk (.row 128 (x767.map eT_A64u8_A64u8_Z))))]⟩) (by kernel_rfl) (a_seq (a_block (sr (vp (.osl 1000000) rfl (vp (i6 x534) rfl (vp (i6 x766) rfl (vp (i6 x765) rfl ?_)))))))))
            refine vp (b8 (IntKind.u8.wrap x765)) rfl ?_
            obtain ⟨hc776, h⟩ := ifp_some h
            refine vq (.own 1000000 [x534.toNat] [x534.toNat * 128]) rfl (lmap hc776) (vb (.own 1000000 [x534.toNat, 0] [x534.toNat * 128, 0]) rfl rfl ?_)
            obtain ⟨hc777, h⟩ := ifp_some h
            refine vq (.own 1000000 [x534.toNat, 0, x766.toNat] [x534.toNat * 128, 0, x766.toNat * 1]) rfl hc777 ?_
            have hs778 : StOk [x534.toNat, 0, x766.toNat] (.row 128 (x767.map eT_A64u8_A64u8_Z)) [x534.toNat * 128, 0, x766.toNat * 1] 1 (b8 (IntKind.u8.wrap x765)) (.row 128 (((x767.set x534.toNat (((vset ((rd x767 x534.toNat).1) x766.toNat (IntKind.u8.wrap x765)), (rd x767 x534.toNat).2)))).map eT_A64u8_A64u8_Z)) := (.row (y := ((vset ((rd x767 x534.toNat).1) x766.toNat (IntKind.u8.wrap x765)), (rd x767 x534.toNat).2)) (llt hc776) rfl (.fld rfl rfl rfl rfl (.arr (y := IntKind.u8.wrap x765) (vlt ((rd x767 x534.toNat).1) hc777) rfl (.nil rfl rfl rfl rfl))))
            refine vu .top [(1000000, (bk (.row 128 (((x767.set x534.toNat (((vset ((rd x767 x534.toNat).1) x766.toNat (IntKind.u8.wrap x765)), (rd x767 x534.toNat).2)))).map eT_A64u8_A64u8_Z))))] (st_own (i := ⟨.int .u8, 1, 1, (.int .u8 0)⟩) rfl rfl (fun _ => rfl) rfl hs778) (hs778.c rfl) rfl (nx ⟨[(0, (.osl 1000000)), (1, (i6 x765)), (5, (i6 x534)), (6, (i6 x766))], [(1000000, (bk (.row 128 (((x767.set x534.toNat (((vset ((rd x767 x534.toNat).1) x766.toNat (IntKind.u8.wrap x765)), (rd x767 x534.toNat).2)))).map eT_A64u8_A64u8_Z))))]⟩ (by kernel_rfl) (a_region (vp (i6 x765) rfl (vp (i6 (IntKind.i64.wrap (x765 + 1))) rfl (vp (i6 (IntKind.i64.wrap (x765 + 1))) rfl (a_nil (b_norm (a_next (σ' := ⟨[(0, (.osl 1000000)), (1, (i6 (IntKind.i64.wrap (x765 + 1)))), (5, (i6 x534)), (6, (i6 x766))], [(1000000, (bk (.row 128 (((x767.set x534.toNat (((vset ((rd x767 x534.toNat).1) x766.toNat (IntKind.u8.wrap x765)), (rd x767 x534.toNat).2)))).map eT_A64u8_A64u8_Z))))]⟩) (by kernel_rfl) (a_region ?_)))))))))
            refine vp (i6 x766) rfl (vp (i6 (IntKind.i64.wrap (x766 + 1))) rfl (vp (i6 (IntKind.i64.wrap (x766 + 1))) rfl (a_nil ?_)))
            cases h
            exact a_again (by kernel_rfl) hX774
def laws_heldFormS_c : ACode := (.seq (.region 0 [q 4 (.asg 0 (.const (.int .i64 0)) 3)] false) (.seq (.seq (.region 1 [q 5 (.asg 0 (.const (.int .i64 0)) 3)] false) (.block 0 (.loop (.seq (.seq (.region 2 [q 8 (.mov (t 5)), q 9 (.mov (t 0)), q 10 (.blt 0 .len [(t 9)] [23]), q 11 (.bin .lss 3 (t 8) (t 10))] false) (.cond (t 11) .skip (.exit 0))) (.seq (.block 1 (.seq (.seq (.region 4 [q 6 (.asg 0 (.const (.int .i64 0)) 3)] false) (.block 2 (.loop (.seq (.seq (.region 5 [q 14 (.mov (t 6)), q 15 (.bin .lss 3 (t 14) (.const (.int .i64 64)))] false) (.cond (t 15) .skip (.exit 2))) (.seq (.block 3 (.seq (.seq (.region 7 [q 18 (.mov (t 0)), q 19 (.mov (t 5)), q 20 (.mov (t 6)), q 21 (.indexAddr 23 (t 18) (t 19)), q 22 (.fieldAddr 74 (t 21) 0), q 23 (.indexAddr 26 (t 22) (t 20)), q 24 (.load 5 (t 23)), q 25 (.mov (t 1)), q 26 (.conv 3 5 (t 25)), q 27 (.bin .neq 5 (t 24) (t 26))] false) (.cond (t 27) (.seq (.region 8 [q 4 (.asg 0 (.const (.int .i64 (-1))) 3)] false) .ret) .skip)) (.region 9 [q 28 (.mov (t 1)), q 29 (.bin .add 3 (t 28) (.const (.int .i64 1))), q 1 (.asg 0 (t 29) 3)] false))) (.region 6 [q 16 (.mov (t 6)), q 17 (.bin .add 3 (t 16) (.const (.int .i64 1))), q 6 (.asg 0 (t 17) 3)] false)))))) (.seq (.region 10 [q 7 (.asg 0 (.const (.int .i64 0)) 3)] false) (.block 4 (.loop (.seq (.seq (.region 11 [q 30 (.mov (t 7)), q 31 (.bin .lss 3 (t 30) (.const (.int .i64 64)))] false) (.cond (t 31) .skip (.exit 4))) (.seq (.block 5 (.seq (.seq (.region 13 [q 34 (.mov (t 0)), q 35 (.mov (t 5)), q 36 (.mov (t 7)), q 37 (.indexAddr 23 (t 34) (t 35)), q 38 (.fieldAddr 74 (t 37) 1), q 39 (.indexAddr 26 (t 38) (t 36)), q 40 (.load 5 (t 39)), q 41 (.mov (t 1)), q 42 (.conv 3 5 (t 41)), q 43 (.bin .neq 5 (t 40) (t 42))] false) (.cond (t 43) (.seq (.region 14 [q 4 (.asg 0 (.const (.int .i64 (-1))) 3)] false) .ret) .skip)) (.region 15 [q 44 (.mov (t 1)), q 45 (.bin .add 3 (t 44) (.const (.int .i64 1))), q 1 (.asg 0 (t 45) 3)] false))) (.region 12 [q 32 (.mov (t 7)), q 33 (.bin .add 3 (t 32) (.const (.int .i64 1))), q 7 (.asg 0 (t 33) 3)] false)))))))) (.region 3 [q 12 (.mov (t 5)), q 13 (.bin .add 3 (t 12) (.const (.int .i64 1))), q 5 (.asg 0 (t 13) 3)] false)))))) (.seq (.region 16 [q 46 (.mov (t 1)), q 4 (.asg 0 (t 46) 3)] false) .ret)))
def laws_heldFormS_L : Live := [(0, [0, 1]), (1, [0, 1]), (2, [0, 1, 5]), (3, [0, 1, 5]), (4, [0, 1, 5]), (5, [0, 1, 5, 6]), (6, [0, 1, 5, 6]), (7, [0, 1, 5, 6]), (8, []), (9, [0, 1, 5, 6]), (10, [0, 1, 5]), (11, [0, 1, 5, 7]), (12, [0, 1, 5, 7]), (13, [0, 1, 5, 7]), (14, []), (15, [0, 1, 5, 7]), (16, [1]), (100011, [0, 1, 5, 11]), (100015, [0, 1, 5, 6, 15]), (100027, [0, 1, 5, 6, 27]), (100031, [0, 1, 5, 7, 31]), (100043, [0, 1, 5, 7, 43])]
noncomputable def laws_heldFormS_l2 (x724 : Int) (a0 : (List ((Vec Int 64) × (Vec Int 64)))) (x1035 : Int) (x1036 : Int) : Option ((Int × Int) ⊕ (Int ⊕ Int)) :=
  (if (decide (x1036 < 64)) then (ifp (0 ≤ x724 ∧ x724 < ((a0.length : Nat) : Int)) ((ifp (0 ≤ x1036 ∧ x1036 < ((64 : Nat) : Int)) ((letp ((((rd ((rd a0 x724.toNat).1).1 x1036.toNat)) != (IntKind.u8.wrap x1035))) fun x1051 => (if x1051 then (some (.inr ((.inr (-1))))) else (some (.inl ((IntKind.i64.wrap (x1035 + 1), IntKind.i64.wrap (x1036 + 1))))))))))) else (some (.inr (.inl x1035))))
noncomputable def laws_heldFormS_l3 (x724 : Int) (a0 : (List ((Vec Int 64) × (Vec Int 64)))) (x1062 : Int) (x1063 : Int) : Option ((Int × Int) ⊕ (Int ⊕ Int)) :=
  (if (decide (x1063 < 64)) then (ifp (0 ≤ x724 ∧ x724 < ((a0.length : Nat) : Int)) ((ifp (0 ≤ x1063 ∧ x1063 < ((64 : Nat) : Int)) ((letp ((((rd ((rd a0 x724.toNat).2).1 x1063.toNat)) != (IntKind.u8.wrap x1062))) fun x1078 => (if x1078 then (some (.inr ((.inr (-1))))) else (some (.inl ((IntKind.i64.wrap (x1062 + 1), IntKind.i64.wrap (x1063 + 1))))))))))) else (some (.inr (.inl x1062))))
noncomputable def laws_heldFormS_l1 (a0 : (List ((Vec Int 64) × (Vec Int 64)))) (x723 : Int) (x724 : Int) : Option ((Int × Int) ⊕ (Int ⊕ Int)) :=
  (if (decide (x724 < (a0.length : Int))) then (Option.bind (α := (Int ⊕ Int)) ((Option.bind (α := (Int ⊕ Int)) ((loopM (fun s : (Int × Int) => laws_heldFormS_l2 x724 a0 s.1 s.2) (x723, 0))) fun z => match z with | .inl x1024 => (loopM (fun s : (Int × Int) => laws_heldFormS_l3 x724 a0 s.1 s.2) (x1024, 0)) | .inr r1082 => (some (.inr r1082)))) fun z => match z with | .inl x993 => (some (.inl ((x993, IntKind.i64.wrap (x724 + 1))))) | .inr r1083 => (some (.inr (.inr r1083)))) else (some (.inr (.inl x723))))
noncomputable def laws_heldFormS (a0 : (List ((Vec Int 64) × (Vec Int 64)))) (a1 : Int) : Option Int :=
  (Option.bind (α := (Int ⊕ Int)) ((loopM (fun s : (Int × Int) => laws_heldFormS_l1 a0 s.1 s.2) (a1, 0))) fun z => match z with | .inl x541 => (some x541) | .inr r1085 => (some r1085))
theorem laws_heldFormS_ok (a0 : (List ((Vec Int 64) × (Vec Int 64)))) (a1 : Int) (r : Int) (h : laws_heldFormS a0 a1 = some r) : Den Try.prog 19 [(eST_A64u8_A64u8_Z a0), (i6 a1)] { r := (i6 r) } := by
  refine den_of (rs := [(i6 r)]) (ac := laws_heldFormS_c) (L := laws_heldFormS_L) (n := 47) (m := []) (c := Try.f19.body.getD .skip) good Try.func19 (by kernel_rfl) (by kernel_rfl) Try.ntmps19 rfl rfl (by kernel_rfl) rfl rfl ?_
  refine a_st (σ' := ⟨[(0, (eST_A64u8_A64u8_Z a0)), (1, (i6 a1))], []⟩) (by kernel_rfl) ?_
  unfold laws_heldFormS_c
  refine sr (vp (i6 0) rfl (nx ⟨[(0, (eST_A64u8_A64u8_Z a0)), (1, (i6 a1))], []⟩ (by kernel_rfl) ?_))
  obtain ⟨y542, hy543, hk544⟩ := bind_some h
  clear h
  refine a_join (emb := fun (s : Int) => ⟨[(1, (i6 s))], []⟩) (pre := fun s => (.inl s) = y542) ?_ ?_
  · rintro x541 rfl
    have h := hk544
    refine a_st (σ' := ⟨[(1, (i6 x541))], []⟩) (by kernel_rfl) (sr (vp (i6 x541) rfl (vp (i6 x541) rfl (nx _ rfl (a_ret ?_)))))
    refine ⟨.inr rfl, ?_⟩
    rw [Try.results19]
    cases h
    exact ⟨_, _, _, _, _, rfl, trivial, .inl ⟨rfl, .inl rfl⟩, rfl, rfl⟩
  · have h := hy543
    refine sr (vp (i6 0) rfl (nx ⟨[(0, (eST_A64u8_A64u8_Z a0)), (1, (i6 a1)), (5, (i6 0))], []⟩ (by kernel_rfl) (a_block ?_)))
    refine a_loop (emb := fun (s : (Int × Int)) => ⟨[(0, (eST_A64u8_A64u8_Z a0)), (1, (i6 s.1)), (5, (i6 s.2))], []⟩) (body := (fun s : (Int × Int) => laws_heldFormS_l1 a0 s.1 s.2)) (G := fun q => some q = some y542) h rfl ?_ (by kernel_rfl)
    rintro X903 ⟨x723, x724⟩ x904 h hX905
    have h : laws_heldFormS_l1 a0 x723 x724 = some x904 := h
    refine a_st (σ' := ⟨[(0, (eST_A64u8_A64u8_Z a0)), (1, (i6 x723)), (5, (i6 x724))], []⟩) (by kernel_rfl) (a_seq (sr (vp (i6 x724) rfl (vp (eST_A64u8_A64u8_Z a0) rfl (vq (i6 (a0.length : Int)) (len_run rfl rfl) trivial (vp (.bool ((decide (x724 < (a0.length : Int))))) rfl (nx ⟨[(0, (eST_A64u8_A64u8_Z a0)), (1, (i6 x723)), (5, (i6 x724)), (11, (.bool ((decide (x724 < (a0.length : Int))))))], []⟩ (by kernel_rfl) ?_)))))))
    cases hb906 : (decide (x724 < (a0.length : Int)))
    · have h := ite_f hb906 h
      refine a_cond_f rfl (a_exit (t_exit ?_))
      cases h
      have h := hX905
      refine t_exit (b_exit ?_)
      exact j_leaf x723 (Option.some.inj h) (by kernel_rfl)
    · have h := ite_t hb906 h
      refine a_cond_t rfl (a_skip (a_next (σ' := ⟨[(0, (eST_A64u8_A64u8_Z a0)), (1, (i6 x723)), (5, (i6 x724))], []⟩) (by kernel_rfl) ?_))
      obtain ⟨y994, hy995, hk996⟩ := bind_some h
      clear h
      refine a_join (emb := fun (s : Int) => ⟨[(0, (eST_A64u8_A64u8_Z a0)), (1, (i6 s)), (5, (i6 x724))], []⟩) (pre := fun s => (.inl s) = y994) ?_ ?_
      · rintro x993 rfl
        have h := hk996
        refine a_st (σ' := ⟨[(0, (eST_A64u8_A64u8_Z a0)), (1, (i6 x993)), (5, (i6 x724))], []⟩) (by kernel_rfl) (a_region (vp (i6 x724) rfl (vp (i6 (IntKind.i64.wrap (x724 + 1))) rfl (vp (i6 (IntKind.i64.wrap (x724 + 1))) rfl (a_nil ?_)))))
        cases h
        exact a_again (by kernel_rfl) hX905
      · have h := hy995
        refine a_block ?_
        obtain ⟨y1025, hy1026, hk1027⟩ := bind_some h
        clear h
        refine a_join (emb := fun (s : Int) => ⟨[(0, (eST_A64u8_A64u8_Z a0)), (1, (i6 s)), (5, (i6 x724))], []⟩) (pre := fun s => (.inl s) = y1025) ?_ ?_
        · rintro x1024 rfl
          have h := hk1027
          refine a_st (σ' := ⟨[(0, (eST_A64u8_A64u8_Z a0)), (1, (i6 x1024)), (5, (i6 x724))], []⟩) (by kernel_rfl) (sr (vp (i6 0) rfl (nx ⟨[(0, (eST_A64u8_A64u8_Z a0)), (1, (i6 x1024)), (5, (i6 x724)), (7, (i6 0))], []⟩ (by kernel_rfl) (a_block ?_))))
          refine a_loop (emb := fun (s : (Int × Int)) => ⟨[(0, (eST_A64u8_A64u8_Z a0)), (1, (i6 s.1)), (5, (i6 x724)), (7, (i6 s.2))], []⟩) (body := (fun s : (Int × Int) => laws_heldFormS_l3 x724 a0 s.1 s.2)) (G := fun q => some q = some y994) h rfl ?_ (by kernel_rfl)
          rintro X1071 ⟨x1062, x1063⟩ x1072 h hX1073
          have h : laws_heldFormS_l3 x724 a0 x1062 x1063 = some x1072 := h
          refine a_st (σ' := ⟨[(0, (eST_A64u8_A64u8_Z a0)), (1, (i6 x1062)), (5, (i6 x724)), (7, (i6 x1063))], []⟩) (by kernel_rfl) (a_seq (sr (vp (i6 x1063) rfl (vp (.bool ((decide (x1063 < 64)))) rfl (nx ⟨[(0, (eST_A64u8_A64u8_Z a0)), (1, (i6 x1062)), (5, (i6 x724)), (7, (i6 x1063)), (31, (.bool ((decide (x1063 < 64)))))], []⟩ (by kernel_rfl) ?_)))))
          cases hb1074 : (decide (x1063 < 64))
          · have h := ite_f hb1074 h
            refine a_cond_f rfl (a_exit (t_exit ?_))
            cases h
            have h := hX1073
            refine t_exit (b_exit (b_norm ?_))
            exact j_leaf x1062 (Option.some.inj h) (by kernel_rfl)
          · have h := ite_t hb1074 h
            refine a_cond_t rfl (a_skip (a_next (σ' := ⟨[(0, (eST_A64u8_A64u8_Z a0)), (1, (i6 x1062)), (5, (i6 x724)), (7, (i6 x1063))], []⟩) (by kernel_rfl) (a_seq (a_block (a_seq (sr (vp (eST_A64u8_A64u8_Z a0) rfl (vp (i6 x724) rfl (vp (i6 x1063) rfl ?_)))))))))
            obtain ⟨hc1075, h⟩ := ifp_some h
            refine vq (.ref (.row 128 (a0.map eT_A64u8_A64u8_Z)) [x724.toNat] [x724.toNat * 128]) rfl (lmap hc1075) (vb (.ref (.row 128 (a0.map eT_A64u8_A64u8_Z)) [x724.toNat, 1] [x724.toNat * 128, 64]) rfl rfl ?_)
            obtain ⟨hc1076, h⟩ := ifp_some h
            refine vq (.ref (.row 128 (a0.map eT_A64u8_A64u8_Z)) [x724.toNat, 1, x1063.toNat] [x724.toNat * 128, 64, x1063.toNat * 1]) rfl hc1076 ?_
            have hl1077 : LdOk [x724.toNat, 1, x1063.toNat] (.row 128 (a0.map eT_A64u8_A64u8_Z)) [x724.toNat * 128, 64, x1063.toNat * 1] 1 false (b8 ((rd ((rd a0 x724.toNat).2).1 x1063.toNat))) := (.row (llt hc1075) rfl (.fld rfl rfl rfl rfl (.arr (vlt ((rd a0 x724.toNat).2) hc1076) rfl (.nil rfl rfl rfl))))
            refine vq (b8 ((rd ((rd a0 x724.toNat).2).1 x1063.toNat))) (ld_ref (i := ⟨.int .u8, 1, 1, (.int .u8 0)⟩) rfl rfl hl1077) hl1077.c (vp (i6 x1062) rfl (vp (b8 (IntKind.u8.wrap x1062)) rfl ?_))
            obtain ⟨x1078, hx1079, h⟩ := letp_some h
            refine a_val' (v := (.bool ((((rd ((rd a0 x724.toNat).2).1 x1063.toNat)) != (IntKind.u8.wrap x1062))))) (v' := (.bool x1078)) (u := []) (u' := []) rfl (congrArg (fun z => ((.bool z) : AV)) hx1079) rfl trivial rfl (nx ⟨[(0, (eST_A64u8_A64u8_Z a0)), (1, (i6 x1062)), (5, (i6 x724)), (7, (i6 x1063)), (43, (.bool x1078))], []⟩ (by kernel_rfl) ?_)
            cases hb1080 : x1078
            · have h := ite_f hb1080 h
              refine a_cond_f rfl (a_skip (a_next (σ' := ⟨[(0, (eST_A64u8_A64u8_Z a0)), (1, (i6 x1062)), (5, (i6 x724)), (7, (i6 x1063))], []⟩) (by kernel_rfl) (a_region (vp (i6 x1062) rfl (vp (i6 (IntKind.i64.wrap (x1062 + 1))) rfl (vp (i6 (IntKind.i64.wrap (x1062 + 1))) rfl (a_nil (b_norm (a_next (σ' := ⟨[(0, (eST_A64u8_A64u8_Z a0)), (1, (i6 (IntKind.i64.wrap (x1062 + 1)))), (5, (i6 x724)), (7, (i6 x1063))], []⟩) (by kernel_rfl) ?_)))))))))
              refine a_region (vp (i6 x1063) rfl (vp (i6 (IntKind.i64.wrap (x1063 + 1))) rfl (vp (i6 (IntKind.i64.wrap (x1063 + 1))) rfl (a_nil ?_))))
              cases h
              exact a_again (by kernel_rfl) hX1073
            · have h := ite_t hb1080 h
              refine a_cond_t rfl (sr (vp (i6 (-1)) rfl (nx _ rfl (a_ret (t_ret (b_ret (t_ret ?_)))))))
              cases h
              have h := hX1073
              refine t_ret (b_ret (b_ret (t_ret ?_)))
              cases h
              have h := hk996
              cases h
              have h := hX905
              refine t_ret (b_ret (t_ret ?_))
              cases h
              have h := hk544
              refine ⟨.inr rfl, ?_⟩
              rw [Try.results19]
              cases h
              exact ⟨_, _, _, _, _, rfl, trivial, .inl ⟨rfl, .inl rfl⟩, rfl, rfl⟩
        · have h := hy1026
          refine sr (vp (i6 0) rfl (nx ⟨[(0, (eST_A64u8_A64u8_Z a0)), (1, (i6 x723)), (5, (i6 x724)), (6, (i6 0))], []⟩ (by kernel_rfl) (a_block ?_)))
          refine a_loop (emb := fun (s : (Int × Int)) => ⟨[(0, (eST_A64u8_A64u8_Z a0)), (1, (i6 s.1)), (5, (i6 x724)), (6, (i6 s.2))], []⟩) (body := (fun s : (Int × Int) => laws_heldFormS_l2 x724 a0 s.1 s.2)) (G := fun q => some q = some y1025) h rfl ?_ (by kernel_rfl)
          rintro X1044 ⟨x1035, x1036⟩ x1045 h hX1046
          have h : laws_heldFormS_l2 x724 a0 x1035 x1036 = some x1045 := h
          refine a_st (σ' := ⟨[(0, (eST_A64u8_A64u8_Z a0)), (1, (i6 x1035)), (5, (i6 x724)), (6, (i6 x1036))], []⟩) (by kernel_rfl) (a_seq (sr (vp (i6 x1036) rfl (vp (.bool ((decide (x1036 < 64)))) rfl (nx ⟨[(0, (eST_A64u8_A64u8_Z a0)), (1, (i6 x1035)), (5, (i6 x724)), (6, (i6 x1036)), (15, (.bool ((decide (x1036 < 64)))))], []⟩ (by kernel_rfl) ?_)))))
          cases hb1047 : (decide (x1036 < 64))
          · have h := ite_f hb1047 h
            refine a_cond_f rfl (a_exit (t_exit ?_))
            cases h
            have h := hX1046
            refine t_exit (b_exit ?_)
            exact j_leaf x1035 (Option.some.inj h) (by kernel_rfl)
          · have h := ite_t hb1047 h
            refine a_cond_t rfl (a_skip (a_next (σ' := ⟨[(0, (eST_A64u8_A64u8_Z a0)), (1, (i6 x1035)), (5, (i6 x724)), (6, (i6 x1036))], []⟩) (by kernel_rfl) (a_seq (a_block (a_seq (sr (vp (eST_A64u8_A64u8_Z a0) rfl (vp (i6 x724) rfl (vp (i6 x1036) rfl ?_)))))))))
            obtain ⟨hc1048, h⟩ := ifp_some h
            refine vq (.ref (.row 128 (a0.map eT_A64u8_A64u8_Z)) [x724.toNat] [x724.toNat * 128]) rfl (lmap hc1048) (vb (.ref (.row 128 (a0.map eT_A64u8_A64u8_Z)) [x724.toNat, 0] [x724.toNat * 128, 0]) rfl rfl ?_)
            obtain ⟨hc1049, h⟩ := ifp_some h
            refine vq (.ref (.row 128 (a0.map eT_A64u8_A64u8_Z)) [x724.toNat, 0, x1036.toNat] [x724.toNat * 128, 0, x1036.toNat * 1]) rfl hc1049 ?_
            have hl1050 : LdOk [x724.toNat, 0, x1036.toNat] (.row 128 (a0.map eT_A64u8_A64u8_Z)) [x724.toNat * 128, 0, x1036.toNat * 1] 1 false (b8 ((rd ((rd a0 x724.toNat).1).1 x1036.toNat))) := (.row (llt hc1048) rfl (.fld rfl rfl rfl rfl (.arr (vlt ((rd a0 x724.toNat).1) hc1049) rfl (.nil rfl rfl rfl))))
            refine vq (b8 ((rd ((rd a0 x724.toNat).1).1 x1036.toNat))) (ld_ref (i := ⟨.int .u8, 1, 1, (.int .u8 0)⟩) rfl rfl hl1050) hl1050.c (vp (i6 x1035) rfl (vp (b8 (IntKind.u8.wrap x1035)) rfl ?_))
            obtain ⟨x1051, hx1052, h⟩ := letp_some h
            refine a_val' (v := (.bool ((((rd ((rd a0 x724.toNat).1).1 x1036.toNat)) != (IntKind.u8.wrap x1035))))) (v' := (.bool x1051)) (u := []) (u' := []) rfl (congrArg (fun z => ((.bool z) : AV)) hx1052) rfl trivial rfl (nx ⟨[(0, (eST_A64u8_A64u8_Z a0)), (1, (i6 x1035)), (5, (i6 x724)), (6, (i6 x1036)), (27, (.bool x1051))], []⟩ (by kernel_rfl) ?_)
            cases hb1053 : x1051
            · have h := ite_f hb1053 h
              refine a_cond_f rfl (a_skip (a_next (σ' := ⟨[(0, (eST_A64u8_A64u8_Z a0)), (1, (i6 x1035)), (5, (i6 x724)), (6, (i6 x1036))], []⟩) (by kernel_rfl) (a_region (vp (i6 x1035) rfl (vp (i6 (IntKind.i64.wrap (x1035 + 1))) rfl (vp (i6 (IntKind.i64.wrap (x1035 + 1))) rfl (a_nil (b_norm (a_next (σ' := ⟨[(0, (eST_A64u8_A64u8_Z a0)), (1, (i6 (IntKind.i64.wrap (x1035 + 1)))), (5, (i6 x724)), (6, (i6 x1036))], []⟩) (by kernel_rfl) ?_)))))))))
              refine a_region (vp (i6 x1036) rfl (vp (i6 (IntKind.i64.wrap (x1036 + 1))) rfl (vp (i6 (IntKind.i64.wrap (x1036 + 1))) rfl (a_nil ?_))))
              cases h
              exact a_again (by kernel_rfl) hX1046
            · have h := ite_t hb1053 h
              refine a_cond_t rfl (sr (vp (i6 (-1)) rfl (nx _ rfl (a_ret (t_ret (b_ret (t_ret ?_)))))))
              cases h
              have h := hX1046
              refine t_ret (b_ret (t_ret ?_))
              cases h
              have h := hk1027
              refine b_ret (t_ret ?_)
              cases h
              have h := hk996
              cases h
              have h := hX905
              refine t_ret (b_ret (t_ret ?_))
              cases h
              have h := hk544
              refine ⟨.inr rfl, ?_⟩
              rw [Try.results19]
              cases h
              exact ⟨_, _, _, _, _, rfl, trivial, .inl ⟨rfl, .inl rfl⟩, rfl, rfl⟩
end Go.Proofs.Ytdhcpekngpndnaa
